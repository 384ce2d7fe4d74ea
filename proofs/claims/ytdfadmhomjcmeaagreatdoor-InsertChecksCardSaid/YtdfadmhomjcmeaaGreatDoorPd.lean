
/- Walks of insert: parts of the term in memory, the map of parts; what stays while the inserter works. -/
import Derived.Test.YtdfadmhomjcmeaaGreatDoorNx
import Derived.Test.YtdfadmhomjcmeaaGreatDoorR4W
import Derived.Test.YtdfadmhomjcmeaaGreatDoorNz
import Derived.Test.YtdfadmhomjcmeaaGreatDoorLb
namespace Culp.Ins
set_option linter.unusedSimpArgs false
set_option linter.unusedVariables false
open Culp Culp.Tr
/-- A forest that is typed, its types as told. -/
def TypF (ts : Nat → Ty) (f : F) (g : Nat → Env) (k p : Nat) : Prop := ∃ K, chk false f g k p = .ok K ∧ Agr ts p ((K.map Prod.snd).flatten)
def Typ1 (ts : Nat → Ty) (x : Nd) (ks : F) (E : Env) (p : Nat) : Prop := TypF ts (.cons x ks .nil) (fun _ => E) 0 p
theorem TypF.cons {ts : Nat → Ty} {x : Nd} {ks r : F} {g : Nat → Env} {k p : Nat} (h : TypF ts (.cons x ks r) g k p) :
    (∃ t, nodeT false x (g k) p ((ks.places (p + 1)).map fun q => (q, ts q)) = .ok t) ∧ TypF ts ks (fun j => innerT x j (g k)) 0 (p + 1) ∧ TypF ts r g (k + 1) (p + 1 + ks.flat.length) := by
  obtain ⟨K, h, hA⟩ := h
  obtain ⟨K1, t, R, h1, h2, h3, h4, h5, rfl⟩ := F.chk_cons h
  have hl := F.chk_len false ks _ 0 (p + 1) K1 h2
  simp only [List.map_cons, List.flatten_cons] at hA
  have a1 := hA.left.tail
  have a2 := hA.right (n := 1 + ks.flat.length) (by rw [List.length_cons, hl]; omega)
  rw [show p + (1 + ks.flat.length) = p + 1 + ks.flat.length by omega] at a2
  rw [kid_types ts ks _ 0 (p + 1) K1 h2 a1] at h3
  exact ⟨⟨t, h3⟩, ⟨K1, h2, a1⟩, ⟨R, h5, a2⟩⟩
theorem TypF.first {ts : Nat → Ty} {x : Nd} {ks r : F} {g : Nat → Env} {k p : Nat} (h : TypF ts (.cons x ks r) g k p) : Typ1 ts x ks (g k) p := by
  obtain ⟨K, h, hA⟩ := h
  rw [chk_first] at h
  cases h1 : chk1 false x ks (g k) p with
  | error b => rw [h1] at h; cases h
  | ok L =>
    rw [h1] at h
    simp only at h
    cases h2 : chk false r g (k + 1) (p + 1 + ks.flat.length) with
    | error b => rw [h2] at h; cases h
    | ok R =>
      rw [h2] at h
      simp only [Except.map, Except.ok.injEq] at h
      subst h
      refine ⟨[(p, L)], ?_, ?_⟩
      · rw [chk_first, h1]
        rfl
      · simp only [List.map_cons, List.map_nil, List.flatten_cons, List.flatten_nil, List.append_nil] at hA ⊢
        exact hA.left
theorem ifits {same : Bool} : ∀ (f : F) (g : Nat → Env) (k p : Nat) (K : List (Nat × List Ty)), chk same f g k p = .ok K → ∀ a ∈ K, ∀ t ∈ a.2, t.fits
  | .nil, g, k, p, K, h => by
    simp only [chk, Except.ok.injEq] at h
    subst h
    simp
  | .cons x ks r, g, k, p, K, h => by
    obtain ⟨K1, t, R, _, h2, _, h4, h5, rfl⟩ := F.chk_cons h
    have i1 := ifits ks _ 0 (p + 1) K1 h2
    have i2 := ifits r g (k + 1) _ R h5
    intro a ha u hu
    rcases List.mem_cons.1 ha with rfl | ha
    · rcases List.mem_cons.1 hu with rfl | hu
      · exact h4
      · obtain ⟨l, hl, hul⟩ := List.mem_flatten.1 hu
        obtain ⟨b, hb, rfl⟩ := List.mem_map.1 hl
        exact i1 b hb u hul
    · exact i2 a ha u hu
theorem ilen {same : Bool} {x : Nd} {ks : F} {E : Env} {p : Nat} {ts : List Ty} (h : chk1 same x ks E p = .ok ts) : ts.length = 1 + ks.flat.length := by
  unfold chk1 at h
  cases hc : chk same (.cons x ks .nil) (fun _ => E) 0 p with
  | error b => rw [hc] at h; cases h
  | ok K =>
    rw [hc] at h
    injection h with h
    subst h
    have := F.chk_len same _ _ _ _ K hc
    simp only [F.flat, List.append_nil, List.length_cons] at this
    omega
end Culp.Ins
namespace Go.Proofs.YtdfadmhomjcmeaaGreatDoor
set_option linter.unusedSimpArgs false
set_option linter.unusedVariables false
open Go.RowKit Go.Maps Culp
/-- The cells of nodes, one behind the other. -/
def nfl (T : List Nd) : List Value := T.flatMap Nd.cells
theorem nfl_len (T : List Nd) : (nfl T).length = T.length * 8 := by
  induction T with
  | nil => rfl
  | cons x T ih =>
    have h8 : x.cells.length = 8 := rfl
    unfold nfl at ih ⊢
    rw [List.flatMap_cons, List.length_append, ih, h8, List.length_cons]
    omega
theorem nfl_one (T : List Nd) : ∀ u ∈ nfl T, u.oneCell' = true := by
  intro u hu
  obtain ⟨x, _, hx⟩ := List.mem_flatMap.1 hu
  simp only [Nd.cells, List.mem_cons, List.not_mem_nil, or_false] at hx
  rcases hx with rfl | rfl | rfl | rfl | rfl | rfl | rfl | rfl <;> rfl
theorem nfl_app (A B : List Nd) : nfl (A ++ B) = nfl A ++ nfl B := by simp [nfl]
/-- A part of the term, in a row made since the inserter was. -/
def PartV (W w : World) (v : Value) (T : List Nd) : Prop := w.ownsRow W.heap.size 38 8 v T.length (nfl T)
theorem PartV.shape {W w : World} {v : Value} {T : List Nd} (h : PartV W w v T) : ∃ A C, v = .slice A T.length C := own_shape h
theorem PartV.cells {W w : World} {A : Option Addr} {C n : Nat} {T : List Nd} (h : PartV W w (.slice A n C) T) (h0 : 0 < T.length) : ∃ ad, A = some ad ∧ ∀ j v, (nfl T)[j]? = some v → w.cell? (ad.add j) = some v := by
  rcases h.2 with ⟨_, h1⟩ | ⟨g, cap, cur, e, hB, hh, hc, hm, hsz, htk⟩
  · omega
  · simp only [Value.slice.injEq] at e
    obtain ⟨rfl, _, rfl⟩ := e
    refine ⟨_, rfl, fun j v hj => ?_⟩
    rw [← htk, List.getElem?_take] at hj
    have e1 : (⟨g, 0, none⟩ : Addr).add j = ⟨g, j, none⟩ := by
      unfold Addr.add
      split
      · rename_i h0; subst h0; rfl
      · simp
    rw [e1]
    split at hj
    · simp only [World.cell?, hh]; simpa using hj
    · cases hj
theorem PartV.later {W w w' : World} {v : Value} {T : List Nd} (h : PartV W w v T) (hb : Below w.heap.size w w') : PartV W w' v T := own_later h hb
/-- The row of sites is the same, or new. -/
def NewB (w : World) (a b : Value) : Prop := b.ownBlock = a.ownBlock ∨ ∃ g, b.ownBlock = some g ∧ w.heap.size ≤ g
theorem NewB.refl (w : World) (a : Value) : NewB w a a := .inl rfl
theorem NewB.trans {w w1 : World} {a b c : Value} (h : NewB w a b) (hs : w.heap.size ≤ w1.heap.size) (k : NewB w1 b c) : NewB w a c := by
  rcases k with k | ⟨g, k, hg⟩
  · unfold NewB; rw [k]; exact h
  · exact .inr ⟨g, k, by omega⟩
theorem KeepN.keepr {a r : Nat} {o : Option Nat} {w w1 w2 : World} (h : KeepN a o w w1) (k : Keep r w1 w2) (hr : w.heap.size ≤ r) : KeepN a o w w2 :=
  ⟨k.os.trans h.os, k.tape.trans h.tape, k.output.trans h.output, Nat.le_trans h.size k.size, fun i hi ha ho => (k.block i (Nat.lt_of_lt_of_le hi h.size) (by omega)).trans (h.block i hi ha ho)⟩
section
variable {W w w1 w' : World} {c r : Nat} {m : ByteArray} {tv yv sv sv1 : Value} {S D D1 D2 : List Ins.Sit}
theorem InAt.other {g : Nat} {o : Obj} (h : InAt W c m tv yv sv S w) (k : KeepN c sv.ownBlock w w1) (hg : w.heap[g]? = some o) (h1 : ∀ cs, o ≠ .cells cs 88 (0, 0)) (h2 : ∀ cs, o ≠ .cells cs 41 (0, 0)) : w1.heap[g]? = some o := by
  refine (k.block g (Array.getElem?_eq_some_iff.1 hg).1 ?_ ?_).trans hg
  · rintro rfl
    have := h.box
    rw [hg] at this
    injection this with this
    exact h1 _ this
  · exact own_ne h.own fun cur hc => by
      rw [hg] at hc
      injection hc with hc
      exact h2 _ hc
theorem InAt.blk {g : Nat} {cs : Array Value} {t : TypeId} {fr : Nat × Nat} (h : InAt W c m tv yv sv S w) (k : KeepN c sv.ownBlock w w1) (hg : w.heap[g]? = some (.cells cs t fr)) (h1 : t ≠ 88) (h2 : t ≠ 41) : w1.heap[g]? = some (.cells cs t fr) :=
  h.other k hg (fun cs e => by simp only [Obj.cells.injEq] at e; exact h1 e.2.1) (fun cs e => by simp only [Obj.cells.injEq] at e; exact h2 e.2.1)
theorem InAt.row {C size n : Nat} {e : TypeId} {v : Value} {xs : List Value} (h : InAt W c m tv yv sv S w) (k : KeepN c sv.ownBlock w w1) (hr : w.ownsRow C e size v n xs) (h1 : e ≠ 88) (h2 : e ≠ 41) : w1.ownsRow C e size v n xs := by
  refine k.own hr (own_ne hr fun cur hc => ?_) fun g hg he => own_apart_type hr h.own h2 g hg he
  have := h.box
  rw [hc] at this
  simp only [Option.some.injEq, Obj.cells.injEq] at this
  exact h1 this.2.1
theorem InAt.part {v : Value} {T : List Nd} (h : InAt W c m tv yv sv S w) (k : KeepN c sv.ownBlock w w1) (hr : PartV W w v T) : PartV W w1 v T := h.row k hr (by decide) (by decide)
theorem InAt.boxed {g : Nat} {x : Nd} (h : InAt W c m tv yv sv S w) (k : KeepN c sv.ownBlock w w1) (hX : Box g x w) : Box g x w1 := h.blk k hX (by decide) (by decide)
theorem InAt.mapAt {q : IntKind} {es : List (Int × Value)} (h : InAt W c m tv yv sv S w) (k : KeepN c sv.ownBlock w w1) (hm : MapAt w q r es) : MapAt w1 q r es := by
  obtain ⟨arr, clk, h1, h2⟩ := hm
  exact ⟨arr, clk, h.other k h1 (fun cs e => by cases e) (fun cs e => by cases e), h2⟩
theorem InAt.keepr (h : InAt W c m tv yv sv S w) (k : Keep r w w1) (hr : W.heap.size ≤ r) {q : IntKind} {es : List (Int × Value)} (hm : MapAt w q r es) : InAt W c m tv yv sv S w1 := by
  obtain ⟨arr, clk, h1, _⟩ := hm
  refine ⟨(k.block c h.lt ?_).trans h.box, own_keep h.own k fun cur hc => ?_, ⟨k.os.trans h.low.os, k.tape.trans h.low.tape, k.output.trans h.low.output, Nat.le_trans h.low.size k.size, fun i hi => (k.block i (Nat.lt_of_lt_of_le hi h.low.size) (by omega)).trans (h.low.block i hi)⟩, h.new⟩
  · rintro rfl
    have := h.box
    rw [h1] at this
    injection this with this
    cases this
  · rw [h1] at hc
    injection hc with hc
    cases hc
theorem mapAt_row {q : IntKind} {es : List (Int × Value)} {C size n : Nat} {e : TypeId} {v : Value} {xs : List Value} (hm : MapAt w q r es) (k : Keep r w w1) (hr : w.ownsRow C e size v n xs) : w1.ownsRow C e size v n xs := by
  obtain ⟨arr, clk, h1, _⟩ := hm
  refine own_keep hr k fun cur hc => ?_
  rw [h1] at hc
  injection hc with hc
  cases hc
theorem mapAt_cell {q : IntKind} {es : List (Int × Value)} {a : Addr} {v : Value} (hm : MapAt w q r es) (k : Keep r w w1) (hr : w.cell? a = some v) : w1.cell? a = some v := by
  obtain ⟨arr, clk, h1, _⟩ := hm
  refine k.cell hr ?_
  rintro rfl
  simp only [World.cell?, h1] at hr
  cases hr
theorem mapAt_boxed {q : IntKind} {es : List (Int × Value)} {g : Nat} {x : Nd} (hm : MapAt w q r es) (k : Keep r w w1) (hX : Box g x w) : Box g x w1 := by
  obtain ⟨arr, clk, h1, _⟩ := hm
  refine (k.block g (Array.getElem?_eq_some_iff.1 hX).1 ?_).trans hX
  rintro rfl
  unfold Box at hX
  rw [h1] at hX
  injection hX with hX
  cases hX
/-- Names as a part finds them: their row is older than the inserter, or one of texts. -/
def NamesV (W w : World) (v : Value) (L : List ByteArray) : Prop := Txts w v L ∧ (0 < L.length → ∀ g, v.ownBlock = some g → g < W.heap.size ∨ ∃ cur, w.heap[g]? = some (.cells cur 9 (0, 0)))
theorem NamesV.later {v : Value} {L : List ByteArray} (h : NamesV W w v L) (hb : Below w.heap.size w w1) : NamesV W w1 v L := ⟨h.1.later hb, fun h0 g hg => by
  rcases h.2 h0 g hg with h1 | ⟨cur, h1⟩
  · exact .inl h1
  · exact .inr ⟨cur, (hb.block g (Array.getElem?_eq_some_iff.1 h1).1).trans h1⟩⟩
theorem NamesV.keep {v : Value} {L : List ByteArray} (hN : NamesV W w v L) (h : InAt W c m tv yv sv S w) (k : KeepN c sv.ownBlock w w1) : NamesV W w1 v L := by
  obtain ⟨⟨A, C, rfl, h2, h3⟩, h4⟩ := hN
  refine ⟨⟨A, C, rfl, h2, fun h0 => ?_⟩, fun h0 g hg => ?_⟩
  · obtain ⟨g, o, rfl, hc⟩ := h3 h0
    refine ⟨g, o, rfl, fun j s hj => ?_⟩
    rcases h4 h0 g rfl with h5 | ⟨cur, h5⟩
    · refine k.cell (hc j s hj) (fun e => ?_) (fun e => ?_)
      · have := h.new
        have e : g = c := e
        omega
      · have := (h.own.lt g e).1
        omega
    · have h6 := h.blk k h5 (by decide) (by decide)
      have h7 := hc j s hj
      simp only [World.cell?, h5] at h7
      simpa only [World.cell?, h6] using h7
  · rcases h4 h0 g hg with h5 | ⟨cur, h5⟩
    · exact .inl h5
    · exact .inr ⟨cur, h.blk k h5 (by decide) (by decide)⟩
theorem NamesV.keepr {v : Value} {L : List ByteArray} (hN : NamesV W w v L) {q : IntKind} {es : List (Int × Value)} (hm : MapAt w q r es) (k : Keep r w w1) : NamesV W w1 v L := by
  obtain ⟨⟨A, C, rfl, h2, h3⟩, h4⟩ := hN
  refine ⟨⟨A, C, rfl, h2, fun h0 => ?_⟩, fun h0 g hg => ?_⟩
  · obtain ⟨g, o, rfl, hc⟩ := h3 h0
    exact ⟨g, o, rfl, fun j s hj => mapAt_cell hm k (hc j s hj)⟩
  · rcases h4 h0 g hg with h5 | ⟨cur, h5⟩
    · exact .inl h5
    · refine .inr ⟨cur, (k.block g (Array.getElem?_eq_some_iff.1 h5).1 ?_).trans h5⟩
      rintro rfl
      obtain ⟨arr, clk, h1, _⟩ := hm
      rw [h1] at h5
      injection h5 with h5
      cases h5
theorem NamesV.own {v : Value} {L : List ByteArray} {base n : Nat} (h : w.ownsRow base 9 1 v n (L.map Value.string)) : NamesV W w v L := ⟨Txts.own h, fun _ g hg => by
  rcases h.2 with ⟨rfl, _⟩ | ⟨g', cap, cur, rfl, _, hh, _⟩
  · cases hg
  · simp only [Value.ownBlock, Option.some.injEq] at hg
    subst hg
    exact .inr ⟨_, hh⟩⟩
theorem NamesV.full {A : Option Addr} {n C : Nat} {L : List ByteArray} (h : NamesV W w (.slice A n C) L) : NamesV W w (.slice A n n) L := by
  obtain ⟨⟨A', C', e, h2, h3⟩, h4⟩ := h
  simp only [Value.slice.injEq] at e
  obtain ⟨rfl, rfl, rfl⟩ := e
  exact ⟨⟨A, L.length, rfl, Nat.le_refl _, h3⟩, fun h0 g hg => h4 h0 g (by cases A <;> exact hg)⟩
/-- More texts behind those of a slice that has no spare room: a new row. -/
theorem run_append_txts {P : Program} {t ty e : TypeId} {A : Option Addr} {n c bytes : Nat} {L : List ByteArray} {z : Value} (ht : P.underlying t = some (.slice e)) (hi : (P.info? e).map (fun i => (i.zero, i.size, i.bytes)) = some (some z, 1, bytes)) (hz : z.cells.size = 1)
    (h : Txts w (.slice A n c) L) (g m c2 : Nat) (M : List ByteArray) (hM : M.length = m) (hm : 0 < m) (hnews : ∀ (j : Nat) (s : ByteArray), M[j]? = some s → w.cell? ⟨g, j, none⟩ = some (.string s)) (h63 : n + m ≤ 1000000000000000) (hby : (n + m) * bytes ≤ 140737488355328) :
    ∃ v' w', (Builtin.append_ #[t, t] ty #[.slice A n n, .slice (some ⟨g, 0, none⟩) m c2]).run P w = .ok v' w' ∧ w'.ownsRow w.heap.size e 1 v' (n + m) ((L ++ M).map Value.string) ∧ w.grownBy w' none := by
  obtain ⟨i, hi, hz0, hz1, hz2⟩ := info_parts hi
  obtain ⟨A', c', e1, h2, h3⟩ := h
  simp only [Value.slice.injEq] at e1
  obtain ⟨rfl, rfl, rfl⟩ := e1
  have hn2 : ∀ (j : Nat) (u : Value), (M.map Value.string)[j]? = some u → w.cell? ((⟨g, 0, none⟩ : Addr).add j) = some u := fun j u hu => by
    rw [List.getElem?_map, Option.map_eq_some_iff] at hu
    obtain ⟨s, hs, rfl⟩ := hu
    rw [Addr.add_lit, Nat.zero_add]
    exact hnews j s hs
  rw [List.map_append]
  cases A with
  | some b =>
    exact run_append_arg_grows w t ty e i z 1 bytes ht hi hz0 hz1 hz2 hz (by decide) b L.length L.length (L.map Value.string) (by simp) (fun j u hu => by
      rw [List.getElem?_map, Option.map_eq_some_iff] at hu
      obtain ⟨s, hs, rfl⟩ := hu
      obtain ⟨g', o, e2, hc⟩ := h3 (by have := (List.getElem?_eq_some_iff.1 hs).1; omega)
      injection e2 with e2
      subst e2
      rw [Addr.add_lit]
      exact hc j s hs) ⟨g, 0, none⟩ m c2 (M.map Value.string) (by simp [hM]) hn2 (by omega) (by unfold maxLen; omega) hby
  | none =>
    have h0 : L = [] := by
      cases L with
      | nil => rfl
      | cons a L =>
        obtain ⟨g', o, e2, hc⟩ := h3 (Nat.succ_pos _)
        cases e2
    subst h0
    obtain ⟨v', w', hrun, r1, r2, _⟩ := run_append_own (P := P) w w.heap.size t ty e i z 1 bytes ht hi hz0 hz1 hz2 hz (by decide) (.slice none 0 0) 0 [] (World.ownsRow_nil w _ e 1) ⟨g, 0, none⟩ m c2 (M.map Value.string) (by simp [hM]) hn2 (by
      intro u hu
      rw [List.mem_map] at hu
      obtain ⟨s, _, rfl⟩ := hu
      rfl) (by unfold maxLen; simp only [List.length_nil] at h63; omega) (by simpa using hby) (Nat.le_refl _)
    exact ⟨v', w', hrun, by simpa using r1, r2⟩
/-- A part of the term is answered; the sites have grown. -/
def LayRes (W : World) (c : Nat) (m : ByteArray) (tv yv sv : Value) (S : List Ins.Sit) (R : List Nd × List Ins.Sit) (w : World) (E : Ending) (w' : World) : Prop :=
  ∃ v sv', E = .returned v ∧ PartV W w' v R.1 ∧ InAt W c m tv yv sv' (S ++ R.2) w' ∧ KeepN c sv.ownBlock w w' ∧ NewB w sv sv'
theorem LayRes.after {T : List Nd} {E : Ending} (k : KeepN c sv.ownBlock w w1) (ho : NewB w sv sv1) (h : LayRes W c m tv yv sv1 (S ++ D1) (T, D2) w1 E w') : LayRes W c m tv yv sv S (T, D1 ++ D2) w E w' := by
  obtain ⟨v, sv', rfl, h1, h2, h3, h4⟩ := h
  refine ⟨v, sv', rfl, h1, ?_, k.trans h3 ho, ho.trans k.size h4⟩
  rw [List.append_assoc] at h2
  exact h2
/-- The parts of the kids that were made, by their places. -/
def PartsAt (W w : World) (r : Nat) (K : List Ins.Kd) : Prop := ∃ es, MapAt w .i64 r es ∧ ∀ k ∈ K, ∃ v, es.lookup (k.p : Int) = some v ∧ PartV W w v k.T
theorem PartsAt.none (W w : World) : PartsAt W (w.alloc (.map #[] 0)) w.heap.size [] := ⟨[], MapAt.made w .i64, fun k hk => by cases hk⟩
theorem PartsAt.map {K : List Ins.Kd} (h : PartsAt W w r K) : ∃ es, MapAt w .i64 r es := by
  obtain ⟨es, h, _⟩ := h
  exact ⟨es, h⟩
theorem PartsAt.later {K : List Ins.Kd} (h : PartsAt W w r K) (hb : Below w.heap.size w w1) : PartsAt W w1 r K := by
  obtain ⟨es, h1, h2⟩ := h
  refine ⟨es, h1.later hb h1.lt, fun k hk => ?_⟩
  obtain ⟨v, a, b⟩ := h2 k hk
  exact ⟨v, a, b.later hb⟩
theorem InAt.parts {K : List Ins.Kd} (h : InAt W c m tv yv sv S w) (k : KeepN c sv.ownBlock w w1) (hP : PartsAt W w r K) : PartsAt W w1 r K := by
  obtain ⟨es, h1, h2⟩ := hP
  refine ⟨es, h.mapAt k h1, fun d hd => ?_⟩
  obtain ⟨v, a, b⟩ := h2 d hd
  exact ⟨v, a, h.part k b⟩
theorem PartsAt.put {K K' : List Ins.Kd} {q : Int} {v : Value} {T : List Nd} (h : PartsAt W w r K) (hv : PartV W w v T) (hK : ∀ k ∈ K', ((k.p : Int) = q ∧ k.T = T) ∨ ((k.p : Int) ≠ q ∧ k ∈ K)) {P : Program} {t kt et : TypeId} (ht : P.underlying t = some (.map kt et)) (hk : P.underlying kt = some (.int .i64)) :
    ∃ w', (Instr.mapUpdate t (.map (some r)) (.int .i64 q) v).run P w = .ok () w' ∧ PartsAt W w' r K' ∧ Keep r w w' := by
  obtain ⟨es, h1, h2⟩ := h
  obtain ⟨w', hr, hm, ho, htp, hou, hsz, hbl⟩ := run_update (P := P) w t kt et .i64 ht hk r es q v h1
  have hkp : Keep r w w' := ⟨ho, htp, hou, Nat.le_of_eq hsz.symm, fun i _ hi => hbl i hi⟩
  refine ⟨w', hr, ⟨_, hm, fun k hk => ?_⟩, hkp⟩
  rcases hK k hk with ⟨e1, e2⟩ | ⟨e1, e2⟩
  · refine ⟨v, by rw [e1]; exact upd_same es q v, ?_⟩
    rw [e2]
    exact mapAt_row h1 hkp hv
  · obtain ⟨u, a, b⟩ := h2 k e2
    exact ⟨u, by rw [upd_other es q v e1]; exact a, mapAt_row h1 hkp b⟩
theorem PartsAt.get {K : List Ins.Kd} {k : Ins.Kd} (h : PartsAt W w r K) (hk : k ∈ K) {P : Program} {t kt et : TypeId} (ht : P.underlying t = some (.map kt et)) (hkt : P.underlying kt = some (.int .i64)) :
    ∃ v, PartV W w v k.T ∧ (Instr.lookup t (.map (some r)) (.int .i64 (k.p : Int)) false).run P w = .ok v w := by
  obtain ⟨es, h1, h2⟩ := h
  obtain ⟨v, a, b⟩ := h2 k hk
  exact ⟨v, b, run_lookup_there w t kt et .i64 ht hkt r es _ v h1 a⟩
end
/-- An entry is laid in a map. -/
theorem wpList_insert_run {P : Program} {w w' : World} {ops : Array Oper} {rest : List Oper} {o : Oper} {a : Act} {Q : Exit → Act → World → Prop}
    (hg : o.guard = none) (m x v : Operand) (t : TypeId) (hop : o.op = Op.insert t m x v) (mv xv vv : Value) (hm : a.eval m = mv) (hx : a.eval x = xv) (hv : a.eval v = vv) (hrun : (Instr.mapUpdate t mv xv vv).run P w = .ok () w')
    (hK : wpList P ops Q rest (a.put o.dst undef) w') : wpList P ops Q (o :: rest) a w := by
  refine wpList_plain hg fun K' hK' => ?_
  unfold Oper.wp
  simp [execOp, hop, hm, hx, hv, hrun, Result.andThen]
  exact hK' _ _ hK
theorem wpList_lookup_run {P : Program} {w : World} {ops : Array Oper} {rest : List Oper} {o : Oper} {a : Act} {Q : Exit → Act → World → Prop}
    (hg : o.guard = none) (m x : Operand) (t : TypeId) (hop : o.op = Op.lookup t m x false) (mv xv u : Value) (hm : a.eval m = mv) (hx : a.eval x = xv) (hrun : (Instr.lookup t mv xv false).run P w = .ok u w)
    (hK : wpList P ops Q rest (a.put o.dst u) w) : wpList P ops Q (o :: rest) a w := by
  refine wpList_plain hg fun K' hK' => ?_
  unfold Oper.wp
  simp [execOp, hop, hm, hx, hrun, Result.andThen]
  exact hK' _ _ hK
end Go.Proofs.YtdfadmhomjcmeaaGreatDoor

/- Walks of insert: what is so ahead of a kid's part; a kid's part was made. -/
namespace Go.Proofs.YtdfadmhomjcmeaaGreatDoor
set_option linter.unusedSimpArgs false
set_option linter.unusedVariables false
open Go.RowKit Go.Maps Culp
/-- What is known of the parts below some height. -/
def PartI (T : List Nd) (W : World) (ts : Nat → Ty) (c : Nat) (m : ByteArray) (tv yv : Value) (n : Nat) : Prop := ∀ (x : Nd) (ks : Tr.F) (pre post : List Nd) (p : Nat) (env : Tr.Env) (N : List ByteArray) (nv sv : Value) (S : List Ins.Sit) (w : World),
  ks.hgt < n → T = pre ++ x :: (ks.flat ++ post) → pre.length = p → (Tr.F.cons x ks .nil).Ok → Ins.Typ1 ts x ks env p → env.map Prod.fst = N.reverse → NamesV W w nv N → N.length + 2 * n ≤ 1000000 → InAt W c m tv yv sv S w → S.length + 4 * (1 + ks.flat.length) ≤ 8000000 →
  Calls Tryz.prog 27 #[.pointer (some ⟨c, 0, none⟩), .int .i64 (p : Int), nv] w (LayRes W c m tv yv sv S (Ins.ins1 ts x ks N.reverse p S.length) w)
/-- What is so ahead of a kid's part. -/
structure PL (T : List Nd) (W : World) (ts : Nat → Ty) (c : Nat) (m : ByteArray) (tv yv sv : Value) (S : List Ins.Sit) (x : Nd) (ks : Tr.F) (post : List Nd) (p : Nat) (env : Tr.Env) (N : List ByteArray) (nv : Value) (w : World) (bx r C0 : Nat) (kv : Value) (k : Nat) (f : Tr.F) (pr : List Nd) (K : List Ins.Kd) (D : List Ins.Sit) (sv1 : Value) (wr : World) : Prop where
  eq : T = pr ++ (f.flat ++ post)
  ok : f.Ok
  hgt : f.hgt ≤ ks.hgt
  cnt : k + f.cnt = ks.cnt
  places : ∀ j, (f.places pr.length)[j]? = (ks.places (p + 1))[k + j]?
  typ : Ins.TypF ts f (fun j => Tr.innerT x j env) k pr.length
  rest : Ins.insF ts ks (fun j => Ins.innerN x j N.reverse) 0 (p + 1) S.length = (K ++ (Ins.insF ts f (fun j => Ins.innerN x j N.reverse) k pr.length (S.length + D.length)).1, D ++ (Ins.insF ts f (fun j => Ins.innerN x j N.reverse) k pr.length (S.length + D.length)).2)
  old : ∀ d ∈ K, d.p < pr.length
  few : D.length + 4 * f.flat.length ≤ 4 * ks.flat.length
  ins : InAt W c m tv yv sv1 (S ++ D) wr
  kept : KeepN c sv.ownBlock w wr
  new : NewB w sv sv1
  parts : PartsAt W wr r K
  box : Box bx x wr
  kids : wr.ownsRow C0 3 1 kv ks.cnt ((ks.places (p + 1)).map natV)
  names : NamesV W wr nv N
  rnew : w.heap.size ≤ r
section
variable {T : List Nd} {W : World} {ts : Nat → Ty} {c : Nat} {m : ByteArray} {tv yv sv : Value} {S : List Ins.Sit} {x : Nd} {ks : Tr.F} {post : List Nd} {p : Nat} {env : Tr.Env} {N : List ByteArray} {nv : Value} {w : World} {bx r C0 : Nat} {kv : Value} {k : Nat} {y : Nd} {ky f : Tr.F} {pr : List Nd} {K : List Ins.Kd} {D : List Ins.Sit} {sv1 : Value} {wr w' : World}
theorem PL.later (h : PL T W ts c m tv yv sv S x ks post p env N nv w bx r C0 kv k f pr K D sv1 wr) (hb : Below wr.heap.size wr w') : PL T W ts c m tv yv sv S x ks post p env N nv w bx r C0 kv k f pr K D sv1 w' :=
  { h with ins := h.ins.later hb, kept := h.kept.trans (KeepN.of c sv.ownBlock hb) (.inl rfl), parts := h.parts.later hb, box := h.box.later hb, kids := own_later h.kids hb, names := h.names.later hb }
/-- A kid's part was made, and laid in the map. -/
theorem PL.step {v : Value} (h : PL T W ts c m tv yv sv S x ks post p env N nv w bx r C0 kv k (.cons y ky f) pr K D sv1 wr) (hW : Below W.heap.size W w)
    (hp : LayRes W c m tv yv sv1 (S ++ D) (Ins.ins1 ts y ky (Ins.innerN x k N.reverse) pr.length (S.length + D.length)) wr (.returned v) w') {P : Program} {t kt et : TypeId} (ht : P.underlying t = some (.map kt et)) (hk : P.underlying kt = some (.int .i64)) :
    ∃ w2 K2 D2 sv2, (Instr.mapUpdate t (.map (some r)) (.int .i64 (pr.length : Int)) v).run P w' = .ok () w2 ∧ PL T W ts c m tv yv sv S x ks post p env N nv w bx r C0 kv (k + 1) f (pr ++ y :: ky.flat) K2 D2 sv2 w2 := by
  obtain ⟨v0, sv2, e, hv, hI, hK, hN⟩ := hp
  injection e with e
  subst e
  have hst := Ins.ins1_sites ts y ky (Ins.innerN x k N.reverse) pr.length (S.length + D.length)
  generalize hR : Ins.ins1 ts y ky (Ins.innerN x k N.reverse) pr.length (S.length + D.length) = R at *
  have hP1 := h.ins.parts hK h.parts
  have hlen : (pr ++ y :: ky.flat).length = pr.length + 1 + ky.flat.length := by rw [List.length_append, List.length_cons]; omega
  obtain ⟨w2, hrun, hP2, hk2⟩ := hP1.put (K' := K ++ [⟨pr.length, R.1, ts pr.length, y.line, y.col⟩]) (q := (pr.length : Int)) hv (fun d hd => by
    rcases List.mem_append.1 hd with hd | hd
    · have := h.old d hd
      exact .inr ⟨by omega, hd⟩
    · rw [List.mem_singleton] at hd
      subst hd
      exact .inl ⟨rfl, rfl⟩) (P := P) (t := t) (kt := kt) (et := et) ht hk
  obtain ⟨es, hm⟩ := hP1.map
  have hwr : W.heap.size ≤ r := Nat.le_trans hW.size h.rnew
  have hfl : (Tr.F.cons y ky f).flat.length = 1 + ky.flat.length + f.flat.length := by simp [Tr.F.flat]; omega
  refine ⟨w2, K ++ [⟨pr.length, R.1, ts pr.length, y.line, y.col⟩], D ++ R.2, sv2, hrun, ?_⟩
  exact {
    eq := by rw [h.eq]; simp [Tr.F.flat]
    ok := h.ok.2.2
    hgt := by have := h.hgt; simp only [Tr.F.hgt] at this; omega
    cnt := by have := h.cnt; simp only [Tr.F.cnt] at this; omega
    places := fun j => by
      have := h.places (j + 1)
      rw [show k + 1 + j = k + (j + 1) by omega, ← this, hlen]
      rfl
    typ := by rw [hlen]; exact h.typ.cons.2.2
    rest := by
      have := h.rest
      rw [Ins.insF_cons, hR] at this
      rw [this, hlen, List.length_append, Nat.add_assoc S.length]
      simp
    old := fun d hd => by
      rw [hlen]
      rcases List.mem_append.1 hd with hd | hd
      · have := h.old d hd
        omega
      · rw [List.mem_singleton] at hd
        subst hd
        simp only
        omega
    few := by
      have := h.few
      rw [hfl] at this
      rw [List.length_append]
      omega
    ins := by
      rw [← List.append_assoc]
      exact hI.keepr hk2 hwr hm
    kept := (h.kept.trans hK h.new).keepr hk2 h.rnew
    new := h.new.trans h.kept.size hN
    parts := hP2
    box := mapAt_boxed hm hk2 (h.ins.boxed hK h.box)
    kids := mapAt_row hm hk2 (h.ins.row hK h.kids (by decide) (by decide))
    names := (h.names.keep h.ins hK).keepr hm hk2
    rnew := h.rnew }
/-- The walk of a kid's part. -/
theorem PL.kid {n : Nat} {iv : Value} (h : PL T W ts c m tv yv sv S x ks post p env N nv w bx r C0 kv k (.cons y ky f) pr K D sv1 wr) (hup : PartI T W ts c m tv yv n) (hh : ks.hgt < n + 1) (hen : env.map Prod.fst = N.reverse) (h8 : x.kind = 8 → ks.cnt = 2) (hNl : N.length + 2 * (n + 1) ≤ 1000000) (hSl : S.length + 4 * (1 + ks.flat.length) ≤ 8000000)
    (hiv : NamesV W wr iv (N ++ Tr.binds x k)) :
    Calls Tryz.prog 27 #[.pointer (some ⟨c, 0, none⟩), .int .i64 (pr.length : Int), iv] wr (LayRes W c m tv yv sv1 (S ++ D) (Ins.ins1 ts y ky (Ins.innerN x k N.reverse) pr.length (S.length + D.length)) wr) := by
  have hk : k < ks.cnt := by have := h.cnt; simp only [Tr.F.cnt] at this; omega
  have hrev : (N ++ Tr.binds x k).reverse = Ins.innerN x k N.reverse := Ins.inner_rev fun e => by have := h8 e; omega
  have hbl : (Tr.binds x k).length ≤ 2 := by
    unfold Tr.binds
    split
    · simp
    · split
      · cases Tr.two x.s.data.toList with
        | none => simp
        | some ab => obtain ⟨a, b⟩ := ab; simp
      · split <;> simp
  have hg := h.hgt
  simp only [Tr.F.hgt] at hg
  have hf := h.few
  have hfl : (Tr.F.cons y ky f).flat.length = 1 + ky.flat.length + f.flat.length := by simp [Tr.F.flat]; omega
  have := hup y ky pr (f.flat ++ post) pr.length (Tr.innerT x k env) (N ++ Tr.binds x k) iv sv1 (S ++ D) wr (by omega) (by rw [h.eq]; simp [Tr.F.flat]) rfl ⟨h.ok.1, h.ok.2.1, trivial⟩ h.typ.first (by rw [Ins.innerN_map, hen, hrev]) hiv (by rw [List.length_append]; omega) h.ins (by rw [List.length_append]; omega)
  rw [hrev, List.length_append] at this
  exact this
/-- Ahead of the first kid. -/
theorem PL.start {pre : List Nd} {w4 : World} (hT : T = pre ++ x :: (ks.flat ++ post)) (hp : pre.length = p) (hO : (Tr.F.cons x ks .nil).Ok) (hty : Ins.Typ1 ts x ks env p) (hI : InAt W c m tv yv sv S w4) (hb : Below w.heap.size w w4) (hbx : Box bx x w4) (hk : w4.ownsRow C0 3 1 kv ks.cnt ((ks.places (p + 1)).map natV)) (hn : NamesV W w4 nv N) :
    PL T W ts c m tv yv sv S x ks post p env N nv w bx w4.heap.size C0 kv 0 ks (pre ++ [x]) [] [] sv (w4.alloc (.map #[] 0)) := by
  have hlen : (pre ++ [x]).length = p + 1 := by rw [List.length_append, hp]; rfl
  have hb5 : Below w4.heap.size w4 (w4.alloc (.map #[] 0)) := (Below.refl _ _).alloc (Nat.le_refl _) _
  exact {
    eq := by rw [hT]; simp
    ok := hO.2.1
    hgt := Nat.le_refl _
    cnt := Nat.zero_add _
    places := fun j => by rw [hlen, Nat.zero_add]
    typ := by rw [hlen]; exact hty.cons.2.1
    rest := by rw [hlen]; simp
    old := fun d hd => by cases hd
    few := by simp
    ins := by rw [List.append_nil]; exact hI.later hb5
    kept := KeepN.of c _ (below_later hb5 hb)
    new := NewB.refl w sv
    parts := PartsAt.none W w4
    box := hbx.later hb5
    kids := own_later hk hb5
    names := hn.later hb5
    rnew := hb.size }
end
end Go.Proofs.YtdfadmhomjcmeaaGreatDoor

/- Walks of insert: a cast is laid around a part of the term. -/
namespace Go.Proofs.YtdfadmhomjcmeaaGreatDoor
set_option linter.unusedSimpArgs false
set_option linter.unusedVariables false
open Go.RowKit Go.Maps Culp
theorem site_info : (Tryz.prog.info? 41).map (fun i => (i.zero, i.size, i.bytes)) = some (some (.agg #[.string ByteArray.empty, .string ByteArray.empty, .int .i64 0, .int .i64 0, .int .i64 0]), 5, 56) := by kernel_rfl
theorem inode_info : (Tryz.prog.info? 38).map (fun i => (i.zero, i.size, i.bytes)) = some (some (.agg #[.int .i8 0, .int .i64 0, .int .i64 0, .string ByteArray.empty, .string ByteArray.empty, .string ByteArray.empty, .int .i64 0, .int .i64 0]), 8, 88) := by kernel_rfl
theorem build_site (w : World) (m : ByteArray) (l c r : Int) : (Instr.buildSlice 28 1 #[(0, .agg #[.string m, .string { data := #[] }, .int .i64 l, .int .i64 c, .int .i64 r])]).run Tryz.prog w = .ok (.slice (some ⟨w.heap.size, 0, none⟩) 1 1) (w.alloc (.cells #[.string m, .string { data := #[] }, .int .i64 l, .int .i64 c, .int .i64 r] 41)) := by
  simp [go_sem, Instr.buildSlice, run_underlying Tryz.underlying28]
theorem build_cast (w : World) (n l c : Int) (s u : ByteArray) : (Instr.buildSlice 22 1 #[(0, .agg #[.int .i8 30, .int .i64 1, .int .i64 n, .string { data := #[] }, .string s, .string u, .int .i64 l, .int .i64 c])]).run Tryz.prog w = .ok (.slice (some ⟨w.heap.size, 0, none⟩) 1 1) (w.alloc (.cells #[.int .i8 30, .int .i64 1, .int .i64 n, .string { data := #[] }, .string s, .string u, .int .i64 l, .int .i64 c] 38)) := by
  simp [go_sem, Instr.buildSlice, run_underlying Tryz.underlying22]
/-- A new row of one node. -/
theorem own_one {w : World} {base : Nat} (x : Nd) (hb : base ≤ w.heap.size) : (w.alloc (.cells x.cells.toArray 38)).ownsRow base 38 8 (.slice (some ⟨w.heap.size, 0, none⟩) 1 1) 1 x.cells :=
  ⟨rfl, .inr ⟨w.heap.size, 1, x.cells.toArray, rfl, hb, (MapKept.heap_alloc w _).1, Nat.le_refl _, by decide, rfl, rfl⟩⟩
/-- A part behind a row of nodes. -/
theorem run_append_part {W w : World} {t ty : TypeId} {v u : Value} {n base : Nat} {xs : List Value} {T : List Nd} (ht : Tryz.prog.underlying t = some (.slice 38)) (hown : w.ownsRow base 38 8 v n xs) (hu : PartV W w u T) (h63 : n + T.length ≤ 1000000000) (hbase : base ≤ w.heap.size) :
    ∃ v' w', (Builtin.append_ #[t, t] ty #[v, u]).run Tryz.prog w = .ok v' w' ∧ w'.ownsRow base 38 8 v' (n + T.length) (xs ++ nfl T) ∧ w.grownBy w' v.ownBlock ∧ (v'.ownBlock = v.ownBlock ∨ v'.ownBlock = some w.heap.size) := by
  obtain ⟨i, hi, hz0, hz1, hz2⟩ := info_parts inode_info
  have hl := nfl_len T
  rcases hu.2 with ⟨rfl, h0⟩ | ⟨g, cap, cur, rfl, hB, hh, hc, hm, hsz, htk⟩
  · refine ⟨v, w, ?_, ?_, World.grownBy.refl w _, .inl rfl⟩
    · exact run_append_none w base t ty _ i 8 ht hi v n xs hown 0
    · have e : nfl T = [] := List.eq_nil_of_length_eq_zero (by omega)
      rw [h0, e, List.append_nil]
      exact hown
  · obtain ⟨v', w', a1, a2, a3, _, a5⟩ := run_append_own_at (P := Tryz.prog) w base t ty 38 i _ 8 88 ht hi hz0 hz1 hz2 rfl (by decide) v n xs hown ⟨g, 0, none⟩ T.length cap (nfl T) hl (by
      intro j u hj
      rw [Addr.add_lit, Nat.zero_add]
      rw [← htk, List.getElem?_take] at hj
      split at hj
      · simp only [World.cell?, hh]; simpa using hj
      · cases hj) (nfl_one T) (by unfold maxLen; omega) (by omega) hbase
    exact ⟨v', w', a1, a2, a3, a5⟩
set_option maxRecDepth 100000 in
set_option maxHeartbeats 3200000 in
theorem lay_cast {W w : World} {c : Nat} {m : ByteArray} {tv yv sv pv : Value} {S : List Ins.Sit} {T : List Nd} (s u : Ty) (hne : s ≠ u) (l cl r : Int) (hv : PartV W w pv T) (hT : T.length ≤ 10000000) (h : InAt W c m tv yv sv S w) (hS : S.length ≤ 10000000) :
    Calls Tryz.prog 67 #[.pointer (some ⟨c, 0, none⟩), pv, .string s.str, .string u.str, .agg #[.int .i64 l, .int .i64 cl], .int .i64 r] w
      (LayRes W c m tv yv sv S (Ins.cast s u l cl (S.length + 1) :: T, [(l, cl, r)]) w) := by
  have es : (s.str.toList == u.str.toList) = false := beq_eq_false_iff_ne.2 (by rw [toL', toL']; exact fun h => hne (str_inj (str_inj' h)))
  have hb1 := (Below.refl w.heap.size w).alloc (Nat.le_refl _) (.cells #[.int .i64 l, .int .i64 cl] 36)
  have HI1 := Lib.hid (h.later hb1)
  have HV1 := Lib.hid (hv.later hb1)
  have HB1 := Lib.hid hb1
  have HP1 : Hid ((w.alloc (.cells #[.int .i64 l, .int .i64 cl] 36)).heap[w.heap.size]? = some (.cells #[.int .i64 l, .int .i64 cl] 36 (0, 0))) := Lib.hid (MapKept.heap_alloc w _).1
  have HC : Hid (S.length + 1 ≤ 100000000) := Lib.hid (by omega)
  obtain ⟨A, C, rfl⟩ := hv.shape
  obtain ⟨As, Cs, rfl⟩ := own_shape h.own
  clear hb1 hv h hne
  go_enter Tryz.func67, Tryz.ntmps67
  go_wp2_with fail
  generalize w.alloc (.cells #[.int .i64 l, .int .i64 cl] 36) = w1 at *
  have c0 := HI1.out.c0
  have c3 := HI1.out.c3
  have b0 : w1.cell? ⟨w.heap.size, 0, none⟩ = some (.int .i64 l) := by simp [World.cell?, HP1.out]
  have b1 : w1.cell? ⟨w.heap.size, 1, none⟩ = some (.int .i64 cl) := by simp [World.cell?, HP1.out]
  refine wp_region_last (S := fun w' => w'.cell? ⟨c, 0, none⟩ = some (.string m) ∧ w'.cell? ⟨c, 3, none⟩ = some (.slice As S.length Cs) ∧ w'.cell? ⟨w.heap.size, 0, none⟩ = some (.int .i64 l) ∧ w'.cell? ⟨w.heap.size, 1, none⟩ = some (.int .i64 cl)) 16 [(0, true), (1, true), (2, true), (3, true), (4, true), (5, true), (6, true), (7, true), (8, true), (9, true), (10, true), (11, true), (12, false), (13, false), (14, true), (15, true)] (by kernel_rfl) (by kernel_rfl) (by kernel_rfl) (fun _ _ _ _ _ h => h) ⟨c0, c3, b0, b1⟩ ?_
  intro HS
  repeat (first | (apply wpPlan_look; rfl; rfl; (intro wq hq; (try dsimp only at hq); go_split_ands; go_simp; (try rw [if_neg (by omega)]); (try rw [if_pos (by omega)]); try with_reducible rfl); simp only [Act.put, List.setIfInBounds_toArray, List.set_cons_zero, List.set_cons_succ]) | (apply wpPlan_skip; rfl; rfl; simp only [Act.put, List.setIfInBounds_toArray, List.set_cons_zero, List.set_cons_succ]) | (apply wpPlan_pass; rfl; rfl; assumption; simp only [Act.put, List.setIfInBounds_toArray, List.set_cons_zero, List.set_cons_succ]))
  have hb2 : Below w1.heap.size w1 (w1.drew.alloc (.cells #[.string m, .string { data := #[] }, .int .i64 l, .int .i64 cl, .int .i64 r] 41)) := (Below.refl _ _).drew.alloc (Nat.le_refl _) _
  have q0 := cell_later hb2 c0
  have q3 := cell_later hb2 c3
  have p0 := cell_later hb2 b0
  have p1 := cell_later hb2 b1
  refine wpPlan_run rfl rfl (by simp [execOp, go_sem, build_site]; (first | exact ⟨rfl, rfl⟩ | rfl)) _ (fun _ h => h) ⟨q0, q3, p0, p1⟩ ?_
  simp only [Act.put, List.setIfInBounds_toArray, List.set_cons_zero, List.set_cons_succ]
  repeat (first | (apply wpPlan_look; rfl; rfl; (intro wq hq; (try dsimp only at hq); go_split_ands; go_simp; (try rw [if_neg (by omega)]); (try rw [if_pos (by omega)]); try with_reducible rfl); simp only [Act.put, List.setIfInBounds_toArray, List.set_cons_zero, List.set_cons_succ]) | (apply wpPlan_skip; rfl; rfl; simp only [Act.put, List.setIfInBounds_toArray, List.set_cons_zero, List.set_cons_succ]) | (apply wpPlan_pass; rfl; rfl; assumption; simp only [Act.put, List.setIfInBounds_toArray, List.set_cons_zero, List.set_cons_succ]))
  have HI2 := Lib.hid (HI1.out.later hb2)
  have HV2 := Lib.hid (HV1.out.later hb2)
  have HB2 := Lib.hid (below_later hb2 HB1.out)
  have HP2 := Lib.hid ((hb2.block _ (Array.getElem?_eq_some_iff.1 HP1.out).1).trans HP1.out)
  obtain ⟨i, hi, hz0, hz1, hz2⟩ := info_parts site_info
  obtain ⟨v3, w3, hrun, hown3, hg3, _, hat3⟩ := run_append_own_at (P := Tryz.prog) _ W.heap.size 28 28 41 i _ 5 56 Tryz.underlying28 hi hz0 hz1 hz2 rfl (by decide) _ S.length _ HI2.out.own ⟨w1.heap.size, 0, none⟩ 1 1 (scells m (l, cl, r)) rfl (by
    intro j u hj
    rw [Addr.add_lit, Nat.zero_add]
    change (w1.drew.alloc (.cells #[.string m, .string { data := #[] }, .int .i64 l, .int .i64 cl, .int .i64 r] 41)).cell? ⟨w1.drew.heap.size, j, none⟩ = some u
    rw [World.cell?_alloc_at _ _ _ _ rfl]
    simpa [scells] using hj) (by intro v hv; simp [scells] at hv; rcases hv with rfl | rfl | rfl | rfl | rfl <;> rfl) (by have := HC.out; unfold maxLen; omega) (by have := HC.out; omega) HI2.out.low.size
  obtain ⟨A3, C3, rfl⟩ := own_shape hown3
  have hnb : NewB (w1.drew.alloc (.cells #[.string m, .string { data := #[] }, .int .i64 l, .int .i64 cl, .int .i64 r] 41)) (.slice As S.length Cs) (.slice A3 (S.length + 1) C3) := by
    rcases hat3 with e | e
    · exact .inl e
    · exact .inr ⟨_, e, Nat.le_refl _⟩
  have hb3 : Below W.heap.size W w3 := HI2.out.low.grown hg3 HI2.out.low.size fun k hk => (HI2.out.own.lt k hk).1
  have hG := InAt.grow (s := (l, cl, r)) HI2.out hown3 hg3 hnb hb3
  have HI4 := Lib.hid hG.1
  have HK4 := Lib.hid hG.2
  have hbx : w3.heap[c]? = some (.cells #[.string m, tv, yv, .slice As S.length Cs] 88 (0, 0)) := (hg3.block c HI2.out.lt (fun e => HI2.out.ne e.symm)).trans HI2.out.box
  have r3 : w3.cell? ⟨c, 3, none⟩ = some (.slice As S.length Cs) := by simp [World.cell?, hbx]
  have r0 : w3.cell? ⟨c, 0, none⟩ = some (.string m) := by simp [World.cell?, hbx]
  have f3 : w3.frozen? ⟨c, 3, none⟩ = false := by simp [World.frozen?, hbx]
  have hpl : w3.heap[w.heap.size]? = some (.cells #[.int .i64 l, .int .i64 cl] 36 (0, 0)) := (hg3.block _ (Array.getElem?_eq_some_iff.1 HP2.out).1 (fun e => own_ne HI2.out.own (fun cur hc => by
    rw [HP2.out] at hc
    simp only [Option.some.injEq, Obj.cells.injEq] at hc
    exact absurd hc.2.1 (by decide)) e.symm)).trans HP2.out
  have s0 : w3.cell? ⟨w.heap.size, 0, none⟩ = some (.int .i64 l) := by simp [World.cell?, hpl]
  have s1 : w3.cell? ⟨w.heap.size, 1, none⟩ = some (.int .i64 cl) := by simp [World.cell?, hpl]
  refine wpPlan_run rfl rfl (exec_append rfl rfl rfl rfl hrun) _ (fun _ h => h) ⟨r0, r3, s0, s1⟩ ?_
  have HNW : Hid (NewB w (.slice As S.length Cs) (.slice A3 (S.length + 1) C3)) := Lib.hid ((NewB.refl w _).trans HB2.out.size hnb)
  clear HS c0 c3 b0 b1 q0 q3 p0 p1 hb2 hrun hown3 hg3 hat3 hnb hb3 hG hbx hpl hi hz0 hz1 hz2 i
  generalize w1.drew.alloc (.cells #[.string m, .string { data := #[] }, .int .i64 l, .int .i64 cl, .int .i64 r] 41) = w2 at *
  simp only [Act.put, List.setIfInBounds_toArray, List.set_cons_zero, List.set_cons_succ]
  repeat (first | (apply wpPlan_look; rfl; rfl; (intro wq hq; (try dsimp only at hq); go_split_ands; go_simp; (try rw [if_neg (by omega)]); (try rw [if_pos (by omega)]); try with_reducible rfl); simp only [Act.put, List.setIfInBounds_toArray, List.set_cons_zero, List.set_cons_succ]) | (apply wpPlan_skip; rfl; rfl; simp only [Act.put, List.setIfInBounds_toArray, List.set_cons_zero, List.set_cons_succ]) | (apply wpPlan_pass; rfl; rfl; assumption; simp only [Act.put, List.setIfInBounds_toArray, List.set_cons_zero, List.set_cons_succ]))
  refine wpPlan_last_run0 (w' := w3.setCell ⟨c, 3, none⟩ (.slice A3 (S.length + 1) C3)) rfl rfl (by simp [execOp, go_sem, r3, f3]) ?_
  clear r0 r3 s0 s1 f3
  go_wp2_with fail
  have HP4 := Lib.hid (HI2.out.blk HK4.out HP2.out (by decide) (by decide))
  have HV4 := Lib.hid (HI2.out.part HK4.out HV2.out)
  have HKW : Hid (KeepN c (Value.slice As S.length Cs).ownBlock w (w3.setCell ⟨c, 3, none⟩ (.slice A3 (S.length + 1) C3))) := Lib.hid ((KeepN.of c _ HB2.out).trans HK4.out (.inl rfl))
  clear HI2 HV2 HB2 HP2 HK4 HI1 HV1 HB1 HP1
  generalize w3.setCell ⟨c, 3, none⟩ (.slice A3 (S.length + 1) C3) = w4 at *
  have c3 := HI4.out.c3
  have b0 : w4.cell? ⟨w.heap.size, 0, none⟩ = some (.int .i64 l) := by simp [World.cell?, HP4.out]
  have b1 : w4.cell? ⟨w.heap.size, 1, none⟩ = some (.int .i64 cl) := by simp [World.cell?, HP4.out]
  refine wp_region_plan (S := fun w' => w'.cell? ⟨c, 3, none⟩ = some (.slice A3 (S.length + 1) C3) ∧ w'.cell? ⟨w.heap.size, 0, none⟩ = some (.int .i64 l) ∧ w'.cell? ⟨w.heap.size, 1, none⟩ = some (.int .i64 cl)) [(0, true), (1, true), (2, true), (3, true), (4, true), (5, true), (6, true), (7, true), (8, true), (10, true), (9, false), (11, false), (12, true)] (by kernel_rfl) (by kernel_rfl) (by kernel_rfl) (fun _ _ _ _ _ h => h) ⟨c3, b0, b1⟩ ?_
  intro HS
  repeat (first | (apply wpPlan_look; rfl; rfl; (intro wq hq; (try dsimp only at hq); go_split_ands; go_simp; (try rw [if_neg (by omega)]); (try rw [if_pos (by omega)]); try with_reducible rfl); simp only [Act.put, List.setIfInBounds_toArray, List.set_cons_zero, List.set_cons_succ]) | (apply wpPlan_skip; rfl; rfl; simp only [Act.put, List.setIfInBounds_toArray, List.set_cons_zero, List.set_cons_succ]) | (apply wpPlan_pass; rfl; rfl; assumption; simp only [Act.put, List.setIfInBounds_toArray, List.set_cons_zero, List.set_cons_succ]))
  have hb5 : Below w4.heap.size w4 (w4.drew.alloc (.cells #[.int .i8 30, .int .i64 1, .int .i64 ((S.length + 1 : Nat) : Int), .string { data := #[] }, .string s.str, .string u.str, .int .i64 l, .int .i64 cl] 38)) := (Below.refl _ _).drew.alloc (Nat.le_refl _) _
  have q3 := cell_later hb5 c3
  have q0 := cell_later hb5 b0
  have q1 := cell_later hb5 b1
  refine wpPlan_run rfl rfl (by simp [execOp, go_sem, build_cast]; (first | exact ⟨rfl, rfl⟩ | rfl)) _ (fun _ h => h) ⟨q3, q0, q1⟩ ?_
  simp only [Act.put, List.setIfInBounds_toArray, List.set_cons_zero, List.set_cons_succ]
  repeat (first | (apply wpPlan_look; rfl; rfl; (intro wq hq; (try dsimp only at hq); go_split_ands; go_simp; (try rw [if_neg (by omega)]); (try rw [if_pos (by omega)]); try with_reducible rfl); simp only [Act.put, List.setIfInBounds_toArray, List.set_cons_zero, List.set_cons_succ]) | (apply wpPlan_skip; rfl; rfl; simp only [Act.put, List.setIfInBounds_toArray, List.set_cons_zero, List.set_cons_succ]) | (apply wpPlan_pass; rfl; rfl; assumption; simp only [Act.put, List.setIfInBounds_toArray, List.set_cons_zero, List.set_cons_succ]))
  have hW5 : W.heap.size ≤ w4.heap.size := HI4.out.low.size
  obtain ⟨v6, w6, hrun, hown6, hg6, _⟩ := run_append_part (t := 22) (ty := 22) Tryz.underlying22 (own_one (w := w4.drew) (Ins.cast s u l cl (S.length + 1)) hW5) (HV4.out.later hb5) (by omega) (Nat.le_trans hW5 hb5.size)
  have hb6 : Below w4.heap.size w4 w6 := hb5.grown hg6 hb5.size fun k hk => by
    injection hk with hk
    subst hk
    exact Nat.le_refl _
  refine wpPlan_run rfl rfl (exec_append rfl rfl rfl rfl hrun) _ (fun _ h => h) ⟨cell_later hb6 c3, cell_later hb6 b0, cell_later hb6 b1⟩ ?_
  have HR : Hid (LayRes W c m tv yv (.slice As S.length Cs) S (Ins.cast s u l cl (S.length + 1) :: T, [(l, cl, r)]) w (.returned v6) w6) := Lib.hid ⟨v6, _, rfl, (by
    unfold PartV
    show w6.ownsRow W.heap.size _ 8 v6 (T.length + 1) ((Ins.cast s u l cl (S.length + 1)).cells ++ nfl T)
    rw [Nat.add_comm]
    exact hown6), HI4.out.later hb6, HKW.out.trans (KeepN.of c _ hb6) HNW.out, HNW.out⟩
  clear HS c3 b0 b1 q3 q0 q1 hb5 hb6 hown6 hg6 hrun HI4 HKW HNW HV4 HP4
  simp only [Act.put, List.setIfInBounds_toArray, List.set_cons_zero, List.set_cons_succ]
  repeat (first | (apply wpPlan_look; rfl; rfl; (intro wq hq; (try dsimp only at hq); go_split_ands; go_simp; (try rw [if_neg (by omega)]); (try rw [if_pos (by omega)]); try with_reducible rfl); simp only [Act.put, List.setIfInBounds_toArray, List.set_cons_zero, List.set_cons_succ]) | (apply wpPlan_skip; rfl; rfl; simp only [Act.put, List.setIfInBounds_toArray, List.set_cons_zero, List.set_cons_succ]) | (apply wpPlan_pass; rfl; rfl; assumption; simp only [Act.put, List.setIfInBounds_toArray, List.set_cons_zero, List.set_cons_succ]))
  apply wpPlan_done
  go_wp2_with fail
  go_ret
  exact HR.out
/-- A part of the term, with a cast if it is needed. -/
theorem lay_any {W w : World} {c : Nat} {m : ByteArray} {tv yv sv pv : Value} {S : List Ins.Sit} {T : List Nd} (s u : Ty) (l cl r : Int) (hv : PartV W w pv T) (hT : T.length ≤ 10000000) (h : InAt W c m tv yv sv S w) (hS : S.length ≤ 10000000) :
    Calls Tryz.prog 67 #[.pointer (some ⟨c, 0, none⟩), pv, .string s.str, .string u.str, .agg #[.int .i64 l, .int .i64 cl], .int .i64 r] w
      (LayRes W c m tv yv sv S (Ins.lay T s u l cl r S.length) w) := by
  by_cases hne : s = u
  · subst hne
    rw [show Ins.lay T s s l cl r S.length = (T, []) by unfold Ins.lay; rw [if_pos rfl]]
    refine (lay_same c pv s.str l cl r w).mono ?_
    rintro E w' ⟨rfl, hb⟩
    refine ⟨pv, sv, rfl, hv.later hb, ?_, KeepN.of c _ hb, NewB.refl w sv⟩
    simp only [List.append_nil]
    exact h.later hb
  · rw [show Ins.lay T s u l cl r S.length = (Ins.cast s u l cl (S.length + 1) :: T, [(l, cl, r)]) by unfold Ins.lay; rw [if_neg hne]]
    exact lay_cast s u hne l cl r hv hT h hS
end Go.Proofs.YtdfadmhomjcmeaaGreatDoor

/- Walks of insert: what is so ahead of a wish; a wish was met. -/
namespace Go.Proofs.YtdfadmhomjcmeaaGreatDoor
set_option linter.unusedSimpArgs false
set_option linter.unusedVariables false
open Go.RowKit Go.Maps Culp
theorem flat_get {α β : Type} {f : α → List β} {n : Nat} : ∀ (L : List α) (j i : Nat) (x : α) (u : β), (∀ y ∈ L, (f y).length = n) → i < n → L[j]? = some x → (f x)[i]? = some u → (L.flatMap f)[j * n + i]? = some u
  | [], j, i, x, u, _, _, h, _ => by simp at h
  | y :: L, 0, i, x, u, hl, hi, h, hu => by
    simp only [List.getElem?_cons_zero, Option.some.injEq] at h
    subst h
    rw [List.flatMap_cons, Nat.zero_mul, Nat.zero_add, List.getElem?_append_left (by rw [hl _ List.mem_cons_self]; exact hi)]
    exact hu
  | y :: L, j + 1, i, x, u, hl, hi, h, hu => by
    rw [List.getElem?_cons_succ] at h
    have h0 := hl y List.mem_cons_self
    rw [List.flatMap_cons, List.getElem?_append_right (by rw [h0, Nat.succ_mul]; omega), h0, show (j + 1) * n + i - n = j * n + i by rw [Nat.succ_mul]; omega]
    exact flat_get L j i x u (fun z hz => hl z (List.mem_cons_of_mem _ hz)) hi h hu
theorem wishes_row {w : World} {B C : Nat} {A : Option Addr} {P : List Nat} {L : List Ins.Wish} {j : Nat} {x : Ins.Wish} (h : w.ownsRow B 123 3 (.slice A L.length C) L.length (L.flatMap (wcells P))) (hj : L[j]? = some x) :
    ∃ g, A = some ⟨g, 0, none⟩ ∧ w.cell? ⟨g, j * 3, none⟩ = some (.int .i64 ((P.getD x.1 0 : Nat) : Int)) ∧ w.cell? ⟨g, j * 3 + 1, none⟩ = some (.string x.2.1.str) ∧ w.cell? ⟨g, j * 3 + 2, none⟩ = some (.int .i64 x.2.2) := by
  have hlt := (List.getElem?_eq_some_iff.1 hj).1
  have hf : ∀ (i : Nat) (u : Value), i < 3 → (wcells P x)[i]? = some u → (L.flatMap (wcells P))[j * 3 + i]? = some u := fun i u hi hu => flat_get L j i x u (fun _ _ => rfl) hi hj hu
  rcases h.2 with ⟨_, h0⟩ | ⟨g, cap, cur, e, hb, hh, hc, hm, hsz, htk⟩
  · omega
  · simp only [Value.slice.injEq] at e
    obtain ⟨rfl, _, rfl⟩ := e
    have hcl : ∀ (i : Nat) (u : Value), i < 3 → (wcells P x)[i]? = some u → w.cell? ⟨g, j * 3 + i, none⟩ = some u := fun i u hi hu => by
      have h1 := hf i u hi hu
      rw [← htk, List.getElem?_take] at h1
      split at h1
      · simp only [World.cell?, hh]; simpa using h1
      · cases h1
    exact ⟨g, rfl, hcl 0 _ (by decide) rfl, hcl 1 _ (by decide) rfl, hcl 2 _ (by decide) rfl⟩
/-- What is so ahead of a wish. -/
structure WL (T : List Nd) (W : World) (ts : Nat → Ty) (c : Nat) (m : ByteArray) (tv yv sv : Value) (S : List Ins.Sit) (x : Nd) (ks : Tr.F) (p : Nat) (N : List ByteArray) (nv : Value) (w : World) (bx r C0 : Nat) (kv : Value) (L : List Ins.Wish) (K0 : List Ins.Kd) (D0 : List Ins.Sit) (vw : Value) (Bw j : Nat) (K : List Ins.Kd) (D : List Ins.Sit) (sv1 : Value) (wr : World) : Prop where
  rest1 : (Ins.layAll L K0 (S.length + D0.length)).1 = (Ins.layAll (L.drop j) K (S.length + D.length)).1
  rest2 : D0 ++ (Ins.layAll L K0 (S.length + D0.length)).2 = D ++ (Ins.layAll (L.drop j) K (S.length + D.length)).2
  pls : K.map Ins.Kd.p = ks.places (p + 1)
  tys : K.map Ins.Kd.t = K0.map Ins.Kd.t
  kok : Ins.KOk T ts K
  size : (Ins.body K).length ≤ 5000000 + D.length
  few : D.length ≤ D0.length + j
  ins : InAt W c m tv yv sv1 (S ++ D) wr
  kept : KeepN c sv.ownBlock w wr
  new : NewB w sv sv1
  parts : PartsAt W wr r K
  box : Box bx x wr
  kids : wr.ownsRow C0 3 1 kv ks.cnt ((ks.places (p + 1)).map natV)
  names : NamesV W wr nv N
  rnew : w.heap.size ≤ r
  wish : wr.ownsRow Bw 123 3 vw L.length (L.flatMap (wcells (ks.places (p + 1))))
section
variable {T : List Nd} {W : World} {ts : Nat → Ty} {c : Nat} {m : ByteArray} {tv yv sv : Value} {S : List Ins.Sit} {x : Nd} {ks : Tr.F} {p : Nat} {N : List ByteArray} {nv : Value} {w : World} {bx r C0 : Nat} {kv : Value} {L : List Ins.Wish} {K0 : List Ins.Kd} {D0 : List Ins.Sit} {vw : Value} {Bw j : Nat} {K : List Ins.Kd} {D : List Ins.Sit} {sv1 : Value} {wr w' : World}
theorem WL.later (h : WL T W ts c m tv yv sv S x ks p N nv w bx r C0 kv L K0 D0 vw Bw j K D sv1 wr) (hb : Below wr.heap.size wr w') : WL T W ts c m tv yv sv S x ks p N nv w bx r C0 kv L K0 D0 vw Bw j K D sv1 w' :=
  { h with ins := h.ins.later hb, kept := h.kept.trans (KeepN.of c sv.ownBlock hb) (.inl rfl), parts := h.parts.later hb, box := h.box.later hb, kids := own_later h.kids hb, names := h.names.later hb, wish := own_later h.wish hb }
/-- The kid that a wish speaks of. -/
theorem WL.kid {i : Nat} {t : Ty} {r0 : Int} (h : WL T W ts c m tv yv sv S x ks p N nv w bx r C0 kv L K0 D0 vw Bw j K D sv1 wr) (hi : i < K.length) : ∃ d, K[i]? = some d ∧ (ks.places (p + 1)).getD i 0 = d.p ∧ d ∈ K := by
  refine ⟨K[i], List.getElem?_eq_getElem hi, ?_, List.getElem_mem hi⟩
  rw [← h.pls, List.getD_eq_getElem?_getD, List.getElem?_map, List.getElem?_eq_getElem hi]
  rfl
theorem PartsAt.find {P : Program} {t kt et : TypeId} {d : Ins.Kd} (h : PartsAt W wr r K) (hd : d ∈ K) (ht : P.underlying t = some (.map kt et)) (hkt : P.underlying kt = some (.int .i64)) :
    ∃ v, PartV W wr v d.T ∧ ∀ (w2 : World), (w2.heap[r]? = wr.heap[r]?) → (Instr.lookup t (.map (some r)) (.int .i64 (d.p : Int)) false).run P w2 = .ok v w2 := by
  obtain ⟨es, ⟨arr, clk, h1, h1'⟩, h2⟩ := h
  obtain ⟨v, a, b⟩ := h2 d hd
  exact ⟨v, b, fun w2 e => run_lookup_there w2 t kt et .i64 ht hkt r es _ v ⟨arr, clk, e.trans h1, h1'⟩ a⟩
/-- A wish was met, and the kid's part laid in the map. -/
theorem WL.step {v : Value} {i : Nat} {t : Ty} {r0 : Int} {d : Ins.Kd} (h : WL T W ts c m tv yv sv S x ks p N nv w bx r C0 kv L K0 D0 vw Bw j K D sv1 wr) (hW : Below W.heap.size W w) (hj : L[j]? = some (i, t, r0)) (hd : K[i]? = some d)
    (hp : LayRes W c m tv yv sv1 (S ++ D) (Ins.lay d.T d.t t d.l d.c r0 (S.length + D.length)) wr (.returned v) w') {P : Program} {ty kt et : TypeId} (ht : P.underlying ty = some (.map kt et)) (hk : P.underlying kt = some (.int .i64)) :
    ∃ w2 K2 D2 sv2, (Instr.mapUpdate ty (.map (some r)) (.int .i64 (d.p : Int)) v).run P w' = .ok () w2 ∧ WL T W ts c m tv yv sv S x ks p N nv w bx r C0 kv L K0 D0 vw Bw (j + 1) K2 D2 sv2 w2 := by
  obtain ⟨v0, sv2, e, hv, hI, hK, hN⟩ := hp
  injection e with e
  subst e
  have hlen := Ins.lay_len d.T d.t t d.l d.c r0 (S.length + D.length)
  have hat := Ins.layAt_some hd t r0 (S.length + D.length)
  have hnd : (K.map Ins.Kd.p).Nodup := by rw [h.pls]; exact Tr.F.places_nodup ks _
  have hsz := Ins.size_layAt K i t r0 (S.length + D.length)
  have hpl := Ins.layAt_places K i t r0 (S.length + D.length)
  have hty := Ins.layAt_types K i t r0 (S.length + D.length)
  have hko := Ins.layAt_kok h.kok i t r0 (S.length + D.length)
  have hdr := Ins.layAll_drop hj K (S.length + D.length)
  simp only at hdr
  rw [hat] at hsz hpl hty hko hdr
  simp only at hsz hpl hty hko hdr
  generalize hR : Ins.lay d.T d.t t d.l d.c r0 (S.length + D.length) = R at *
  have hP1 := h.ins.parts hK h.parts
  obtain ⟨w2, hrun, hP2, hk2⟩ := hP1.put (K' := K.set i { d with T := R.1 }) (q := (d.p : Int)) hv (fun e he => by
    rcases Ins.mem_set_other hnd hd e he with rfl | ⟨h1, h2⟩
    · exact .inl ⟨rfl, rfl⟩
    · exact .inr ⟨by omega, h2⟩) (P := P) (t := ty) (kt := kt) (et := et) ht hk
  obtain ⟨es, hm⟩ := hP1.map
  have hwr : W.heap.size ≤ r := Nat.le_trans hW.size h.rnew
  refine ⟨w2, K.set i { d with T := R.1 }, D ++ R.2, sv2, hrun, ?_⟩
  exact {
    rest1 := by rw [h.rest1, hdr, List.length_append, Nat.add_assoc]
    rest2 := by rw [h.rest2, hdr, List.length_append, ← Nat.add_assoc, List.append_assoc]
    pls := hpl.trans h.pls
    tys := hty.trans h.tys
    kok := hko
    size := by have := h.size; rw [hsz, List.length_append]; omega
    few := by have := h.few; rw [List.length_append]; omega
    ins := by
      rw [← List.append_assoc]
      exact hI.keepr hk2 hwr hm
    kept := (h.kept.trans hK h.new).keepr hk2 h.rnew
    new := h.new.trans h.kept.size hN
    parts := hP2
    box := mapAt_boxed hm hk2 (h.ins.boxed hK h.box)
    kids := mapAt_row hm hk2 (h.ins.row hK h.kids (by decide) (by decide))
    names := (h.names.keep h.ins hK).keepr hm hk2
    rnew := h.rnew
    wish := mapAt_row hm hk2 (h.ins.row hK h.wish (by decide) (by decide)) }
end
end Go.Proofs.YtdfadmhomjcmeaaGreatDoor

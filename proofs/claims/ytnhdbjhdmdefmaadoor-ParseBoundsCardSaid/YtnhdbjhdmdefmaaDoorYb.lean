
/- Memory: modules that are read: rows of the call's own. No program in sight. -/
import Derived.Test.YtnhdbjhdmdefmaaDoorYa
namespace Culp.Gr
set_option linter.unusedSimpArgs false
set_option linter.unusedVariables false
open Go Go.RowKit Culp Culp.Tr Go.Proofs.YtnhdbjhdmdefmaaDoor
/-- Blocks of other types than the parser's own stay. -/
structure KT (w w' : World) : Prop where
  size : w.heap.size ≤ w'.heap.size
  block : ∀ (b : Nat) (cs : Array Value) (t : TypeId) (fr : Nat × Nat), w.heap[b]? = some (Obj.cells cs t fr) → t ≠ 64 → t ≠ 25 → w'.heap[b]? = some (Obj.cells cs t fr)
/-- A block of a type. -/
def Has (w : World) (g : Nat) (t : TypeId) : Prop := ∃ cs fr, w.heap[g]? = some (Obj.cells cs t fr)
section
variable {pb B i k b g n m base sz base2 size2 : Nat} {L : List Tok} {tv lv lv1 u v v2 : Value} {e : Nat × Nat} {lg : List Nat} {w w' w1 w2 : World} {t t2 : TypeId} {cs : Array Value} {xs ys : List Value}
theorem KT.refl (w : World) : KT w w := ⟨Nat.le_refl _, fun _ _ _ _ h _ _ => h⟩
theorem KT.trans (h : KT w w1) (k : KT w1 w2) : KT w w2 := ⟨Nat.le_trans h.size k.size, fun b cs t fr a c d => k.block b cs t fr (h.block b cs t fr a c d) c d⟩
theorem KT.below (h : Below w.heap.size w w1) : KT w w1 := ⟨h.size, fun b _ _ _ hb _ _ => (h.block b (Array.getElem?_eq_some_iff.1 hb).1).trans hb⟩
theorem KT.blk (k : KT w w1) (h : Blk g cs t w) (h1 : t ≠ 64) (h2 : t ≠ 25) : Blk g cs t w1 := k.block _ _ _ _ h h1 h2
theorem KT.own (k : KT w w1) (h : w.ownsRow base t sz v n xs) (h1 : t ≠ 64) (h2 : t ≠ 25) : w1.ownsRow base t sz v n xs := by
  refine ⟨h.1, ?_⟩
  rcases h.2 with h3 | ⟨g, cap, cur, rfl, hb, hh, h4⟩
  · exact .inl h3
  · exact .inr ⟨g, cap, cur, rfl, hb, k.block _ _ _ _ hh h1 h2, h4⟩
theorem PS.kt (h : PS pb B L tv e i lg lv w) (k : KeepN pb lv.ownBlock w w1) : KT w w1 := ⟨k.size, fun b cs t fr hb h1 h2 => by
  have hl := (Array.getElem?_eq_some_iff.1 hb).1
  refine (k.block b hl (fun e => ?_) (fun e => ?_)).trans hb
  · subst e
    have := h.blk
    unfold Blk at this
    rw [this] at hb
    simp only [Option.some.injEq, Obj.cells.injEq] at hb
    exact h1 hb.2.1.symm
  · rcases h.lrow.2 with ⟨h3, _⟩ | ⟨g', cap, cur, h3, _, hh, _⟩
    · rw [h3] at e; cases e
    · rw [h3] at e
      have e2 : g' = b := Option.some.inj e
      rw [e2, hb] at hh
      simp only [Option.some.injEq, Obj.cells.injEq] at hh
      exact h2 hh.2.1⟩
theorem Went.callT {α : Type} {R : World → Value → α → Prop} {spec : Except Nat (α × Nat × List Nat)} {P : Program} {F : FuncId} {args : Array Value} (h : Went pb B L tv e lv i lg w w1) (hc : ∀ lv1, PS pb B L tv e i lg lv1 w1 → Calls P F args w1 (PRes R spec pb B L tv e lv1 w1)) :
    Calls P F args w1 (fun E w' => PRes R spec pb B L tv e lv w E w' ∧ KT w1 w') := by
  obtain ⟨lv1, h1, h2, h3⟩ := h
  refine (hc lv1 h2).mono fun E w' hr => ?_
  cases spec with
  | error j => exact ⟨⟨hr.1, h1.trans hr.2 h3⟩, h2.kt hr.2⟩
  | ok r =>
    obtain ⟨v, k1, k2, k3⟩ := hr
    have k4 := k3
    obtain ⟨lv2, m1, _⟩ := k3
    exact ⟨⟨v, k1, k2, Went.trans h1 h3 k4⟩, h2.kt m1⟩
theorem blkHas (h : Blk g cs t w) : Has w g t := ⟨_, _, h⟩
theorem Has.lt (h : Has w g t) : g < w.heap.size := by
  obtain ⟨cs, fr, h⟩ := h
  exact (Array.getElem?_eq_some_iff.1 h).1
theorem Has.ne (h : Has w g t) (h2 : Has w b t2) (hn : t ≠ t2) : g ≠ b := fun e => by
  subst e
  obtain ⟨cs, fr, h⟩ := h
  obtain ⟨cs2, fr2, h2⟩ := h2
  rw [h] at h2
  simp only [Option.some.injEq, Obj.cells.injEq] at h2
  exact hn h2.2.1
theorem own_has (h : w.ownsRow base t sz v n xs) (hv : v.ownBlock = some g) : Has w g t ∧ base ≤ g := by
  rcases h.2 with ⟨rfl, _⟩ | ⟨g', cap, cur, rfl, hb, hh, _⟩
  · cases hv
  · obtain rfl : g' = g := Option.some.inj hv
    exact ⟨⟨_, _, hh⟩, hb⟩
theorem own_off (h : w.ownsRow base t sz v n xs) (hb : Has w g t2) (hn : t ≠ t2) : v.ownBlock ≠ some g := fun e => (own_has h e).1.ne hb hn rfl
theorem own_keepT (h : w.ownsRow base t sz v n xs) (k : Keep g w w1) (hb : Has w g t2) (hn : t ≠ t2) : w1.ownsRow base t sz v n xs := own_apart_keep h k (own_off h hb hn)
theorem grown_keep (hg : w.grownBy w1 (some g)) : Keep g w w1 := ⟨hg.os, hg.tape, hg.output, hg.size, fun k hk hne => hg.block k hk (fun e => hne (Option.some.inj e))⟩
theorem grown_below (hg : w.grownBy w1 none) : Below w.heap.size w w1 := ⟨hg.os, hg.tape, hg.output, hg.size, fun k hk => hg.block k hk (fun e => by cases e)⟩
theorem own_grownT (h : w.ownsRow base t sz v n xs) (hr : w.ownsRow base2 t2 size2 v2 m ys) (hg : w.grownBy w1 v2.ownBlock) (hn : t ≠ t2) : w1.ownsRow base t sz v n xs := by
  cases hv : v2.ownBlock with
  | none => rw [hv] at hg; exact own_later h (grown_below hg)
  | some g => rw [hv] at hg; exact own_keepT h (grown_keep hg) (own_has hr hv).1 hn
theorem blk_grownT (h : Blk g cs t w) (hr : w.ownsRow base2 t2 size2 v2 m ys) (hg : w.grownBy w1 v2.ownBlock) (hn : v2.ownBlock ≠ some g) : Blk g cs t w1 := by
  unfold Blk at *
  rw [hg.block g (Array.getElem?_eq_some_iff.1 h).1 (fun e => hn e.symm)]; exact h
/-- A change in a block of the call's own, of another kind. -/
theorem Went.keep1 (h : Went pb B L tv e lv i lg w w1) (k : Keep g w1 w2) (hb : Has w1 g t) (h1 : t ≠ 64) (h2 : t ≠ 25) (h3 : t ≠ 60) (hg : w.heap.size ≤ g) : Went pb B L tv e lv i lg w w2 := by
  obtain ⟨lv', a1, a2, a3⟩ := h
  have n1 : pb ≠ g := (blkHas a2.blk).ne hb (fun e => h1 e.symm)
  refine ⟨lv', ⟨k.os.trans a1.os, k.tape.trans a1.tape, k.output.trans a1.output, Nat.le_trans a1.size k.size, fun b hb' hn ho => (k.block b (Nat.lt_of_lt_of_le hb' a1.size) (by omega)).trans (a1.block b hb' hn ho)⟩, { a2 with blk := (k.block pb a2.blk.lt n1).trans a2.blk, toks := own_keepT a2.toks k hb (fun e => h3 e.symm), lrow := own_keepT a2.lrow k hb (fun e => h2 e.symm) }, a3⟩
theorem Went.grown (h : Went pb B L tv e lv i lg w w1) (hr : w1.ownsRow base t sz v n xs) (hg : w1.grownBy w2 v.ownBlock) (h1 : t ≠ 64) (h2 : t ≠ 25) (h3 : t ≠ 60) (hbase : w.heap.size ≤ base) : Went pb B L tv e lv i lg w w2 := by
  cases hv : v.ownBlock with
  | none => rw [hv] at hg; exact h.later (grown_below hg)
  | some g => rw [hv] at hg; exact h.keep1 (grown_keep hg) (own_has hr hv).1 h1 h2 h3 (Nat.le_trans hbase (own_has hr hv).2)
end
/-- The cells of defs, their trees' slices told. -/
def dcells : List Df → List Value → List Value
  | d :: l, t :: ts => d.cells t ++ dcells l ts
  | _, _ => []
theorem dcells_snoc (d : Df) (t : Value) : ∀ (l : List Df) (ts : List Value), ts.length = l.length → dcells (l ++ [d]) (ts ++ [t]) = dcells l ts ++ d.cells t
  | [], [], _ => by simp [dcells]
  | [], _ :: _, h => by simp at h
  | _ :: _, [], h => by simp at h
  | x :: l, y :: ts, h => by
    simp only [List.cons_append, dcells]
    rw [dcells_snoc d t l ts (by simpa using h), List.append_assoc]
theorem dcells_at : ∀ (l : List Df) (ts : List Value) (i : Nat) (d : Df) (t : Value) (j : Nat) (u : Value), l[i]? = some d → ts[i]? = some t → (d.cells t)[j]? = some u → (dcells l ts)[i * 6 + j]? = some u
  | [], _, i, d, t, j, u, h, _, _ => by simp at h
  | _ :: _, [], i, d, t, j, u, _, h, _ => by simp at h
  | x :: l, y :: ts, 0, d, t, j, u, h, h2, hu => by
    simp only [List.getElem?_cons_zero, Option.some.injEq] at h h2
    subst h h2
    have hj := (List.getElem?_eq_some_iff.1 hu).1
    rw [dcells, Nat.zero_mul, Nat.zero_add, List.getElem?_append_left hj]
    exact hu
  | x :: l, y :: ts, i + 1, d, t, j, u, h, h2, hu => by
    have h6 : (x.cells y).length = 6 := rfl
    rw [dcells, List.getElem?_append_right (by omega), h6, show (i + 1) * 6 + j - 6 = i * 6 + j by omega]
    exact dcells_at l ts i d t j u (by simpa using h) (by simpa using h2) hu
theorem dcells_len : ∀ (l : List Df) (ts : List Value), ts.length = l.length → (dcells l ts).length = l.length * 6
  | [], [], _ => rfl
  | [], _ :: _, h => by simp at h
  | _ :: _, [], h => by simp at h
  | x :: l, y :: ts, h => by
    rw [dcells, List.length_append, dcells_len l ts (by simpa using h), List.length_cons]
    show 6 + _ = _
    omega
/-- Defs in rows of one's own. -/
structure DefsO (H : Nat) (w : World) (v : Value) (l : List Df) (ts : List Value) : Prop where
  row : w.ownsRow H 51 6 v l.length (dcells l ts)
  len : ts.length = l.length
  nds : ∀ (i : Nat) (d : Df) (t : Value), l[i]? = some d → ts[i]? = some t → w.ownsRow H 42 8 t d.tree.length (nfla d.tree)
  nd : (ts.filterMap Value.ownBlock).Nodup
section
variable {H K g n m base sz : Nat} {w w' w1 w2 : World} {v v' v2 t : Value} {l : List Df} {ts : List Value} {ty : TypeId} {d : Df} {ys : List Value}
theorem DefsO.nil : DefsO H w (.slice none 0 0) [] [] := ⟨World.ownsRow_nil _ _ _ _, rfl, fun i d t h => by simp at h, List.nodup_nil⟩
theorem DefsO.kt (h : DefsO H w v l ts) (k : KT w w1) : DefsO H w1 v l ts := ⟨k.own h.row (by decide) (by decide), h.len, fun i d t a b => k.own (h.nds i d t a b) (by decide) (by decide), h.nd⟩
theorem DefsO.later (h : DefsO H w v l ts) (hb : Below w.heap.size w w1) : DefsO H w1 v l ts := h.kt (KT.below hb)
theorem DefsO.keep (h : DefsO H w v l ts) (k : Keep g w w1) (hn : v.ownBlock ≠ some g) (hb : Has w g ty) (h2 : ty ≠ 42) : DefsO H w1 v l ts := ⟨own_apart_keep h.row k hn, h.len, fun i d t a b => own_keepT (h.nds i d t a b) k hb (fun e => h2 e.symm), h.nd⟩
theorem DefsO.grown (h : DefsO H w v l ts) (hr : w.ownsRow base ty sz v2 n ys) (hg : w.grownBy w1 v2.ownBlock) (h1 : ty ≠ 51) (h2 : ty ≠ 42) : DefsO H w1 v l ts := ⟨own_grownT h.row hr hg (fun e => h1 e.symm), h.len, fun i d t a b => own_grownT (h.nds i d t a b) hr hg (fun e => h2 e.symm), h.nd⟩
theorem DefsO.lt (h : DefsO H w v l ts) : ∀ u ∈ ts, ∀ b, u.ownBlock = some b → b < w.heap.size ∧ H ≤ b := fun u hu b hb => by
  obtain ⟨i, hi⟩ := List.mem_iff_getElem?.1 hu
  have hil := (List.getElem?_eq_some_iff.1 hi).1
  have hr := h.nds i _ u (List.getElem?_eq_getElem (by have := h.len; omega)) hi
  exact ⟨(hr.lt b hb).2, (own_has hr hb).2⟩
theorem DefsO.low (h : DefsO H w v l ts) (hk : K ≤ H) : DefsO K w v l ts := ⟨own_mono h.row hk, h.len, fun i d t a b => own_mono (h.nds i d t a b) hk, h.nd⟩
theorem DefsO.add (h : DefsO H w v l ts) (ht : w.ownsRow K 42 8 t d.tree.length (nfla d.tree)) (hK : H ≤ K) (hfr : ∀ u ∈ ts, ∀ b, u.ownBlock = some b → b < K) (ho : w2.ownsRow H 51 6 v' (l.length + 1) (dcells l ts ++ d.cells t)) (hg : w.grownBy w2 v.ownBlock) : DefsO H w2 v' (l ++ [d]) (ts ++ [t]) := by
  refine ⟨?_, ?_, fun i d' t' hd ht' => ?_, ?_⟩
  · rw [dcells_snoc d t l ts h.len, List.length_append]; exact ho
  · simp [h.len]
  · by_cases hi : i < l.length
    · rw [List.getElem?_append_left hi] at hd
      rw [List.getElem?_append_left (by rw [h.len]; exact hi)] at ht'
      exact own_grownT (h.nds i d' t' hd ht') h.row hg (by decide)
    · have hlt := (List.getElem?_eq_some_iff.1 hd).1
      rw [List.length_append, List.length_singleton] at hlt
      obtain rfl : i = l.length := by omega
      rw [List.getElem?_append_right (Nat.le_refl _), Nat.sub_self] at hd
      rw [List.getElem?_append_right (by rw [h.len]; exact Nat.le_refl _), h.len, Nat.sub_self] at ht'
      simp only [List.getElem?_cons_zero, Option.some.injEq] at hd ht'
      subst hd ht'
      exact own_mono (own_grownT ht h.row hg (by decide)) hK
  · rw [List.filterMap_append, List.nodup_append]
    refine ⟨h.nd, ?_, fun a ha b hb e => ?_⟩
    · simp only [List.filterMap_cons, List.filterMap_nil]
      split <;> simp
    · subst e
      obtain ⟨u, hu, hub⟩ := List.mem_filterMap.1 ha
      obtain ⟨u', hu', hub'⟩ := List.mem_filterMap.1 hb
      simp only [List.mem_singleton] at hu'
      subst hu'
      have h1 := hfr u hu a hub
      have h2 := (own_has ht hub').2
      omega
end
/-- A module in rows of one's own. -/
structure MdO (H : Nat) (w : World) (md : Md) (iv dv : Value) (ts : List Value) : Prop where
  imps : w.ownsRow H 92 5 iv md.imps.length (md.imps.flatMap Im.cells)
  defs : DefsO H w dv md.defs ts
theorem MdO.kt {H : Nat} {w w1 : World} {md : Md} {iv dv : Value} {ts : List Value} (h : MdO H w md iv dv ts) (k : KT w w1) : MdO H w1 md iv dv ts := ⟨k.own h.imps (by decide) (by decide), h.defs.kt k⟩
/-- A module that was read. -/
def ModR (H : Nat) (w : World) (v : Value) (md : Md) : Prop := ∃ iv dv ts, v = .agg (md.cells iv dv).toArray ∧ MdO H w md iv dv ts
/-- A module while it is read. -/
structure MSt (pb B : Nat) (L : List Tok) (tv : Value) (e : Nat × Nat) (lv : Value) (w : World) (gr gm : Nat) (nm : List UInt8) (x y : Nat) (j : Nat) (lg : List Nat) (is : List Im) (iv : Value) (ds : List Df) (dv : Value) (ts : List Value) (wx : World) : Prop where
  went : Went pb B L tv e lv j lg w wx
  res : Blk gr #[.string { data := #[] }, .slice none 0 0, .slice none 0 0, .int .i64 0, .int .i64 0] 49 wx
  box : Blk gm #[.string (by_ nm), iv, dv, .int .i64 x, .int .i64 y] 49 wx
  imps : wx.ownsRow w.heap.size 92 5 iv is.length (is.flatMap Im.cells)
  defs : DefsO w.heap.size wx dv ds ts
  gr0 : w.heap.size ≤ gr
  gm0 : w.heap.size ≤ gm
  gg : gr ≠ gm
section
variable {pb B gr gm x y i j k g : Nat} {L : List Tok} {tv lv iv dv iv' dv' u t : Value} {e : Nat × Nat} {lg : List Nat} {w w1 w2 : World} {nm : List UInt8} {is : List Im} {ds : List Df} {ts : List Value} {ty : TypeId} {cs : Array Value} {z : Im} {d : Df}
theorem MSt.kt (h : MSt pb B L tv e lv w gr gm nm x y j lg is iv ds dv ts w1) (hk : KT w1 w2) {j' : Nat} {lg' : List Nat} (hw : Went pb B L tv e lv j' lg' w w2) : MSt pb B L tv e lv w gr gm nm x y j' lg' is iv ds dv ts w2 := { h with
  went := hw
  res := hk.blk h.res (by decide) (by decide)
  box := hk.blk h.box (by decide) (by decide)
  imps := hk.own h.imps (by decide) (by decide)
  defs := h.defs.kt hk }
theorem MSt.later (h : MSt pb B L tv e lv w gr gm nm x y j lg is iv ds dv ts w1) (hb : Below w1.heap.size w1 w2) : MSt pb B L tv e lv w gr gm nm x y j lg is iv ds dv ts w2 := h.kt (KT.below hb) (h.went.later hb)
theorem MSt.size (h : MSt pb B L tv e lv w gr gm nm x y j lg is iv ds dv ts w1) : w.heap.size ≤ w1.heap.size := h.went.keep.size
/-- What a further call comes to. -/
def MRes {α : Type} (R : World → Value → α → Prop) (spec : Except Nat (α × Nat × List Nat)) (pb B : Nat) (L : List Tok) (tv : Value) (e : Nat × Nat) (lv : Value) (w : World) (gr gm : Nat) (nm : List UInt8) (x y : Nat) (is : List Im) (iv : Value) (ds : List Df) (dv : Value) (ts : List Value) (E : Ending) (w' : World) : Prop := match spec with
  | .error jj => E = .panicked (refV (here L e jj)) ∧ KeepN pb lv.ownBlock w w'
  | .ok (a, k, lg') => ∃ v, E = .returned v ∧ R w' v a ∧ MSt pb B L tv e lv w gr gm nm x y k lg' is iv ds dv ts w'
theorem MSt.call {α : Type} {R : World → Value → α → Prop} {spec : Except Nat (α × Nat × List Nat)} {P : Program} {F : FuncId} {args : Array Value} (h : MSt pb B L tv e lv w gr gm nm x y j lg is iv ds dv ts w1) (hc : ∀ lv1, PS pb B L tv e j lg lv1 w1 → Calls P F args w1 (PRes R spec pb B L tv e lv1 w1)) :
    Calls P F args w1 (fun E w' => KT w1 w' ∧ MRes R spec pb B L tv e lv w gr gm nm x y is iv ds dv ts E w') := by
  refine (h.went.callT hc).mono fun E w' ⟨hr, hk⟩ => ⟨hk, ?_⟩
  cases spec with
  | error jj => exact hr
  | ok r =>
    obtain ⟨v, h1, h2, h3⟩ := hr
    exact ⟨v, h1, h2, h.kt hk h3⟩
/-- Another block of the call's own is changed. -/
theorem MSt.keep (h : MSt pb B L tv e lv w gr gm nm x y j lg is iv ds dv ts w1) (k : Keep g w1 w2) (hb : Has w1 g ty) (h1 : ty ≠ 64) (h2 : ty ≠ 25) (h3 : ty ≠ 60) (h4 : ty ≠ 42) (hg : w.heap.size ≤ g) (n1 : g ≠ gr) (n2 : g ≠ gm) (n3 : dv.ownBlock ≠ some g) (n4 : iv.ownBlock ≠ some g) : MSt pb B L tv e lv w gr gm nm x y j lg is iv ds dv ts w2 := { h with
  went := h.went.keep1 k hb h1 h2 h3 hg
  res := (k.block gr h.res.lt (fun e => n1 e.symm)).trans h.res
  box := (k.block gm h.box.lt (fun e => n2 e.symm)).trans h.box
  imps := own_apart_keep h.imps k n4
  defs := h.defs.keep k n3 hb h4 }
/-- One more import. -/
theorem MSt.imp (h : MSt pb B L tv e lv w gr gm nm x y j lg is iv ds dv ts w1) (ho : w2.ownsRow w.heap.size 92 5 iv' (is.length + 1) (is.flatMap Im.cells ++ z.cells)) (hg : w1.grownBy w2 iv.ownBlock) : MSt pb B L tv e lv w gr gm nm x y j lg (is ++ [z]) iv' ds dv ts (w2.setCell ⟨gm, 1, none⟩ iv') := by
  have hr := blk_grownT h.res h.imps hg (own_off h.imps (blkHas h.res) (by decide))
  have hb := blk_grownT h.box h.imps hg (own_off h.imps (blkHas h.box) (by decide))
  have hd := h.defs.grown h.imps hg (by decide) (by decide)
  have hk : Keep gm w2 (w2.setCell ⟨gm, 1, none⟩ iv') := (Keep.refl _ _).setCell _ _
  exact { h with
    went := (h.went.grown h.imps hg (by decide) (by decide) (by decide) (Nat.le_refl _)).keep1 hk (blkHas hb) (by decide) (by decide) (by decide) h.gm0
    res := (hk.block gr hr.lt h.gg).trans hr
    box := blk_set hb 1 iv'
    imps := by
      rw [List.length_append, List.flatMap_append, List.flatMap_cons, List.flatMap_nil, List.append_nil]
      exact own_keepT ho hk (blkHas hb) (by decide)
    defs := hd.keep hk (own_off hd.row (blkHas hb) (by decide)) (blkHas hb) (by decide) }
/-- One more def. -/
theorem MSt.df (h : MSt pb B L tv e lv w gr gm nm x y j lg is iv ds dv ts w1) {K : Nat} (ht : w1.ownsRow K 42 8 t d.tree.length (nfla d.tree)) (hK : w.heap.size ≤ K) (hfr : ∀ u ∈ ts, ∀ b, u.ownBlock = some b → b < K) (ho : w2.ownsRow w.heap.size 51 6 dv' (ds.length + 1) (dcells ds ts ++ d.cells t)) (hg : w1.grownBy w2 dv.ownBlock) : MSt pb B L tv e lv w gr gm nm x y j lg is iv (ds ++ [d]) dv' (ts ++ [t]) (w2.setCell ⟨gm, 2, none⟩ dv') := by
  have hr := blk_grownT h.res h.defs.row hg (own_off h.defs.row (blkHas h.res) (by decide))
  have hb := blk_grownT h.box h.defs.row hg (own_off h.defs.row (blkHas h.box) (by decide))
  have hd := h.defs.add ht hK hfr ho hg
  have hi := own_grownT h.imps h.defs.row hg (by decide)
  have hk : Keep gm w2 (w2.setCell ⟨gm, 2, none⟩ dv') := (Keep.refl _ _).setCell _ _
  exact { h with
    went := (h.went.grown h.defs.row hg (by decide) (by decide) (by decide) (Nat.le_refl _)).keep1 hk (blkHas hb) (by decide) (by decide) (by decide) h.gm0
    res := (hk.block gr hr.lt h.gg).trans hr
    box := blk_set hb 2 dv'
    imps := own_keepT hi hk (blkHas hb) (by decide)
    defs := hd.keep hk (own_off hd.row (blkHas hb) (by decide)) (blkHas hb) (by decide) }
theorem keep_setRow (g : Nat) (cs : Array Value) (w : World) : Keep g w (w.setRow g cs) := ⟨rfl, rfl, rfl, by show _ ≤ (w.heap.modify g _).size; rw [Array.size_modify]; exact Nat.le_refl _, fun k _ hne => setRow_heap_ne hne⟩
theorem MSt.done (h : MSt pb B L tv e lv w gr gm nm x y j lg is iv ds dv ts w1) : Went pb B L tv e lv j lg w (w1.setRow gr cs) ∧ MdO w.heap.size (w1.setRow gr cs) ⟨by_ nm, is, ds, x, y⟩ iv dv ts := by
  have hk := keep_setRow gr cs w1
  exact ⟨h.went.keep1 hk (blkHas h.res) (by decide) (by decide) (by decide) h.gr0, own_keepT h.imps hk (blkHas h.res) (by decide), h.defs.keep hk (own_off h.defs.row (blkHas h.res) (by decide)) (blkHas h.res) (by decide)⟩
theorem MSt.rowI (h : MSt pb B L tv e lv w gr gm nm x y j lg is iv ds dv ts w1) {cs' : Array Value} (hb : Blk g cs' 92 w1) (hg : w.heap.size ≤ g) (n4 : iv.ownBlock ≠ some g) : MSt pb B L tv e lv w gr gm nm x y j lg is iv ds dv ts (w1.setRow g cs) :=
  h.keep (keep_setRow _ _ _) (blkHas hb) (by decide) (by decide) (by decide) (by decide) hg ((blkHas hb).ne (blkHas h.res) (by decide)) ((blkHas hb).ne (blkHas h.box) (by decide)) (own_off h.defs.row (blkHas hb) (by decide)) n4
theorem far_row {b o : Nat} {v : Value} (h : w1.cell? ⟨b, o, none⟩ = some v) (hb : b ≠ g) : (w1.setRow g cs).cell? ⟨b, o, none⟩ = some v :=
  (World.cell?_of_block (a := ⟨b, o, none⟩) (show (w1.setRow g cs).heap[b]? = w1.heap[b]? from setRow_heap_ne hb)).trans h
theorem MSt.set (h : MSt pb B L tv e lv w gr gm nm x y j lg is iv ds dv ts w1) (hb : Blk g cs 51 w1) (hg : w.heap.size ≤ g) (n3 : dv.ownBlock ≠ some g) (k : Nat) (u : Value) : MSt pb B L tv e lv w gr gm nm x y j lg is iv ds dv ts (w1.setCell ⟨g, k, none⟩ u) :=
  h.keep ((Keep.refl _ _).setCell _ _) (blkHas hb) (by decide) (by decide) (by decide) (by decide) hg ((blkHas hb).ne (blkHas h.res) (by decide)) ((blkHas hb).ne (blkHas h.box) (by decide)) n3 (own_off h.imps (blkHas hb) (by decide))
end
section
variable {L : List Tok} {m j : Nat} {lg : List Nat}
theorem imps_yes {acc : List Im} (h : isM L sImport j = true) : imps L (m + 1) j lg acc = bnd (name L (j + 1)) fun a => bnd (want L [46] a) fun b => bnd (name L b) fun c => bnd (note L c lg) fun r => bnd (want L [59] r.2.1) fun d => imps L m d r.2.2 (acc ++ [⟨by_ (txt L (j + 1)), by_ (txt L b), by_ r.1, (pl L b).1, (pl L b).2⟩]) := by
  rw [imps, if_pos h]
theorem imps_no {acc : List Im} (h : isM L sImport j = false) : imps L (m + 1) j lg acc = .ok (acc, j, lg) := by
  rw [imps, if_neg (no_true h)]
theorem defs_end {acc : List Df} (h : isM L [125] j = true) : defs L (m + 1) j lg acc = .ok (acc, j + 1, lg) := by
  rw [defs, if_pos h]
theorem defs_more {acc : List Df} (h : isM L [125] j = false) : defs L (m + 1) j lg acc = bnd (want L sLet (adv L sExport j)) fun a => bnd (name L a) fun b => bnd (note L b lg) fun r => bnd (want L [61] r.2.1) fun c => bnd (expr L c r.2.2) fun e => bnd (want L [59] e.2.1) fun d => defs L m d e.2.2 (acc ++ [⟨by_ (txt L a), isM L sExport j, by_ r.1, e.1.flat, (pl L a).1, (pl L a).2⟩]) := by
  rw [defs, if_neg (no_true h)]
  rfl
/-- What follows the imports; what follows the defs. -/
def mdEnd (nm : List UInt8) (x y : Nat) (is : List Im) (q : List Df × Nat × List Nat) : Except Nat (Md × Nat × List Nat) := .ok (⟨by_ nm, is, q.1, x, y⟩, q.2)
def mdRest (L : List Tok) (nm : List UInt8) (x y : Nat) (r : List Im × Nat × List Nat) : Except Nat (Md × Nat × List Nat) := bnd (defs L (L.length + 1) r.2.1 r.2.2 []) (mdEnd nm x y r.1)
theorem module_eq (i : Nat) (lg : List Nat) : module L i lg = bnd (want L sModule i) fun a => bnd (name L a) fun b => bnd (want L [123] b) fun c => bnd (imps L (L.length + 1) c lg []) (mdRest L (txt L a) (pl L a).1 (pl L a).2) := rfl
end
end Culp.Gr

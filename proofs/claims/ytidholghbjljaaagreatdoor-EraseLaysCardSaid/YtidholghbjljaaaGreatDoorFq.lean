
/- Plain: a list of nodes that is whole parts, one behind the other, as a forest. -/
import Derived.Test.YtidholghbjljaaaGreatDoorTrW
import Derived.ArgAppend
namespace Culp.Tr
set_option linter.unusedSimpArgs false
set_option linter.unusedVariables false

/-- Parts one behind the other: the first one's node, its kids, the parts behind it. -/
inductive F where
  | nil
  | cons (x : Nd) (ks r : F)
namespace F
set_option linter.unusedSimpArgs false
set_option linter.unusedVariables false
def flat : F → List Nd
  | nil => []
  | cons x ks r => x :: (ks.flat ++ r.flat)
def cnt : F → Nat
  | nil => 0
  | cons _ _ r => r.cnt + 1
def hgt : F → Nat
  | nil => 0
  | cons _ ks r => max (ks.hgt + 1) r.hgt
/-- Where the parts begin. -/
def places : F → Nat → List Nat
  | nil, _ => []
  | cons _ ks r, p => p :: r.places (p + 1 + ks.flat.length)
end F
end Culp.Tr

/- Plain: the free names of a forest. -/
namespace Culp.Tr
set_option linter.unusedSimpArgs false
set_option linter.unusedVariables false
theorem bytes_beq (a b : ByteArray) : (a == b) = decide (a = b) := by
  rcases a with ⟨a⟩
  rcases b with ⟨b⟩
  show (a == b) = _
  rw [Bool.eq_iff_iff, beq_iff_eq, decide_eq_true_eq, ByteArray.mk.injEq]
instance bytesLawful : LawfulBEq ByteArray where
  eq_of_beq {a b} h := by rw [bytes_beq] at h; exact of_decide_eq_true h
  rfl {a} := by rw [bytes_beq]; exact decide_eq_true rfl
/-- The names that a node binds in its kid number k. -/
def binds (x : Nd) (k : Nat) : List ByteArray :=
  if x.kind = 5 then [x.s]
  else if x.kind = 6 then (match two x.s.data.toList with | some (a, b) => [⟨a.toArray⟩, ⟨b.toArray⟩] | none => [])
  else if x.kind = 8 ∧ k = 1 then [x.s]
  else []
def add1 (out : List ByteArray) (s : ByteArray) : List ByteArray := if s ∈ out then out else out ++ [s]
/-- Names, those that are not yet there. -/
def addAll (out l : List ByteArray) : List ByteArray := l.foldl add1 out
namespace F
set_option linter.unusedSimpArgs false
set_option linter.unusedVariables false
/-- The names that stand free, from left to right; those that are bound in the k-th part are told. -/
def vars : F → (Nat → List ByteArray) → Nat → List ByteArray
  | nil, _, _ => []
  | cons x ks r, f, k => (if x.kind = 4 then (if x.s ∈ f k then [] else [x.s]) else ks.vars (fun j => f k ++ binds x j) 0) ++ r.vars f (k + 1)
/-- The free names of one part. -/
def free (x : Nd) (ks : F) : List ByteArray := addAll [] ((cons x ks nil).vars (fun _ => []) 0)
end F
end Culp.Tr

/- Plain: the free names as the document tells them: each Var is asked for a binder above it. -/
namespace Culp.Tr
set_option linter.unusedSimpArgs false
set_option linter.unusedVariables false
namespace F
set_option linter.unusedSimpArgs false
set_option linter.unusedVariables false
/-- What is bound at a place. -/
def bset : F → (Nat → List ByteArray) → Nat → Nat → List ByteArray
  | nil, _, _, _ => []
  | cons x ks r, g, k, q => if q = 0 then g k else if q < 1 + ks.flat.length then ks.bset (fun j => g k ++ binds x j) 0 (q - 1) else r.bset g (k + 1) (q - 1 - ks.flat.length)
/-- What is bound at a place of a tree. -/
def bound (x : Nd) (ks : F) (q : Nat) : List ByteArray := (cons x ks nil).bset (fun _ => []) 0 q
end F
end Culp.Tr

/- Rows that lie apart: an append leaves the others as they were. No program in sight. -/
namespace Culp
set_option linter.unusedSimpArgs false
set_option linter.unusedVariables false
open Go Go.RowKit

/-- One more element onto a row of the call's own: where the row lies then, and what stays of those that lie in the same block. -/
theorem append_held {P : Program} {w : World} {ops : Array Oper} {rest : List Oper} {o : Oper} {a : Act} {Q : Exit → Act → World → Prop} (hgd : o.guard = none) (s x : Operand) (t e : TypeId)
    (ho : o.op = .call { callee := .builtin .append, args := #[s, x], argTypes := #[t, t] })
    (base : Nat) (z : Value) (size bytes : Nat) (ht : P.underlying t = some (.slice e)) (hi : (P.info? e).map (fun i => (i.zero, i.size, i.bytes)) = some (some z, size, bytes))
    (hzs : z.cells.size = size) (h0 : 0 < size)
    (v : Value) (n : Nat) (xs : List Value) (hs : a.eval s = v) (hown : w.ownsRow base e size v n xs) (us : List Value) (hus : us.length = size)
    (g : Nat) (hx : a.eval x = .slice (some ⟨g, 0, none⟩) 1 1) (hgg : w.heap.size = g) (h1 : ∀ u ∈ us, u.oneCell' = true)
    (h63 : n + 1 ≤ 1000000000000000) (hbytes : (n + 1) * bytes ≤ 140737488355328) (hbase : base ≤ w.heap.size)
    (h : ∀ v' w', w'.ownsRow base e size v' (n + 1) (xs ++ us) → w.grownBy w' v.ownBlock → Below base w w' → (v'.ownBlock = v.ownBlock ∨ ∃ b, v'.ownBlock = some b ∧ w.heap.size < b) →
      (∀ X b m ys, w.ownsRow b e size X m ys → (∀ k, X.ownBlock = some k → v.ownBlock = some k → m ≤ n ∧ ys = xs.take (m * size)) → w'.ownsRow b e size X m ys) → wpList P ops Q rest (a.put o.dst v') w') :
    wpList P ops Q (o :: rest) a (w.alloc (.cells us.toArray e)) := by
  have hun : (∀ j u, us[j]? = some u → (w.alloc (.cells us.toArray e)).cell? ((⟨w.heap.size, 0, none⟩ : Addr).add j) = some u) := by
    intro j u hj
    have e1 : (⟨w.heap.size, 0, none⟩ : Addr).add j = ⟨w.heap.size, j, none⟩ := by
      unfold Addr.add
      split
      · rename_i h0; subst h0; rfl
      · simp
    rw [e1, World.cell?_alloc_at _ _ _ _ rfl]
    simpa using hj
  rcases hown.2 with ⟨rfl, rfl⟩ | ⟨gv, cap, cur, rfl, hbg, hg, hnc, hcm, hcs, htake⟩
  · refine append_agg_at hgd s x t e ho base z size bytes ht hi hzs h0 _ 0 xs hs hown us hus g hx hgg h1 h63 hbytes hbase ?_
    intro v' w' a1 a2 a3 a4
    refine h v' w' a1 a2 a3 ?_ ?_
    · rcases a4 with a4 | a4
      · exact .inl a4
      · exact .inr ⟨_, a4, Nat.lt_succ_self _⟩
    · intro X b m ys hX _
      refine ⟨hX.1, ?_⟩
      rcases hX.2 with h2 | ⟨g', cap', cur', rfl, hb', hh', h3⟩
      · exact .inl h2
      · exact .inr ⟨g', cap', cur', rfl, hb', (by rw [a2.block g' (hX.lt g' rfl).2 (fun e => by cases e)]; exact hh'), h3⟩
  · obtain ⟨i, hi, hz, hz1, hz2⟩ := info_parts hi
    subst hgg
    by_cases hroom : n + 1 ≤ cap
    · refine wpList_append_fits _ hgd s x t ho base e i size ht hi hz1 gv n cap xs hs (hown.alloc _) ⟨w.heap.size, 0, none⟩ 1 1 us hx (by omega) hun h1 hroom ?_
      intro w' hown' hgr
      have hg' : w.grownBy w' (some gv) :=
        { os := hgr.os, tape := hgr.tape, output := hgr.output,
          size := by have := hgr.size; simp at this; omega,
          block := fun k hk hne => by
            rw [hgr.block k (by simp; omega) hne]
            exact Below.heap_alloc _ _ _ hk }
      refine h _ w' hown' hg' ((Below.refl base w).grown hg' hbase fun k hk => ?_) (.inl rfl) ?_
      · injection hk with hk; omega
      · intro X b m ys hX hq
        refine ⟨hX.1, ?_⟩
        rcases hX.2 with h2 | ⟨g', cap', cur', rfl, hb', hh', h3⟩
        · exact .inl h2
        · by_cases he : g' = gv
          · subst he
            obtain ⟨hm, rfl⟩ := hq g' rfl rfl
            rw [hg] at hh'
            simp only [Option.some.injEq, Obj.cells.injEq] at hh'
            obtain ⟨rfl, _, _⟩ := hh'
            rcases hown'.2 with ⟨hh1, _⟩ | ⟨g2, cap2, cur2, h1', hb2, hh2, hc2, hm2, hsz2, htk2⟩
            · cases hh1
            · simp only [Value.slice.injEq, Option.some.injEq, Addr.mk.injEq] at h1'
              obtain ⟨⟨rfl, _⟩, _, rfl⟩ := h1'
              refine .inr ⟨g', cap', cur2, rfl, hb', hh2, h3.1, h3.2.1, ?_, ?_⟩
              · rw [hsz2, ← hcs, h3.2.2.1]
              · have := congrArg (List.take (m * size)) htk2
                rw [List.take_take, Nat.min_eq_left (Nat.mul_le_mul_right _ (by omega)), List.take_append_of_le_length (by rw [hown.1]; exact Nat.mul_le_mul_right _ hm)] at this
                exact this
          · exact .inr ⟨g', cap', cur', rfl, hb', (by rw [hg'.block g' (hX.lt g' rfl).2 (fun e => he (by injection e with e))]; exact hh'), h3⟩
    · refine wpList_append_grows _ hgd s x t ho e i z size bytes ht hi hz hz1 hz2 hzs h0 (some ⟨gv, 0, none⟩) n cap xs hs (fun h => by cases h) hown.1 (fun b hb => ?_) ⟨w.heap.size, 0, none⟩ 1 1 us hx (by omega) hun h1 (by omega) (by unfold maxLen; omega) hbytes ?_
      · injection hb with hb
        subst hb
        exact (hown.alloc (.cells us.toArray e)).cells (g := gv) rfl
      · intro v' w' hown' hgr
        have hg' : ∀ row, w.grownBy w' row := fun row =>
          { os := hgr.os, tape := hgr.tape, output := hgr.output,
            size := by have := hgr.size; simp at this; omega,
            block := fun k hk hne => by
              rw [hgr.block k (by simp; omega) (fun e => by cases e)]
              exact Below.heap_alloc _ _ _ hk }
        have hs0 : (w.alloc (.cells us.toArray e)).heap.size = w.heap.size + 1 := by simp
        have hown2 : w'.ownsRow base e size v' (n + 1) (xs ++ us) := by
          refine ⟨hown'.1, ?_⟩
          rcases hown'.2 with h2 | ⟨g', cap', cur', rfl, hb', h3⟩
          · exact .inl h2
          · exact .inr ⟨g', cap', cur', rfl, by omega, h3⟩
        refine h v' w' hown2 (hg' _) ((Below.refl base w).grown (hg' none) hbase fun k hk => by cases hk) ?_ ?_
        · rcases hown'.2 with ⟨_, h2⟩ | ⟨g', cap', cur', rfl, hb', h3⟩
          · omega
          · exact .inr ⟨g', rfl, by omega⟩
        · intro X b m ys hX _
          refine ⟨hX.1, ?_⟩
          rcases hX.2 with h2 | ⟨g', cap', cur', rfl, hb', hh', h3⟩
          · exact .inl h2
          · exact .inr ⟨g', cap', cur', rfl, hb', (by rw [(hg' none).block g' (hX.lt g' rfl).2 (fun e => by cases e)]; exact hh'), h3⟩
section
variable {w w' : World} {base base2 size size2 n m : Nat} {e e2 : TypeId} {a a' b : Value} {xs ys : List Value}
theorem Apart.grow' (hA : Apart a b) (h : w.ownsRow base e size b n xs) (hat : a'.ownBlock = a.ownBlock ∨ ∃ k, a'.ownBlock = some k ∧ w.heap.size < k) : Apart a' b := by
  intro k hk hb
  rcases hat with h1 | ⟨j, h1, h2⟩
  · exact hA k (h1 ▸ hk) hb
  · rw [h1] at hk
    have := (h.lt k hb).2
    injection hk with hk
    omega
theorem own_apart_type (h : w.ownsRow base e size a n xs) (k : w.ownsRow base2 e2 size2 b m ys) (hne : e ≠ e2) : Apart a b := by
  intro g ha hb
  rcases h.2 with ⟨rfl, _⟩ | ⟨g1, cap1, cur1, rfl, _, hh1, _⟩
  · cases ha
  rcases k.2 with ⟨rfl, _⟩ | ⟨g2, cap2, cur2, rfl, _, hh2, _⟩
  · cases hb
  injection ha with ha
  injection hb with hb
  obtain rfl : g1 = g := ha
  obtain rfl : g2 = g1 := hb
  rw [hh1] at hh2
  simp only [Option.some.injEq, Obj.cells.injEq] at hh2
  exact hne hh2.2.1
/-- What lies apart stays, whatever its elements are. -/
theorem own_other (h : w.ownsRow base2 e2 size2 b m ys) (hg : w.grownBy w' a.ownBlock) (hA : Apart a b) : w'.ownsRow base2 e2 size2 b m ys := own_apart_grown h hg hA
theorem own_base (h : w.ownsRow base e size a n xs) (hb : base2 ≤ base) : w.ownsRow base2 e size a n xs := by
  refine ⟨h.1, ?_⟩
  rcases h.2 with h2 | ⟨g, cap, cur, rfl, h3, h4⟩
  · exact .inl h2
  · exact .inr ⟨g, cap, cur, rfl, by omega, h4⟩
end
end Culp

/- Names that are gathered in a cell: what stays meanwhile. No program in sight. -/
namespace Go.Proofs.YtidholghbjljaaaGreatDoor
set_option linter.unusedSimpArgs false
set_option linter.unusedVariables false
open Go.RowKit Go.Maps Culp

/-- All that was there stays, but for one cell's block, and the row that it names. -/
structure KeepN (a : Nat) (o : Option Nat) (w w' : World) : Prop where
  os : w'.os = w.os
  tape : w'.tape = w.tape
  output : w'.output = w.output
  size : w.heap.size ≤ w'.heap.size
  block : ∀ k, k < w.heap.size → k ≠ a → o ≠ some k → w'.heap[k]? = w.heap[k]?
section
variable {a B : Nat} {o o1 : Option Nat} {w w1 w2 W : World} {v bv : Value} {n base size : Nat} {e : TypeId} {xs : List Value}
theorem KeepN.refl (a : Nat) (o : Option Nat) (w : World) : KeepN a o w w := ⟨rfl, rfl, rfl, Nat.le_refl _, fun _ _ _ _ => rfl⟩
theorem KeepN.trans (h : KeepN a o w w1) (k : KeepN a o1 w1 w2) (ho : o1 = o ∨ ∃ b, o1 = some b ∧ w.heap.size ≤ b) : KeepN a o w w2 :=
  ⟨k.os.trans h.os, k.tape.trans h.tape, k.output.trans h.output, Nat.le_trans h.size k.size, fun i hi ha hoi => by
    refine (k.block i (Nat.lt_of_lt_of_le hi h.size) ha ?_).trans (h.block i hi ha hoi)
    rcases ho with rfl | ⟨b, rfl, hb⟩
    · exact hoi
    · intro he
      injection he with he
      omega⟩
theorem KeepN.of (a : Nat) (o : Option Nat) (h : Below w.heap.size w w1) : KeepN a o w w1 := ⟨h.os, h.tape, h.output, h.size, fun k hk _ _ => h.block k hk⟩
theorem KeepN.cell (h : KeepN a o w w1) {p : Addr} (hv : w.cell? p = some v) (ha : p.block ≠ a) (ho : o ≠ some p.block) : w1.cell? p = some v := by
  have hlt := World.block_lt_of_cell? w p hv
  rw [World.cell?_of_block (w := w) (h.block p.block hlt ha ho)]
  exact hv
theorem KeepN.own (h : KeepN a o w w1) (hr : w.ownsRow base e size v n xs) (ha : v.ownBlock ≠ some a) (ho : ∀ k, v.ownBlock = some k → o ≠ some k) : w1.ownsRow base e size v n xs := by
  refine ⟨hr.1, ?_⟩
  rcases hr.2 with h2 | ⟨g, cap, cur, rfl, hb, hh, h3⟩
  · exact .inl h2
  · refine .inr ⟨g, cap, cur, rfl, hb, ?_, h3⟩
    rw [h.block g (hr.lt g rfl).2 (fun e => ha (by rw [e]; rfl)) (ho g rfl)]; exact hh
theorem KeepN.below (h : KeepN a o w w1) (hb : Below B W w) (hB : B ≤ w.heap.size) (ha : B ≤ a) (ho : ∀ k, o = some k → B ≤ k) : Below B W w1 :=
  ⟨h.os.trans hb.os, h.tape.trans hb.tape, h.output.trans hb.output, Nat.le_trans hb.size h.size, fun k hk => (h.block k (by omega) (by omega) (fun e => by have := ho k e; omega)).trans (hb.block k hk)⟩
/-- A cell that holds the names gathered so far. -/
structure NamesAt (ts te : TypeId) (a B : Nat) (L : List ByteArray) (v : Value) (w : World) : Prop where
  one : One a ts v w
  own : w.ownsRow B te 1 v L.length (L.map Value.string)
theorem NamesAt.later {ts te : TypeId} {L : List ByteArray} (h : NamesAt ts te a B L v w) (hb : Below w.heap.size w w1) : NamesAt ts te a B L v w1 :=
  ⟨(hb.block a (Array.getElem?_eq_some_iff.1 h.one).1).trans h.one, own_later h.own hb⟩
theorem NamesAt.ne {ts te : TypeId} {L : List ByteArray} (h : NamesAt ts te a B L v w) (hne : ts ≠ te) : v.ownBlock ≠ some a := by
  intro he
  rcases h.own.2 with ⟨rfl, _⟩ | ⟨g, cap, cur, rfl, _, hh, _⟩
  · cases he
  · simp only [Value.ownBlock, Option.some.injEq] at he
    subst he
    have h1 := h.one
    unfold One at h1
    rw [hh] at h1
    simp only [Option.some.injEq, Obj.cells.injEq] at h1
    exact hne h1.2.1.symm
/-- What goes on with the names answers. -/
def NamesRes (ts te : TypeId) (a B : Nat) (L : List ByteArray) (o : Option Nat) (w : World) (e : Ending) (w' : World) : Prop :=
  e = .returned (.tuple #[]) ∧ ∃ v', NamesAt ts te a B L v' w' ∧ KeepN a o w w' ∧ (v'.ownBlock = o ∨ ∃ b, v'.ownBlock = some b ∧ w.heap.size ≤ b)
theorem NamesRes.after {ts te : TypeId} {L : List ByteArray} {v : Value} {e : Ending} (k : KeepN a o w w1) (hv : v.ownBlock = o ∨ ∃ b, v.ownBlock = some b ∧ w.heap.size ≤ b) (h : NamesRes ts te a B L v.ownBlock w1 e w2) : NamesRes ts te a B L o w e w2 := by
  obtain ⟨h1, v', h2, h3, h4⟩ := h
  refine ⟨h1, v', h2, k.trans h3 hv, ?_⟩
  have hs := k.size
  rcases h4 with h4 | ⟨b, h4, hb⟩
  · rw [h4]; exact hv
  · exact .inr ⟨b, h4, by omega⟩
/-- One more name, and the cell told of it. -/
theorem NamesAt.add {ts te : TypeId} {L : List ByteArray} {w5 : World} {v' : Value} {s : ByteArray} (h : NamesAt ts te a B L v w) (hne : ts ≠ te)
    (hown : w5.ownsRow B te 1 v' (L.length + 1) (L.map Value.string ++ [.string s])) (hg : w.grownBy w5 v.ownBlock) (hat : v'.ownBlock = v.ownBlock ∨ v'.ownBlock = some (w.heap.size + 1)) (hs : s ∉ L) :
    NamesRes ts te a B (Tr.add1 L s) v.ownBlock w (.returned (.tuple #[])) (w5.setCell ⟨a, 0, none⟩ v') := by
  have hal : a < w.heap.size := (Array.getElem?_eq_some_iff.1 h.one).1
  have hva := h.ne hne
  have h5 : One a ts v w5 := (hg.block a hal (fun e => hva e.symm)).trans h.one
  have hv' : v'.ownBlock ≠ some a := by
    rcases hat with e | e
    · rw [e]; exact hva
    · rw [e]; intro he; injection he with he; omega
  have hk : Keep a w5 (w5.setCell ⟨a, 0, none⟩ v') := (Keep.refl a w5).setCell 0 _
  refine ⟨rfl, v', ⟨h5.put v', ?_⟩, ⟨hk.os.trans hg.os, hk.tape.trans hg.tape, hk.output.trans hg.output, Nat.le_trans hg.size hk.size, fun k hk1 hk2 hk3 => (hk.block k (Nat.lt_of_lt_of_le hk1 hg.size) hk2).trans (hg.block k hk1 (fun e => hk3 e.symm))⟩, ?_⟩
  · have e : Tr.add1 L s = L ++ [s] := by unfold Tr.add1; rw [if_neg hs]
    rw [e, List.length_append, List.map_append]
    exact own_apart_keep hown hk hv'
  · rcases hat with e | e
    · exact .inl e
    · exact .inr ⟨_, e, Nat.le_succ _⟩
theorem NamesAt.had {ts te : TypeId} {L : List ByteArray} {s : ByteArray} (h : NamesAt ts te a B L v w) (hs : s ∈ L) : NamesRes ts te a B (Tr.add1 L s) v.ownBlock w (.returned (.tuple #[])) w := by
  have e : Tr.add1 L s = L := by unfold Tr.add1; rw [if_pos hs]
  rw [e]
  exact ⟨rfl, v, h, KeepN.refl _ _ _, .inl rfl⟩
/-- A slice of texts, as a call finds it. -/
def Nms (w : World) (v : Value) (L : List ByteArray) : Prop := ∃ A c, v = .slice A L.length c ∧ L.length ≤ c ∧ (A = none → L = [] ∧ c = 0) ∧ ∀ b, A = some b → ∃ g, b = ⟨g, 0, none⟩ ∧ g < w.heap.size ∧ ∀ (j : Nat) (s : ByteArray), L[j]? = some s → w.cell? ⟨g, j, none⟩ = some (.string s)
section
variable {L : List ByteArray} {ts : TypeId} {bv : Value}
theorem Nms.nil (w : World) : Nms w (.slice none 0 0) [] := ⟨none, 0, rfl, Nat.le_refl _, fun _ => ⟨rfl, rfl⟩, fun b h => by cases h⟩
theorem Nms.keep {x : Value} (h : Nms w bv L) (k : KeepN a o w w1) (h1 : One a ts x w) (hx : ∀ s, x ≠ .string s) (hap : ∀ g, bv.ownBlock = some g → o ≠ some g) : Nms w1 bv L := by
  obtain ⟨A, c, rfl, h2, h3, h4⟩ := h
  refine ⟨A, c, rfl, h2, h3, fun b hb => ?_⟩
  obtain ⟨g, rfl, hlt, hc⟩ := h4 b hb
  subst hb
  refine ⟨g, rfl, Nat.lt_of_lt_of_le hlt k.size, fun j s hj => k.cell (hc j s hj) ?_ (hap g rfl)⟩
  intro hg
  have hg : g = a := hg
  subst hg
  have := hc j s hj
  unfold One at h1
  simp only [World.cell?, h1] at this
  match j, this with
  | 0, this => simp at this; exact hx s this
  | j + 1, this => simp at this
theorem Nms.later (h : Nms w bv L) (hb : Below w.heap.size w w1) : Nms w1 bv L := by
  obtain ⟨A, c, rfl, h2, h3, h4⟩ := h
  refine ⟨A, c, rfl, h2, h3, fun b hb' => ?_⟩
  obtain ⟨g, rfl, hlt, hc⟩ := h4 b hb'
  exact ⟨g, rfl, Nat.lt_of_lt_of_le hlt hb.size, fun j s hj => cell_later hb (hc j s hj)⟩
theorem Nms.own (h : w.ownsRow base e 1 bv n (L.map Value.string)) : Nms w bv L := by
  have hn : n = L.length := by have := h.1; simp at this; omega
  subst hn
  rcases h.2 with ⟨rfl, h0⟩ | ⟨g, cap, cur, rfl, hb, hh, hc, _⟩
  · have : L = [] := List.eq_nil_of_length_eq_zero h0
    subst this
    exact Nms.nil w
  · refine ⟨_, cap, rfl, hc, (fun h => by cases h), fun b hb => ⟨g, (by injection hb with hb; exact hb.symm), (h.lt g rfl).2, fun j s hj => (own_get h (by rw [List.getElem?_map, hj]; rfl)).1⟩⟩
theorem Nms.apart {v' : Value} (h : Nms w bv L) (hA : Culp.Apart bv v) (hv : v'.ownBlock = v.ownBlock ∨ ∃ b, v'.ownBlock = some b ∧ w.heap.size ≤ b) : Culp.Apart bv v' := by
  obtain ⟨A, c, rfl, _, _, h4⟩ := h
  intro g hg hv'
  rcases hv with e | ⟨b, e, hb⟩
  · rw [e] at hv'; exact hA g hg hv'
  · rw [e] at hv'
    injection hv' with hv'
    cases A with
    | none => cases hg
    | some x =>
      obtain ⟨g', rfl, hlt, _⟩ := h4 x rfl
      injection hg with hg
      have hg : g' = g := hg
      omega
theorem exec_append {P : Program} {o : Oper} {a : Act} {s x : Operand} {t ty : TypeId} {sv xv v' : Value} {w' : World} (hop : o.op = .call { callee := .builtin .append, args := #[s, x], argTypes := #[t, t] }) (hty : o.type = ty) (hs : a.eval s = sv) (hx : a.eval x = xv)
    (hrun : (Builtin.append_ #[t, t] ty #[sv, xv]).run P w = .ok v' w') : (execOp a.eval o).run P w = .ok (.value v') w' := by
  subst hty
  simp [execOp, hop, resolve, invoke, builtin, hs, hx, hrun, Result.andThen]
end
end
end Go.Proofs.YtidholghbjljaaaGreatDoor


/- Memory: rows apart from each other; a text is laid in a slot. No program in sight. -/
import Derived.Test.YtidholghbjljaaaGreatDoorWm
namespace Culp.Er
set_option linter.unusedSimpArgs false
set_option linter.unusedVariables false
open Go Go.RowKit Culp
/-- The rows that modules lie in. -/
inductive Row where
  | all
  | imp (m : Nat)
  | dfs (m : Nat)
  | nds (m i : Nat)
def Row.has (L : List Md) : Row → Prop
  | .all => 0 < L.length
  | .imp m => ∃ md, L[m]? = some md ∧ 0 < md.imps.length
  | .dfs m => ∃ md, L[m]? = some md ∧ 0 < md.defs.length
  | .nds m i => ∃ md d, L[m]? = some md ∧ md.defs[i]? = some d ∧ 0 < d.tree.length
def Row.blk (sk : Sk) : Row → Nat
  | .all => sk.b
  | .imp m => sk.ib m
  | .dfs m => sk.db m
  | .nds m i => sk.tb m i
def Row.is (L : List Md) : Row → Prop
  | .all => True
  | .imp m => ∃ md, L[m]? = some md
  | .dfs m => ∃ md, L[m]? = some md
  | .nds m i => ∃ md d, L[m]? = some md ∧ md.defs[i]? = some d
theorem Row.has.is {L : List Md} {r : Row} (h : r.has L) : r.is L := by
  cases r with
  | all => trivial
  | imp m => obtain ⟨md, hm, _⟩ := h; exact ⟨md, hm⟩
  | dfs m => obtain ⟨md, hm, _⟩ := h; exact ⟨md, hm⟩
  | nds m i => obtain ⟨md, d, hm, hd, _⟩ := h; exact ⟨md, d, hm, hd⟩
def Row.val (sk : Sk) : Row → Value
  | .all => sk.v
  | .imp m => sk.iv m
  | .dfs m => sk.dv m
  | .nds m i => sk.tv m i
def Row.sz : Row → Nat
  | .all => 5
  | .imp _ => 5
  | .dfs _ => 6
  | .nds _ _ => 8
def Row.ty : Row → TypeId
  | .all => 88
  | .imp _ => 90
  | .dfs _ => 84
  | .nds _ _ => 81
/-- A slice over the whole of its block. -/
def GoodV (v : Value) (g sz : Nat) (t : TypeId) (w : World) : Prop := ∃ n cap cs, v = .slice (some ⟨g, 0, none⟩) n cap ∧ n ≤ cap ∧ cap ≤ maxLen ∧ w.heap[g]? = some (.cells cs t (0, 0)) ∧ cs.size = cap * sz
theorem GoodV.of {v : Value} {g sz : Nat} {t : TypeId} {w w' : World} (h : GoodV v g sz t w) (hb : w'.heap[g]? = w.heap[g]?) : GoodV v g sz t w' := by
  unfold GoodV at *
  rw [hb]; exact h
theorem GoodV.set {v u : Value} {g sz : Nat} {t : TypeId} {w : World} (h : GoodV v g sz t w) (a : Addr) : GoodV v g sz t (w.setCell a u) := by
  obtain ⟨n, cap, cs, h1, h2, h3, h4, h5⟩ := h
  by_cases e : g = a.block
  · subst e
    refine ⟨n, cap, if a.spot.isSome then cs else cs.setIfInBounds a.off u, h1, h2, h3, ?_, ?_⟩
    · simp only [World.setCell, Array.getElem?_modify, if_true, h4, Option.map_some]
    · split
      · exact h5
      · rw [Array.size_setIfInBounds]; exact h5
  · exact ⟨n, cap, cs, h1, h2, h3, by rw [Below.heap_setCell _ _ _ _ e]; exact h4, h5⟩
/-- No two rows share a block. -/
def Apart (sk : Sk) (L : List Md) : Prop := ∀ r r' : Row, r.has L → r'.has L → r.blk sk = r'.blk sk → r = r'
/-- A slot's place is one. -/
def Real (L : List Md) (p : Pos) : Prop := ∃ md, L[p.2.1]? = some md ∧ ((p.1 = 0 ∧ p.2.2.1 < md.imps.length ∧ p.2.2.2 = 0) ∨ (∃ d, md.defs[p.2.2.1]? = some d ∧ ((p.1 = 1 ∧ p.2.2.2 = 0) ∨ ((p.1 = 2 ∨ p.1 = 3) ∧ p.2.2.2 < d.tree.length))))
def rowOf (p : Pos) : Row := if p.1 = 0 then .imp p.2.1 else if p.1 = 1 then .dfs p.2.1 else .nds p.2.1 p.2.2.1
def offOf (sk : Sk) (p : Pos) : Nat := if p.1 = 0 then sk.io p.2.1 + p.2.2.1 * 5 + 2 else if p.1 = 1 then sk.do_ p.2.1 + p.2.2.1 * 6 + 2 else if p.1 = 2 then sk.to_ p.2.1 p.2.2.1 + p.2.2.2 * 8 + 4 else sk.to_ p.2.1 p.2.2.1 + p.2.2.2 * 8 + 5
theorem addr_eq (sk : Sk) (p : Pos) : addr sk p = ⟨(rowOf p).blk sk, offOf sk p, none⟩ := by
  unfold addr rowOf offOf
  by_cases h0 : p.1 = 0
  · simp only [h0, if_true]; rfl
  · by_cases h1 : p.1 = 1
    · simp only [h1, if_true, Nat.one_ne_zero, if_false]; rfl
    · by_cases h2 : p.1 = 2
      · simp [h2, Row.blk]
      · simp [h0, h1, h2, Row.blk]
section
variable {sk : Sk} {L : List Md} {p : Pos} {w : World} {v : Value}
theorem Real.has (h : Real L p) : (rowOf p).has L := by
  obtain ⟨md, hm, ⟨h0, hi, -⟩ | ⟨d, hd, ⟨h1, -⟩ | ⟨h2, hk⟩⟩⟩ := h
  · simp only [rowOf, h0, if_true]; exact ⟨md, hm, by omega⟩
  · have hl := (List.getElem?_eq_some_iff.1 hd).1
    simp only [rowOf, h1, if_true, Nat.one_ne_zero, if_false]; exact ⟨md, hm, by omega⟩
  · have e0 : p.1 ≠ 0 := by omega
    have e1 : p.1 ≠ 1 := by omega
    simp only [rowOf, e0, e1, if_false]; exact ⟨md, d, hm, hd, by omega⟩
theorem keepR (ha : Apart sk L) (hp : Real L p) {r : Row} {o : Nat} {u : Value} (hr : r.has L) (hc : w.cell? ⟨r.blk sk, o, none⟩ = some u) (hne : rowOf p = r → o ≠ offOf sk p) : (w.setCell (addr sk p) v).cell? ⟨r.blk sk, o, none⟩ = some u := by
  rw [World.cell?_setCell_other]
  · exact hc
  · rw [addr_eq]
    intro e
    injection e with e1 e2 e3
    exact hne (ha _ _ hp.has hr e1) e2.symm
end
theorem rowOf_all {p : Pos} : rowOf p ≠ .all := by
  unfold rowOf; split
  · intro h; cases h
  · split <;> (intro h; cases h)
theorem rowOf_imp {p : Pos} {m : Nat} (h : rowOf p = .imp m) : p.1 = 0 ∧ p.2.1 = m := by
  unfold rowOf at h; split at h
  · rename_i e; injection h with h; exact ⟨e, h⟩
  · split at h <;> cases h
theorem rowOf_dfs {p : Pos} {m : Nat} (h : rowOf p = .dfs m) : p.1 = 1 ∧ p.2.1 = m := by
  unfold rowOf at h; split at h
  · cases h
  · split at h
    · rename_i e; injection h with h; exact ⟨e, h⟩
    · cases h
theorem rowOf_nds {p : Pos} {m i : Nat} (h : rowOf p = .nds m i) : p.1 ≠ 0 ∧ p.1 ≠ 1 ∧ p.2.1 = m ∧ p.2.2.1 = i := by
  unfold rowOf at h; split at h
  · cases h
  · split at h
    · cases h
    · rename_i e0 e1; injection h with h1 h2; exact ⟨e0, e1, h1, h2⟩
section
variable {sk : Sk} {L : List Md} {p : Pos} {w : World} {f : Pos → ByteArray} {t : ByteArray}
/-- A text's cell, when a text is laid. -/
theorem txt (ha : Apart sk L) (hp : Real L p) {q : Pos} (hq : Real L q) (hi : rowOf p = rowOf q → offOf sk q = offOf sk p → q = p) (hc : w.cell? ⟨(rowOf q).blk sk, offOf sk q, none⟩ = some (.string (f q))) : (w.setCell (addr sk p) (.string t)).cell? ⟨(rowOf q).blk sk, offOf sk q, none⟩ = some (.string (upd f p t q)) := by
  by_cases e : q = p
  · subst e
    rw [addr_eq, World.cell?_setCell_same _ _ _ hc]
    simp [upd]
  · rw [keepR ha hp hq.has hc (fun h ho => e (hi h ho))]
    simp [upd, e]
theorem MAt.set (h : MAt sk w L f) (ha : Apart sk L) (hp : Real L p) : MAt sk (w.setCell (addr sk p) (.string t)) L (upd f p t) := fun m md hm => by
  obtain ⟨hc, hi, hd, im, df, nd⟩ := h m md hm
  have hpz := hp
  refine ⟨?_, hi, hd, fun i x hx => ?_, fun i d hx => ⟨?_, (df i d hx).2⟩, fun i d hx k x hk j u hj => ?_⟩
  · have hr : (Row.all).has L := len_pos hm
    have K : ∀ o u, w.cell? ⟨sk.b, o, none⟩ = some u → (w.setCell (addr sk p) (.string t)).cell? ⟨sk.b, o, none⟩ = some u := fun o u h => keepR ha hp (r := .all) hr h (fun e => absurd e rowOf_all)
    exact ⟨K _ _ hc.1, K _ _ hc.2.1, K _ _ hc.2.2.1, K _ _ hc.2.2.2.1, K _ _ hc.2.2.2.2⟩
  · have hl := (List.getElem?_eq_some_iff.1 hx).1
    have hr : (Row.imp m).has L := ⟨md, hm, len_pos hx⟩
    have q := im i x hx
    have K : ∀ j u, j < 5 → j ≠ 2 → w.cell? ⟨sk.ib m, sk.io m + i * 5 + j, none⟩ = some u → (w.setCell (addr sk p) (.string t)).cell? ⟨sk.ib m, sk.io m + i * 5 + j, none⟩ = some u := fun j u h5 h2 h => keepR ha hp (r := .imp m) hr h (fun e => by
      obtain ⟨e0, e1⟩ := rowOf_imp e
      simp only [offOf, e0, e1, if_true]; omega)
    refine ⟨K 0 _ (by omega) (by omega) q.1, K 1 _ (by omega) (by omega) q.2.1, ?_, K 3 _ (by omega) (by omega) q.2.2.2.1, K 4 _ (by omega) (by omega) q.2.2.2.2⟩
    refine txt ha hp (q := (0, m, i, 0)) ⟨md, hm, .inl ⟨rfl, hl, rfl⟩⟩ (fun e ho => ?_) q.2.2.1
    obtain ⟨e0, e1⟩ := rowOf_imp (m := m) e
    obtain ⟨md', hm', ⟨h0, h1, h2⟩ | ⟨d, hd, ⟨h1, h2⟩ | ⟨h1, h2⟩⟩⟩ := hpz <;> try omega
    simp only [offOf, e0, e1, if_true] at ho
    exact Prod.ext e0.symm (Prod.ext e1.symm (Prod.ext (by show i = _; omega) h2.symm))
  · have hl := (List.getElem?_eq_some_iff.1 hx).1
    have hr : (Row.dfs m).has L := ⟨md, hm, len_pos hx⟩
    have q := (df i d hx).1
    have K : ∀ j u, j < 6 → j ≠ 2 → w.cell? ⟨sk.db m, sk.do_ m + i * 6 + j, none⟩ = some u → (w.setCell (addr sk p) (.string t)).cell? ⟨sk.db m, sk.do_ m + i * 6 + j, none⟩ = some u := fun j u h5 h2 h => keepR ha hp (r := .dfs m) hr h (fun e => by
      obtain ⟨e0, e1⟩ := rowOf_dfs e
      simp only [offOf, e0, e1, if_true, Nat.one_ne_zero, if_false]; omega)
    refine ⟨K 0 _ (by omega) (by omega) q.1, K 1 _ (by omega) (by omega) q.2.1, ?_, K 3 _ (by omega) (by omega) q.2.2.2.1, K 4 _ (by omega) (by omega) q.2.2.2.2.1, K 5 _ (by omega) (by omega) q.2.2.2.2.2⟩
    refine txt ha hp (q := (1, m, i, 0)) ⟨md, hm, .inr ⟨d, hx, .inl ⟨rfl, rfl⟩⟩⟩ (fun e ho => ?_) q.2.2.1
    obtain ⟨e0, e1⟩ := rowOf_dfs (m := m) e
    obtain ⟨md', hm', ⟨h0, h1, h2⟩ | ⟨d, hd, ⟨h1, h2⟩ | ⟨h1, h2⟩⟩⟩ := hpz <;> try omega
    simp only [offOf, e0, e1, if_true, Nat.one_ne_zero, if_false] at ho
    exact Prod.ext e0.symm (Prod.ext e1.symm (Prod.ext (by show i = _; omega) h2.symm))
  · have hr : (Row.nds m i).has L := ⟨md, d, hm, hx, len_pos hk⟩
    have hkl := (List.getElem?_eq_some_iff.1 hk).1
    have K : ∀ j u, j < 8 → j ≠ 4 → j ≠ 5 → w.cell? ⟨sk.tb m i, sk.to_ m i + k * 8 + j, none⟩ = some u → (w.setCell (addr sk p) (.string t)).cell? ⟨sk.tb m i, sk.to_ m i + k * 8 + j, none⟩ = some u := fun j u h8 h4 h5 h => keepR ha hp (r := .nds m i) hr h (fun e => by
      obtain ⟨e0, e1, e2, e3⟩ := rowOf_nds e
      simp only [offOf, e0, e1, e2, e3, if_false]; split <;> omega)
    have T : ∀ (z : Nat), z = 2 ∨ z = 3 → ∀ (q : Pos), q = (z, m, i, k) → rowOf p = rowOf q → offOf sk q = offOf sk p → q = p := fun z hz q hq e ho => by
      subst hq
      have e' : rowOf p = .nds m i := by rw [e]; unfold rowOf; rw [if_neg (by show z ≠ 0; omega), if_neg (by show z ≠ 1; omega)]
      obtain ⟨e0, e1, e2, e3⟩ := rowOf_nds e'
      obtain ⟨md', hm', ⟨h0, h1, h2⟩ | ⟨d, hd, ⟨h1, h2⟩ | ⟨h1, h2⟩⟩⟩ := hpz <;> try omega
      obtain ⟨a, b, c, g⟩ := p
      simp only at e0 e1 e2 e3 h1 h2
      subst e2 e3
      rcases hz with rfl | rfl <;> rcases h1 with rfl | rfl <;> simp [offOf] at ho ⊢ <;> omega
    have hn := nd i d hx k x hk
    match j, hj with
    | 0, hj => exact K 0 _ (by omega) (by omega) (by omega) (hn 0 u hj)
    | 1, hj => exact K 1 _ (by omega) (by omega) (by omega) (hn 1 u hj)
    | 2, hj => exact K 2 _ (by omega) (by omega) (by omega) (hn 2 u hj)
    | 3, hj => exact K 3 _ (by omega) (by omega) (by omega) (hn 3 u hj)
    | 4, hj => cases hj; exact txt ha hp (q := (2, m, i, k)) ⟨md, hm, .inr ⟨d, hx, .inr ⟨.inl rfl, hkl⟩⟩⟩ (T 2 (.inl rfl) _ rfl) (hn 4 _ rfl)
    | 5, hj => cases hj; exact txt ha hp (q := (3, m, i, k)) ⟨md, hm, .inr ⟨d, hx, .inr ⟨.inr rfl, hkl⟩⟩⟩ (T 3 (.inr rfl) _ rfl) (hn 5 _ rfl)
    | 6, hj => exact K 6 _ (by omega) (by omega) (by omega) (hn 6 u hj)
    | 7, hj => exact K 7 _ (by omega) (by omega) (by omega) (hn 7 u hj)
    | j + 8, hj => simp [Nd.cells] at hj
end
end Culp.Er

/- The slots' places are places of the modules. No program in sight. -/
namespace Culp.Er
set_option linter.unusedSimpArgs false
set_option linter.unusedVariables false
open Culp
theorem slX_pos {nm : ByteArray} {m i k : Nat} {x : Nd} {s : Sl} (h : s ∈ slX nm m i k x) : s.pos = (2, m, i, k) ∨ s.pos = (3, m, i, k) := by
  unfold slX at h
  rcases List.mem_append.1 h with h | h
  · split at h
    · simp only [List.mem_singleton] at h; exact .inl (by rw [h])
    · simp at h
  · split at h
    · simp only [List.mem_singleton] at h; exact .inr (by rw [h])
    · simp at h
theorem slT_pos {nm : ByteArray} {m i : Nat} {s : Sl} : ∀ (k : Nat) (T : List Nd), s ∈ slT nm m i k T → ∃ j, j < T.length ∧ (s.pos = (2, m, i, k + j) ∨ s.pos = (3, m, i, k + j))
  | _, [], h => by simp [slT] at h
  | k, x :: T, h => by
    rw [slT] at h
    rcases List.mem_append.1 h with h | h
    · exact ⟨0, by simp, slX_pos h⟩
    · obtain ⟨j, hj, hs⟩ := slT_pos (k + 1) T h
      exact ⟨j + 1, by simp; omega, by rw [show k + (j + 1) = k + 1 + j by omega]; exact hs⟩
theorem slI_pos {nm : ByteArray} {m : Nat} {s : Sl} : ∀ (i : Nat) (I : List Im), s ∈ slI nm m i I → ∃ j, j < I.length ∧ s.pos = (0, m, i + j, 0)
  | _, [], h => by simp [slI] at h
  | i, x :: T, h => by
    rw [slI] at h
    rcases List.mem_cons.1 h with h | h
    · exact ⟨0, by simp, by rw [h]; rfl⟩
    · obtain ⟨j, hj, hs⟩ := slI_pos (i + 1) T h
      exact ⟨j + 1, by simp; omega, by rw [show i + (j + 1) = i + 1 + j by omega]; exact hs⟩
theorem slD_pos {nm : ByteArray} {m : Nat} {s : Sl} : ∀ (i : Nat) (D : List Df), s ∈ slD nm m i D → ∃ j d, D[j]? = some d ∧ (s.pos = (1, m, i + j, 0) ∨ ∃ k, k < d.tree.length ∧ (s.pos = (2, m, i + j, k) ∨ s.pos = (3, m, i + j, k)))
  | _, [], h => by simp [slD] at h
  | i, d :: D, h => by
    rw [slD] at h
    rcases List.mem_cons.1 h with h | h
    · exact ⟨0, d, rfl, .inl (by rw [h]; rfl)⟩
    · rcases List.mem_append.1 h with h | h
      · obtain ⟨k, hk, hs⟩ := slT_pos 0 _ h
        exact ⟨0, d, rfl, .inr ⟨k, hk, by simpa using hs⟩⟩
      · obtain ⟨j, d', hj, hs⟩ := slD_pos (i + 1) D h
        exact ⟨j + 1, d', by simpa using hj, by rw [show i + (j + 1) = i + 1 + j by omega]; exact hs⟩
theorem slM_pos {s : Sl} : ∀ (m : Nat) (L : List Md), s ∈ slM m L → ∃ j md, L[j]? = some md ∧ ((∃ i, i < md.imps.length ∧ s.pos = (0, m + j, i, 0)) ∨ ∃ i d, md.defs[i]? = some d ∧ (s.pos = (1, m + j, i, 0) ∨ ∃ k, k < d.tree.length ∧ (s.pos = (2, m + j, i, k) ∨ s.pos = (3, m + j, i, k))))
  | _, [], h => by simp [slM] at h
  | m, md :: L, h => by
    rw [slM] at h
    rcases List.mem_append.1 h with h | h
    · obtain ⟨i, hi, hs⟩ := slI_pos 0 _ h
      exact ⟨0, md, rfl, .inl ⟨i, hi, by simpa using hs⟩⟩
    · rcases List.mem_append.1 h with h | h
      · obtain ⟨i, d, hd, hs⟩ := slD_pos 0 _ h
        exact ⟨0, md, rfl, .inr ⟨i, d, hd, by simpa using hs⟩⟩
      · obtain ⟨j, md', hj, hs⟩ := slM_pos (m + 1) L h
        exact ⟨j + 1, md', by simpa using hj, by rw [show m + (j + 1) = m + 1 + j by omega]; exact hs⟩
theorem slots_real {L : List Md} {s : Sl} (h : s ∈ slots L) : Real L s.pos := by
  obtain ⟨m, md, hm, ⟨i, hi, hs⟩ | ⟨i, d, hd, hs | ⟨k, hk, hs | hs⟩⟩⟩ := slM_pos 0 L h <;> rw [Nat.zero_add] at hs <;> rw [hs]
  · exact ⟨md, hm, .inl ⟨rfl, hi, rfl⟩⟩
  · exact ⟨md, hm, .inr ⟨d, hd, .inl ⟨rfl, rfl⟩⟩⟩
  · exact ⟨md, hm, .inr ⟨d, hd, .inr ⟨.inl rfl, hk⟩⟩⟩
  · exact ⟨md, hm, .inr ⟨d, hd, .inr ⟨.inr rfl, hk⟩⟩⟩
end Culp.Er

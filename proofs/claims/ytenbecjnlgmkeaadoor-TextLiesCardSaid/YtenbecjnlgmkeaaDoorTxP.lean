/- Passing over blanks and remarks, step by step; no program in sight. -/
import Derived.Test.YtenbecjnlgmkeaaDoorTxN
namespace Culp.Tx
set_option linter.unusedSimpArgs false
set_option linter.unusedVariables false

/-- As far as a place all is blanks and remarks; where the line stands. -/
structure Pas (l : List UInt8) (at_ : Nat) (p : Nat × Nat) (b : Bool) (k : Nat) (line beg : Int) : Prop where
  le : at_ ≤ k
  lk : k ≤ l.length
  beh : behind false (l.drop at_) = (k - at_) + behind b (l.drop k)
  pl1 : line = (further p ((l.drop at_).take (k - at_))).1
  pl2 : beg = (k : Int) + 1 - (further p ((l.drop at_).take (k - at_))).2
  l0 : 0 ≤ line
  l1 : line ≤ k + 1
  b0 : 0 ≤ beg
  b1 : beg ≤ k
section
variable {l : List UInt8} {at_ k : Nat} {p : Nat × Nat} {line beg : Int} {b : Bool}
theorem behind_f (c : UInt8) (l : List UInt8) : behind false (c :: l) = if c.toNat = 35 then 1 + behind true l else if Tx.blank c = true then 1 + behind false l else 0 := by rw [behind]
theorem behind_t (c : UInt8) (l : List UInt8) : behind true (c :: l) = 1 + behind (decide (c.toNat ≠ 10)) l := by rw [behind]
theorem behind_nil (b : Bool) : behind b [] = 0 := by cases b <;> rfl
theorem Pas.start (h : at_ ≤ l.length) (h1 : p.1 ≤ at_ + 1) (h2 : 1 ≤ p.2) (h3 : p.2 ≤ at_ + 1) : Pas l at_ p false at_ p.1 ((at_ : Int) + 1 - p.2) :=
  ⟨Nat.le_refl _, h, by simp, by simp [further], by simp [further], by omega, by omega, by omega, by omega⟩
theorem take_more (h : at_ ≤ k) (hk : k < l.length) : (l.drop at_).take (k + 1 - at_) = (l.drop at_).take (k - at_) ++ [l[k]] := by
  have e : k + 1 - at_ = (k - at_) + 1 := by omega
  have e2 : at_ + (k - at_) = k := by omega
  rw [e, List.take_succ_eq_append_getElem (by rw [List.length_drop]; omega), List.getElem_drop]
  simp only [e2]
theorem further_more (h : at_ ≤ k) (hk : k < l.length) : further p ((l.drop at_).take (k + 1 - at_)) = step (further p ((l.drop at_).take (k - at_))) l[k] := by
  rw [take_more h hk]; unfold further; rw [List.foldl_append]; rfl
theorem Pas.next (h : Pas l at_ p b k line beg) (hk : k < l.length) {b' : Bool} (hb : behind b (l.drop k) = 1 + behind b' (l.drop (k + 1))) (hn : l[k].toNat ≠ 10) : Pas l at_ p b' (k + 1) line beg := by
  have e := further_more (p := p) h.le hk
  have e2 : step (further p ((l.drop at_).take (k - at_))) l[k] = ((further p ((l.drop at_).take (k - at_))).1, (further p ((l.drop at_).take (k - at_))).2 + 1) := by unfold step; rw [if_neg hn]
  rw [e2] at e
  have := h.le; have := h.beh; have := h.pl1; have h2 := h.pl2; have := h.l1; have := h.b1
  exact ⟨by omega, by omega, by omega, by rw [e]; exact h.pl1, by rw [e]; simp only; omega, h.l0, by omega, h.b0, by omega⟩
theorem drop_at (hk : k < l.length) : l.drop k = l[k] :: l.drop (k + 1) := List.drop_eq_getElem_cons hk
theorem Pas.hash (h : Pas l at_ p false k line beg) (hk : k < l.length) (hc : l[k].toNat = 35) : Pas l at_ p true (k + 1) line beg :=
  h.next hk (by rw [drop_at hk, behind_f, if_pos hc]) (by omega)
theorem Pas.rem (h : Pas l at_ p true k line beg) (hk : k < l.length) (hc : l[k].toNat ≠ 10) : Pas l at_ p true (k + 1) line beg :=
  h.next hk (by rw [drop_at hk, behind_t, decide_eq_true hc]) hc
theorem Pas.out (h : Pas l at_ p true k line beg) (hk : ∀ hk : k < l.length, l[k].toNat = 10) : Pas l at_ p false k line beg := by
  refine ⟨h.le, h.lk, ?_, h.pl1, h.pl2, h.l0, h.l1, h.b0, h.b1⟩
  rw [h.beh]
  by_cases hlt : k < l.length
  · have hc := hk hlt
    rw [drop_at hlt, behind_f, behind_t, if_neg (by omega), if_pos (by unfold blank; simp only [decide_eq_true_eq]; omega), decide_eq_false (by omega)]
  · rw [List.drop_of_length_le (by omega)]; rfl
theorem Pas.blank (h : Pas l at_ p false k line beg) (hk : k < l.length) (hc : l[k].toNat = 32 ∨ l[k].toNat = 9 ∨ l[k].toNat = 13) : Pas l at_ p false (k + 1) line beg :=
  h.next hk (by rw [drop_at hk, behind_f, if_neg (by omega), if_pos (by unfold Tx.blank; simp only [decide_eq_true_eq]; omega)]) (by omega)
theorem Pas.nl (h : Pas l at_ p false k line beg) (hk : k < l.length) (hc : l[k].toNat = 10) : Pas l at_ p false (k + 1) (line + 1) ((k : Int) + 1) := by
  have e := further_more (p := p) h.le hk
  have e2 : step (further p ((l.drop at_).take (k - at_))) l[k] = ((further p ((l.drop at_).take (k - at_))).1 + 1, 1) := by unfold step; rw [if_pos hc]
  rw [e2] at e
  have hb : behind false (l.drop k) = 1 + behind false (l.drop (k + 1)) := by rw [drop_at hk, behind_f, if_neg (by omega), if_pos (by unfold Tx.blank; simp only [decide_eq_true_eq]; omega)]
  have := h.le; have := h.beh; have := h.pl1; have h2 := h.pl2; have := h.l1; have := h.b1; have := h.l0
  exact ⟨by omega, by omega, by omega, by rw [e]; simp only; omega, by rw [e]; simp only; omega, by omega, by omega, by omega, by omega⟩
theorem Pas.stop (h : Pas l at_ p false k line beg) (hc : ∀ hk : k < l.length, l[k].toNat ≠ 35 ∧ Tx.blank l[k] = false) : behind false (l.drop at_) = k - at_ := by
  have := h.beh
  by_cases hlt : k < l.length
  · obtain ⟨h1, h2⟩ := hc hlt
    rw [drop_at hlt, behind_f, if_neg h1, if_neg (by rw [h2]; simp)] at this
    omega
  · rw [List.drop_of_length_le (show l.length ≤ k by omega), behind_nil] at this
    omega
end
end Culp.Tx


/- Plain: a source with more behind it, behind a line's end. No program in sight. -/
import Derived.Test.YtnhdbjhdmdefmaaDoorR4W
namespace Culp.Tx
set_option linter.unusedSimpArgs false
set_option linter.unusedVariables false
theorem run_stop {z : List UInt8} (hz : Stop z) : ∀ l : List UInt8, run (l ++ z) = run l
  | [] => by
    rcases hz with rfl | ⟨c, r, rfl, h⟩
    · rfl
    · show List.takeWhile inner (c :: r) = []
      rw [List.takeWhile_cons, if_neg (by rw [stop_inner h]; decide)]
  | c :: l => by
    show List.takeWhile inner (c :: (l ++ z)) = List.takeWhile inner (c :: l)
    rw [List.takeWhile_cons, List.takeWhile_cons]
    split
    · congr 1
      exact run_stop hz l
    · rfl
theorem unq_app {l s : List UInt8} {k : Nat} (h : unq l = some (s, k)) (z : List UInt8) : unq (l ++ z) = some (s, k) := by
  have := unq_stable l s k h (l.drop k ++ z)
  rwa [← List.append_assoc, List.take_append_drop] at this
theorem mark_stop {z : List UInt8} (hz : Stop z) : ∀ l : List UInt8, mark l ≠ [] → mark (l ++ z) = mark l
  | [], h => absurd rfl h
  | [c], h => by
    rcases hz with rfl | ⟨d, r, rfl, hd⟩
    · rfl
    · show mark (c :: d :: r) = mark [c]
      rw [mark, mark]
      rw [if_neg]
      intro hm
      have hd2 : d.toNat ≠ 62 ∧ d.toNat ≠ 61 ∧ d.toNat ≠ 43 := by
        unfold blank at hd
        simp only [decide_eq_true_eq] at hd
        omega
      simp only [marks2, List.mem_cons, List.cons.injEq, List.not_mem_nil, or_false, and_true] at hm
      rcases hm with ⟨_, rfl⟩ | ⟨_, rfl⟩ | ⟨_, rfl⟩ | ⟨_, rfl⟩ | ⟨_, rfl⟩ <;> simp at hd2
  | c :: d :: l, h => rfl
theorem one_stop {z : List UInt8} (hz : Stop z) {l : List UInt8} {t : Tk} {k : Nat} (h : one l = .ok (t, k)) : one (l ++ z) = .ok (t, k) := by
  cases l with
  | nil => cases h
  | cons c l =>
    have hr := run_stop hz (c :: l)
    rw [List.cons_append] at hr ⊢
    rcases one_cases h with ⟨h1, h2, rfl, rfl⟩ | ⟨h1, h2, n, h3, rfl, rfl⟩ | ⟨h1, h2, h3, s, j, h4, h5, rfl, rfl⟩ | ⟨h1, h2, h3, h4, rfl, rfl⟩
    · rw [one_word h1 (by rw [hr]; exact h2), hr]
    · rw [one_num h2 (by rw [hr]; exact h3), hr]
    · exact one_text h3 (unq_app h4 z) h5
    · have hm := mark_stop hz (c :: l) h4
      rw [List.cons_append] at hm
      rw [one_mark h1 h2 h3 (by rw [hm]; exact h4), hm]
theorem behind_app : ∀ (b : Bool) (l r : List UInt8), behind b (l ++ 10 :: r) = if behind b l = l.length then l.length + 1 + behind false r else behind b l
  | b, [], r => by
    cases b
    · show (if (10 : UInt8).toNat = 35 then _ else if blank 10 = true then 1 + behind false r else 0) = _
      rw [if_neg (by decide), if_pos (by decide), if_pos (by rfl)]
      simp
    · show 1 + behind (decide ((10 : UInt8).toNat ≠ 10)) r = _
      rw [if_pos (by rfl)]
      simp
  | true, c :: l, r => by
    rw [List.cons_append, behind, behind, behind_app _ l r, List.length_cons]
    by_cases h : behind (decide (c.toNat ≠ 10)) l = l.length
    · rw [if_pos h, if_pos (by omega)]; omega
    · rw [if_neg h, if_neg (by omega)]
  | false, c :: l, r => by
    rw [List.cons_append, behind, behind, List.length_cons]
    by_cases h1 : c.toNat = 35
    · rw [if_pos h1, if_pos h1, behind_app _ l r]
      by_cases h : behind true l = l.length
      · rw [if_pos h, if_pos (by omega)]; omega
      · rw [if_neg h, if_neg (by omega)]
    · rw [if_neg h1, if_neg h1]
      by_cases h2 : blank c = true
      · rw [if_pos h2, if_pos h2, behind_app _ l r]
        by_cases h : behind false l = l.length
        · rw [if_pos h, if_pos (by omega)]; omega
        · rw [if_neg h, if_neg (by omega)]
      · rw [if_neg h2, if_neg h2, if_neg (by omega)]
theorem further_app (p : Nat × Nat) (a b : List UInt8) : further p (a ++ b) = further (further p a) b := by unfold further; rw [List.foldl_append]
theorem behind_drop {l : List UInt8} {k : Nat} (h : behind false l = k + behind false (l.drop k)) (hk : k ≤ l.length) {p : Nat × Nat} {M : List (Tk × (Nat × Nat))} (hM : toksAt (further p (l.take k)) (l.drop k) = .ok M) : toksAt p l = .ok M := by
  rcases toksAt_inv hM with ⟨h1, rfl⟩ | ⟨h1, t, n, q, h2, h3, rfl⟩
  · rw [List.length_drop] at h1
    exact toksAt_none (by omega)
  · rw [List.length_drop] at h1
    rw [List.drop_drop, ← h] at h2
    rw [List.drop_drop, ← Nat.add_assoc, ← h, ← further_app] at h3
    have e : l.take k ++ (l.drop k).take (behind false (l.drop k) + n) = l.take (behind false l + n) := by
      rw [h, Nat.add_assoc]
      exact List.take_add.symm
    have e2 : l.take k ++ (l.drop k).take (behind false (l.drop k)) = l.take (behind false l) := by
      rw [h]
      exact List.take_add.symm
    rw [e] at h3
    have := toksAt_step (p := p) (by omega) h2 h3
    rw [← further_app, e2]
    exact this
/-- The tokens of a source with a line's end and more behind it. -/
theorem toksAt_app (r : List UInt8) {M : List (Tk × (Nat × Nat))} : ∀ (f : Nat) (l : List UInt8) (p : Nat × Nat) (L : List (Tk × (Nat × Nat))), l.length ≤ f → toksAt p l = .ok L → toksAt (further p (l ++ [10])) r = .ok M → toksAt p (l ++ 10 :: r) = .ok (L ++ M) := by
  intro f
  induction f with
  | zero =>
    intro l p L hl h hM
    have : l = [] := List.eq_nil_of_length_eq_zero (by omega)
    subst this
    rcases toksAt_inv h with ⟨_, rfl⟩ | ⟨h1, _⟩
    · have hb : behind false ([] ++ 10 :: r) = 1 + behind false r := by
        have := behind_app false [] r
        rwa [if_pos (by rfl), List.length_nil, Nat.zero_add] at this
      exact behind_drop (k := 1) (by rw [hb]; rfl) (by simp) hM
    · exact absurd h1 (Nat.not_lt_zero _)
  | succ f ih =>
    intro l p L hl h hM
    have hb := behind_app false l r
    rcases toksAt_inv h with ⟨h1, rfl⟩ | ⟨h1, t, n, q, h2, h3, rfl⟩
    · rw [if_pos h1] at hb
      have e1 : (l ++ 10 :: r).take (l.length + 1) = l ++ [10] := by
        rw [List.take_append, List.take_of_length_le (by omega), show l.length + 1 - l.length = 1 by omega]; rfl
      have e2 : (l ++ 10 :: r).drop (l.length + 1) = r := by
        rw [List.drop_append, List.drop_of_length_le (by omega), show l.length + 1 - l.length = 1 by omega]; rfl
      exact behind_drop (k := l.length + 1) (by rw [hb, e2]) (by simp) (by rw [e1, e2]; exact hM)
    · rw [if_neg (by omega)] at hb
      have hst : Stop (10 :: r) := .inr ⟨10, r, rfl, .inl (by decide)⟩
      have hle := behind_le false l
      have ho : one ((l ++ 10 :: r).drop (behind false (l ++ 10 :: r))) = .ok (t, n) := by
        rw [hb, List.drop_append_of_le_length (by omega)]
        exact one_stop hst h2
      obtain ⟨n1, n2⟩ := one_bounds h2
      rw [List.length_drop] at n2
      have e1 : (l ++ 10 :: r).take (behind false l + n) = l.take (behind false l + n) := List.take_append_of_le_length (by omega)
      have e2 : (l ++ 10 :: r).drop (behind false l + n) = l.drop (behind false l + n) ++ 10 :: r := List.drop_append_of_le_length (by omega)
      have e3 : (l ++ 10 :: r).take (behind false l) = l.take (behind false l) := List.take_append_of_le_length (by omega)
      have hq := ih (l.drop (behind false l + n)) (further p (l.take (behind false l + n))) q (by rw [List.length_drop]; omega) h3 (by
        rw [← further_app, ← List.append_assoc, List.take_append_drop]; exact hM)
      rw [List.cons_append]
      have := toksAt_step (p := p) (l := l ++ 10 :: r) (t := t) (n := n) (r := q ++ M) (by rw [hb, List.length_append]; omega) ho (by rw [hb, e1, e2]; exact hq)
      rw [hb, e3] at this
      exact this
end Culp.Tx

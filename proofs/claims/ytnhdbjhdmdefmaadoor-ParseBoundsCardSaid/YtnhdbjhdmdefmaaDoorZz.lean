
/- Plain: tokens are no longer than they may be. No program in sight. -/
import Derived.Test.YtnhdbjhdmdefmaaDoorZp
import Derived.Test.YtnhdbjhdmdefmaaDoorZc
namespace Culp.Tx
set_option linter.unusedSimpArgs false
set_option linter.unusedVariables false
theorem mark_le : ∀ l : List UInt8, (mark l).length ≤ 2
  | [] => by simp [mark]
  | [c] => by rw [mark]; split <;> simp
  | c :: d :: l => by
    rw [mark]
    split
    · simp
    · split <;> simp
theorem one_fine {l : List UInt8} {t : Tk} {k : Nat} (h : one l = .ok (t, k)) : t.s.length ≤ 64 := by
  cases l with
  | nil => cases h
  | cons c l =>
    rcases one_cases h with ⟨_, h2, rfl, _⟩ | ⟨_, _, n, _, rfl, _⟩ | ⟨_, _, _, s, j, _, h5, rfl, _⟩ | ⟨_, _, _, _, rfl, _⟩
    · exact Nat.le_trans h2 (by decide)
    · exact Nat.zero_le _
    · exact h5
    · exact Nat.le_trans (mark_le _) (by decide)
theorem toks_fineF : ∀ (f : Nat) (l : List UInt8) (p : Nat × Nat) (L : List (Tk × (Nat × Nat))), l.length ≤ f → toksAt p l = .ok L → L.length ≤ l.length ∧ ∀ t ∈ L, t.1.s.length ≤ 64
  | f, l, p, L, hf, h => by
    rcases toksAt_inv h with ⟨h1, rfl⟩ | ⟨h1, t, m, r, h2, h3, rfl⟩
    · exact ⟨Nat.zero_le _, fun t ht => by cases ht⟩
    have hb := one_bounds h2
    rw [List.length_drop] at hb
    cases f with
    | zero => omega
    | succ f =>
      obtain ⟨a1, a2⟩ := toks_fineF f (l.drop (behind false l + m)) _ r (by rw [List.length_drop]; omega) h3
      rw [List.length_drop] at a1
      refine ⟨by simp only [List.length_cons]; omega, fun u hu => ?_⟩
      rcases List.mem_cons.1 hu with rfl | hu
      · exact one_fine h2
      · exact a2 u hu
theorem toks_fine {l : List UInt8} {L : List (Tk × (Nat × Nat))} (h : toks l = .ok L) : L.length ≤ 65536 ∧ ∀ t ∈ L, t.1.s.length ≤ 64 := by
  unfold toks at h
  split at h
  · cases h
  · obtain ⟨a1, a2⟩ := toks_fineF _ _ _ _ (Nat.le_refl _) h
    exact ⟨by omega, a2⟩
theorem toksF_pos : ∀ (f : Nat) (p : Nat × Nat) (l : List UInt8) (x : Nat × (Nat × Nat)), toksF f p l = .error x → 0 < x.1
  | 0, p, l, x, h => by simp [toksF] at h
  | f + 1, p, l, x, h => by
    rw [toksF] at h
    split at h
    · cases h
    · split at h
      · rename_i e he
        injection h with h
        subst h
        have := one_err he
        show 0 < e
        omega
      · split at h
        · rename_i e' he'
          injection h with h
          subst h
          exact toksF_pos f _ _ _ he'
        · cases h
theorem toks_pos {l : List UInt8} {x : Nat × (Nat × Nat)} (h : toks l = .error x) : 0 < x.1 := by
  unfold toks at h
  split at h
  · injection h with h; subst h; exact Nat.succ_pos _
  · exact toksF_pos _ _ _ _ h
end Culp.Tx

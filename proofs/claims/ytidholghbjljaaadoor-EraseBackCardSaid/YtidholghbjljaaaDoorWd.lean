
/- The slots' places are places of the modules. No program in sight. -/
import Derived.Test.YtidholghbjljaaaDoorWc
namespace Culp.Er
set_option linter.unusedSimpArgs false
set_option linter.unusedVariables false
open Culp
theorem slX_pos {nm : ByteArray} {m i k : Nat} {x : Nd} {s : Sl} (h : s ∈ slX nm m i k x) : s.pos = (2, m, i, k) ∨ s.pos = (3, m, i, k) := by
  unfold slX at h
  rcases List.mem_append.1 h with h | h
  · split at h
    · simp only [List.mem_singleton] at h; exact .inl (by rw [h])
    · simp at h
  · split at h
    · simp only [List.mem_singleton] at h; exact .inr (by rw [h])
    · simp at h
theorem slT_pos {nm : ByteArray} {m i : Nat} {s : Sl} : ∀ (k : Nat) (T : List Nd), s ∈ slT nm m i k T → ∃ j, j < T.length ∧ (s.pos = (2, m, i, k + j) ∨ s.pos = (3, m, i, k + j))
  | _, [], h => by simp [slT] at h
  | k, x :: T, h => by
    rw [slT] at h
    rcases List.mem_append.1 h with h | h
    · exact ⟨0, by simp, slX_pos h⟩
    · obtain ⟨j, hj, hs⟩ := slT_pos (k + 1) T h
      exact ⟨j + 1, by simp; omega, by rw [show k + (j + 1) = k + 1 + j by omega]; exact hs⟩
theorem slI_pos {nm : ByteArray} {m : Nat} {s : Sl} : ∀ (i : Nat) (I : List Im), s ∈ slI nm m i I → ∃ j, j < I.length ∧ s.pos = (0, m, i + j, 0)
  | _, [], h => by simp [slI] at h
  | i, x :: T, h => by
    rw [slI] at h
    rcases List.mem_cons.1 h with h | h
    · exact ⟨0, by simp, by rw [h]; rfl⟩
    · obtain ⟨j, hj, hs⟩ := slI_pos (i + 1) T h
      exact ⟨j + 1, by simp; omega, by rw [show i + (j + 1) = i + 1 + j by omega]; exact hs⟩
theorem slD_pos {nm : ByteArray} {m : Nat} {s : Sl} : ∀ (i : Nat) (D : List Df), s ∈ slD nm m i D → ∃ j d, D[j]? = some d ∧ (s.pos = (1, m, i + j, 0) ∨ ∃ k, k < d.tree.length ∧ (s.pos = (2, m, i + j, k) ∨ s.pos = (3, m, i + j, k)))
  | _, [], h => by simp [slD] at h
  | i, d :: D, h => by
    rw [slD] at h
    rcases List.mem_cons.1 h with h | h
    · exact ⟨0, d, rfl, .inl (by rw [h]; rfl)⟩
    · rcases List.mem_append.1 h with h | h
      · obtain ⟨k, hk, hs⟩ := slT_pos 0 _ h
        exact ⟨0, d, rfl, .inr ⟨k, hk, by simpa using hs⟩⟩
      · obtain ⟨j, d', hj, hs⟩ := slD_pos (i + 1) D h
        exact ⟨j + 1, d', by simpa using hj, by rw [show i + (j + 1) = i + 1 + j by omega]; exact hs⟩
theorem slM_pos {s : Sl} : ∀ (m : Nat) (L : List Md), s ∈ slM m L → ∃ j md, L[j]? = some md ∧ ((∃ i, i < md.imps.length ∧ s.pos = (0, m + j, i, 0)) ∨ ∃ i d, md.defs[i]? = some d ∧ (s.pos = (1, m + j, i, 0) ∨ ∃ k, k < d.tree.length ∧ (s.pos = (2, m + j, i, k) ∨ s.pos = (3, m + j, i, k))))
  | _, [], h => by simp [slM] at h
  | m, md :: L, h => by
    rw [slM] at h
    rcases List.mem_append.1 h with h | h
    · obtain ⟨i, hi, hs⟩ := slI_pos 0 _ h
      exact ⟨0, md, rfl, .inl ⟨i, hi, by simpa using hs⟩⟩
    · rcases List.mem_append.1 h with h | h
      · obtain ⟨i, d, hd, hs⟩ := slD_pos 0 _ h
        exact ⟨0, md, rfl, .inr ⟨i, d, hd, by simpa using hs⟩⟩
      · obtain ⟨j, md', hj, hs⟩ := slM_pos (m + 1) L h
        exact ⟨j + 1, md', by simpa using hj, by rw [show m + (j + 1) = m + 1 + j by omega]; exact hs⟩
theorem slots_real {L : List Md} {s : Sl} (h : s ∈ slots L) : Real L s.pos := by
  obtain ⟨m, md, hm, ⟨i, hi, hs⟩ | ⟨i, d, hd, hs | ⟨k, hk, hs | hs⟩⟩⟩ := slM_pos 0 L h <;> rw [Nat.zero_add] at hs <;> rw [hs]
  · exact ⟨md, hm, .inl ⟨rfl, hi, rfl⟩⟩
  · exact ⟨md, hm, .inr ⟨d, hd, .inl ⟨rfl, rfl⟩⟩⟩
  · exact ⟨md, hm, .inr ⟨d, hd, .inr ⟨.inl rfl, hk⟩⟩⟩
  · exact ⟨md, hm, .inr ⟨d, hd, .inr ⟨.inr rfl, hk⟩⟩⟩
end Culp.Er


/- Walks of trees, the document's: the checker. -/
import Derived.Test.YtdobaililmkkcaaDoorTrJ
namespace Culp.Tr
set_option linter.unusedSimpArgs false
set_option linter.unusedVariables false
theorem firstBad_cons (n : Nat) (x : Nd) (l : List Nd) (i : Nat) : firstBad n (x :: l) i = if may x = true ∧ i < n then firstBad n l (i + 1) else some i := rfl
theorem firstDeep_cons (d : Nat) (l : List Nat) (i : Nat) : firstDeep (d :: l) i = if 64 < d then some i else firstDeep l (i + 1) := rfl
end Culp.Tr
namespace Go.Proofs.YtdobaililmkkcaaDoor
open Go.RowKit Go.Maps Culp

theorem deps_len : ∀ (l : List Nd) (S : List Int), (Tr.deps l S).length ≤ l.length
  | [], S => by rw [Tr.deps_nil]; exact Nat.le_refl _
  | x :: l, S => by
    rw [Tr.deps]
    split
    · simp
    · rw [List.length_cons, List.length_cons]
      exact Nat.succ_le_succ (deps_len l _)
theorem bad_all : ∀ (n : Nat) (l : List Nd) (i : Nat), Tr.firstBad n l i = none → l ≠ [] → i + l.length ≤ n
  | n, [], i, _, h => absurd rfl h
  | n, x :: l, i, h, _ => by
    rw [Tr.firstBad_cons] at h
    split at h
    · rename_i hx
      cases l with
      | nil => simp; omega
      | cons y l =>
        have := bad_all n (y :: l) (i + 1) h (by simp)
        simp only [List.length_cons] at this ⊢
        omega
    · cases h
end Go.Proofs.YtdobaililmkkcaaDoor

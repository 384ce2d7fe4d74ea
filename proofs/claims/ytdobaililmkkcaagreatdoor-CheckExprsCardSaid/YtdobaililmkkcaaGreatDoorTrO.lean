
/- Walks of trees: the depth; likeness. -/
import Derived.Test.YtdobaililmkkcaaGreatDoorTrN
namespace Culp
set_option linter.unusedSimpArgs false
set_option linter.unusedVariables false
open Go Go.RowKit
theorem own_mono {w : World} {base base' size n : Nat} {e : TypeId} {v : Value} {xs : List Value} (h : w.ownsRow base e size v n xs) (hb : base' ≤ base) : w.ownsRow base' e size v n xs := by
  refine ⟨h.1, ?_⟩
  rcases h.2 with h2 | ⟨g, cap, cur, rfl, hb', h3⟩
  · exact .inl h2
  · exact .inr ⟨g, cap, cur, rfl, Nat.le_trans hb hb', h3⟩
end Culp
namespace Culp.Tr
/-- The greatest depth. -/
def deepOf (T : List Nd) : Nat := if T.length = 0 ∨ behind T 0 ≠ T.length then 0 else (deps T [1]).foldl max 0
theorem whole {T : List Nd} (h : behind T 0 = T.length) (h0 : T.length ≠ 0) : beh T.length (T.drop 0) ([1] : List Int).sum = some (T.length - 0) := by
  have h' := h
  unfold behind at h'
  rw [if_neg (by omega)] at h'
  show beh T.length (T.drop 0) 1 = _
  rw [show (0 : Int).toNat = 0 from rfl] at h'
  cases hb : beh T.length (T.drop 0) 1 with
  | none => rw [hb] at h'; simp at h'; omega
  | some k => rw [hb] at h'; simp at h'; rw [h']; rfl
theorem whole_step {N k : Nat} {x : Nd} {l : List Nd} {left : Int} (h : beh N (x :: l) left = some k) (hk : 0 < k) : 0 < left ∧ 0 ≤ x.kids ∧ x.kids ≤ (N : Int) ∧ beh N l (left - 1 + x.kids) = some (k - 1) := by
  rw [beh_cons] at h
  split at h
  · injection h with h; omega
  · split at h
    · cases h
    · simp only [Option.map_eq_some_iff] at h
      obtain ⟨j, hj, rfl⟩ := h
      exact ⟨by omega, by omega, by omega, by rw [hj]; rfl⟩
theorem fold_snoc (D : List Nat) (y : Nat) : (D ++ [y]).foldl max 0 = max (D.foldl max 0) y := by rw [List.foldl_append]; rfl
theorem fold_le {n : Nat} : ∀ (D : List Nat) (m : Nat), m ≤ n → (∀ y ∈ D, y ≤ n) → D.foldl max m ≤ n
  | [], m, hm, _ => hm
  | y :: D, m, hm, h => fold_le D (max m y) (by have := h y List.mem_cons_self; omega) fun z hz => h z (List.mem_cons_of_mem _ hz)
end Culp.Tr
namespace Go.Proofs.YtdobaililmkkcaaGreatDoor
open Go.RowKit Go.Maps Culp

end Go.Proofs.YtdobaililmkkcaaGreatDoor

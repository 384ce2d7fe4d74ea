/- What the statement TextTokens leans on: what Tokens answers, the fault and the list in one. -/
import Derived.Test.YtenbecjnlgmkeaaDoorTyL
namespace Go.Proofs.YtenbecjnlgmkeaaDoor
set_option linter.unusedSimpArgs false
set_option linter.unusedVariables false
open Go.RowKit Go.Maps Culp

/-- The tokens, the fault, its place. -/
def AnsOf (l : List UInt8) (L : List (Tx.Tk × (Nat × Nat))) (x : Nat) (p : Nat × Nat) : Prop := match Tx.toks l with
  | .ok L' => L' = L ∧ x = 0 ∧ p = (0, 0)
  | .error (c, q) => L = [] ∧ x = c ∧ p = q
theorem ans_ex (l : List UInt8) : ∃ L x p, AnsOf l L x p := by
  unfold AnsOf
  cases h : Tx.toks l with
  | ok L => exact ⟨L, 0, (0, 0), rfl, rfl, rfl⟩
  | error e => exact ⟨[], e.1, e.2, rfl, rfl, rfl⟩
theorem toks_ans {l : List UInt8} {L : List (Tx.Tk × (Nat × Nat))} {x : Nat} {p : Nat × Nat} {w w' : World} {e : Ending} (ha : AnsOf l L x p) (h : ToksRes l w e w') :
    Below w.heap.size w w' ∧ ∃ v, e = .returned (.tuple #[v, .int .i64 x, .agg #[.int .i64 p.1, .int .i64 p.2]]) ∧ w'.ownsRow w.heap.size 40 5 v L.length (tflat L) := by
  obtain ⟨hb, h⟩ := h
  refine ⟨hb, ?_⟩
  unfold AnsOf at ha
  cases ht : Tx.toks l with
  | ok L' =>
    rw [ht] at h ha
    obtain ⟨rfl, rfl, rfl⟩ := ha
    exact h
  | error y =>
    obtain ⟨c, q⟩ := y
    rw [ht] at h ha
    obtain ⟨rfl, rfl, rfl⟩ := ha
    exact ⟨_, h, World.ownsRow_nil _ _ _ _⟩
theorem rtoks_ans {l : List UInt8} {L : List (Tx.Tk × (Nat × Nat))} {x : Nat} {p : Nat × Nat} {w w' : World} {e : Ending} (ha : AnsOf l L x p) (h : rToksRes l w e w') :
    Below w.heap.size w w' ∧ ∃ v M, e = .returned (.tuple #[v, .int .i64 x, .agg #[.int .i64 p.1, .int .i64 p.2]]) ∧ M.map Prod.fst = L ∧ w'.ownsRow w.heap.size 44 7 v M.length (rflat M) := by
  obtain ⟨hb, h⟩ := h
  refine ⟨hb, ?_⟩
  unfold AnsOf at ha
  cases ht : Tx.toks l with
  | ok L' =>
    rw [ht] at h ha
    obtain ⟨rfl, rfl, rfl⟩ := ha
    exact h
  | error y =>
    obtain ⟨c, q⟩ := y
    rw [ht] at h ha
    obtain ⟨rfl, rfl, rfl⟩ := ha
    exact ⟨_, [], h, rfl, World.ownsRow_nil _ _ _ _⟩
end Go.Proofs.YtenbecjnlgmkeaaDoor

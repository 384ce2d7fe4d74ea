/- The walk of the statement TextTokens. -/
import Derived.Test.YtenbecjnlgmkeaaDoorTyM
namespace Go.Proofs.YtenbecjnlgmkeaaDoor
set_option linter.unusedSimpArgs false
set_option linter.unusedVariables false
open Go.RowKit Go.Maps Culp

theorem held_bytes {g : Nat} {s : ByteArray} {m : List UInt8} {w : World} {c : Nat} (h : Held g (s.data.toList ++ m) w) (hc : s.size ≤ c) : BytesV w (.slice (some ⟨g, 0, none⟩) s.size c) s := by
  refine ⟨_, c, rfl, hc, fun _ => ⟨g, 0, rfl, fun i hi => ?_⟩⟩
  rw [Nat.zero_add]
  exact h i s[i] (by rw [List.getElem?_append_left (by rw [size_list]; exact hi)]; exact get_byte s i hi)
theorem Held.later {g : Nat} {l : List UInt8} {w w' : World} (h : Held g l w) (hb : Below w.heap.size w w') : Held g l w' := fun i u hu => cell_later hb (h i u hu)
theorem RowB.later {R N : Nat} {w w' : World} (h : RowB R N w) (hb : Below w.heap.size w w') : RowB R N w' := by
  obtain ⟨cs, h1, h2⟩ := h
  refine ⟨cs, ?_, h2⟩
  rw [hb.block R (Array.getElem?_eq_some_iff.1 h1).1]
  exact h1
end Go.Proofs.YtenbecjnlgmkeaaDoor

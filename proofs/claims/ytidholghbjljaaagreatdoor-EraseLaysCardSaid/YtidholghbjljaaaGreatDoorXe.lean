
/- The walk of the statement EraseBack. -/
import Derived.Test.YtidholghbjljaaaGreatDoorXd
import Derived.Test.YtidholghbjljaaaGreatDoorVg
import Derived.Test.YtidholghbjljaaaGreatDoorVh
namespace Go.Proofs.YtidholghbjljaaaGreatDoor
set_option linter.unusedSimpArgs false
set_option linter.unusedVariables false
open Go.RowKit Go.Maps Culp Culp.Er
/-- The lengths that the likeness of modules asks for. -/
theorem eq_lens {L : List Md} (h : Mo.mods L = 0) : L.length ≤ 1000000000000000 ∧ ∀ m ∈ L, m.imps.length ≤ 1000000000000000 ∧ m.defs.length ≤ 1000000000000000 ∧ ∀ d ∈ m.defs, d.tree.length ≤ 100000000000 := by
  have h1 := lens_of h
  obtain ⟨_, _, h3⟩ := mods_zero.1 h
  refine ⟨by have := h1.len; omega, fun m hm => ⟨by have := h1.imps m hm; omega, by have := h1.defs m hm; omega, fun d hd => ?_⟩⟩
  have := Mo.check_small ((modE_zero.1 (h3 m hm)).2 d hd).2
  omega
end Go.Proofs.YtidholghbjljaaaGreatDoor


/- Walks of erase: all. -/
import Derived.Test.YtidholghbjljaaaGreatDoorWb
import Derived.Test.YtidholghbjljaaaGreatDoorR4W
import Derived.WalkKit
import Derived.Laws.EntriesVeiled
namespace Go.Proofs.YtidholghbjljaaaGreatDoor
set_option linter.unusedSimpArgs false
set_option linter.unusedVariables false
open Go.RowKit Culp Culp.Er
set_option maxRecDepth 100000 in
set_option maxHeartbeats 1600000 in
theorem all_any (A : Option Addr) (n c : Nat) (W : World) : Calls Tryz.prog 89 #[.slice A n c] W fun e w' => e = .returned (.func (.func 115) #[] #[.pointer (some ⟨W.heap.size, 0, none⟩)]) ∧ Below W.heap.size W w' ∧ w'.cell? ⟨W.heap.size, 0, none⟩ = some (.slice A n c) := by
  go_enter Tryz.func89, Tryz.ntmps89
  go_wp2
  go_ret
  exact ⟨rfl, (Below.refl _ _).alloc (Nat.le_refl _) _, (World.cell?_alloc_at _ _ _ _ rfl).trans rfl⟩
end Go.Proofs.YtidholghbjljaaaGreatDoor

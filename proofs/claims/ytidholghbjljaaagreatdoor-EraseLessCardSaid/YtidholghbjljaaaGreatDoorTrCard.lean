
/- What the cards of this seat share: a world that holds the listed tables, and what the list gives. -/
import Derived.Test.YtidholghbjljaaaGreatDoorHlpB
import Derived.Test.YtidholghbjljaaaGreatDoorCards
import Derived.Test.YtidholghbjljaaaGreatDoorTie
import Derived.Test.YtidholghbjljaaaGreatDoorLaw
import Derived.Deep.DeepHandedRow
import Derived.Deep.DeepWitnessRowRef
import Derived.Lib.LaidTab
import Derived.Lib.Space
import Derived.Lib.SpaceR
import Derived.Stop.LaidErr
namespace Go.Proofs.YtidholghbjljaaaGreatDoor.Card
set_option linter.unusedSimpArgs false
set_option linter.unusedVariables false
open Go.ChangeShapes Go.WideShapes Go.ChangeAt Go.RowKit Culp

theorem own : ownKnob Tryz.prog.godebug = none := by kernel_rfl
theorem laidOut : laidOutB Tryz.prog = true := by kernel_rfl
theorem gT : Tryz.prog.globalNamed "strings.asciiSpace" = some 4 := by kernel_rfl
theorem gTType : (Tryz.prog.globals[4]?).map (·.type) = some 208 := by kernel_rfl
theorem cells5 : Tryz.prog.cellsOf 5 = 1 := by kernel_rfl
theorem cells79 : Tryz.prog.cellsOf 208 = 256 := by kernel_rfl
/-- What the rows of this seat list. -/
abbrev L : List (String × DataW Unit) := [("unicode.White_Space", Rows.laid_unicode_White_Space), ("strings.asciiSpace", Rows.laid_strings_asciiSpace)]
theorem tab_eq : (Rows.laid_strings_asciiSpace : DataW Unit) = Lib.tabData .u8 Lib.asciiSpaceTab := by kernel_rfl
theorem table {W : World} (h : laidMetH Tryz.prog L W) : Sp W := by
  have h1 : laidMet Tryz.prog L W := h
  have h2 := Go.laidMet.tail h1
  rw [tab_eq] at h2
  exact Lib.tabIs_of_head (rest := []) gT gTType Tryz.underlying208 Tryz.underlying5 cells5 cells79 h2

/-- A world for the witness. -/
noncomputable def laidWorld (os : Os) : World :=
  let N := (World.settled Tryz.prog os).heap.size
  let w0 := World.holding Tryz.prog os ⟨#[.cells (Lib.whiteT.map fun (z : Nat) => Value.int .u16 (z : Int)).toArray 222, .cells #[.slice (some ⟨N, 0, none⟩) 7 7, .slice none 0 0, .int .i64 2] 219], #[], []⟩
  let put (h : Array Obj) (g : Nat) (cs : Array Value) : Array Obj := h.modify g fun
    | .cells _ t frozen => .cells cs t frozen
    | o => o
  let h1 := put w0.heap 4 (Lib.asciiSpaceTab.map fun z => Value.int .u8 z).toArray
  let h2 := put h1 5 #[.pointer (some ⟨N + 1, 0, none⟩)]
  { w0 with heap := h2 }
theorem laid_met (os : Os) (args : Array Value) : laidMet Tryz.prog L ((laidWorld os).forCall (fun _ _ => 0) ⟨#[], args, []⟩).memory := by
  have : ∀ a, laidMet Tryz.prog L ((laidWorld os).forCall (fun _ _ => 0) ⟨#[], a, []⟩).memory := fun a => laidMet_of_run' 10 (by kernel_rfl) (by kernel_rfl)
  exact this args
end Go.Proofs.YtidholghbjljaaaGreatDoor.Card

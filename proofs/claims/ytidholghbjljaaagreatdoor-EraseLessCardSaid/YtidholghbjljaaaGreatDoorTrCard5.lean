
/- What the cards with five tables share: a world that holds the listed tables, and what the list gives. -/
import Derived.Test.YtidholghbjljaaaGreatDoorTrCard
import Derived.Lib.ItoaNum
namespace Go.Proofs.YtidholghbjljaaaGreatDoor.Card5
set_option linter.unusedSimpArgs false
set_option linter.unusedVariables false
open Go.ChangeShapes Go.WideShapes Go.ChangeAt Go.RowKit Culp

theorem gT : Tryz.prog.globalNamed "internal/strconv.uint64pow10" = some 1 := by kernel_rfl
theorem gTType : (Tryz.prog.globals[1]?).map (·.type) = some 198 := by kernel_rfl
theorem cells5 : Tryz.prog.cellsOf 188 = 1 := by kernel_rfl
theorem cells20 : Tryz.prog.cellsOf 198 = 20 := by kernel_rfl
/-- What the rows list. -/
abbrev L : List (String × DataW Unit) := [("math/bits.deBruijn32tab", Rows.laid_math_bits_deBruijn32tab), ("math/bits.deBruijn64tab", Rows.laid_math_bits_deBruijn64tab), ("internal/strconv.uint64pow10", Rows.laid_internal_strconv_uint64pow10), ("unicode.White_Space", Rows.laid_unicode_White_Space), ("strings.asciiSpace", Rows.laid_strings_asciiSpace)]
theorem tab_eq : (Rows.laid_internal_strconv_uint64pow10 : DataW Unit) = Lib.tabData .u64 Lib.pow10Tab := by kernel_rfl
theorem table {W : World} (h : laidMetH Tryz.prog L W) : Sp W := by
  have h1 : laidMet Tryz.prog L W := h
  exact Card.table (Go.laidMet.tail (Go.laidMet.tail (Go.laidMet.tail h1)))
theorem powers {W : World} (h : laidMetH Tryz.prog L W) : Lib.TabIs Tryz.prog W "internal/strconv.uint64pow10" .u64 Lib.pow10Tab := by
  have h1 : laidMet Tryz.prog L W := h
  have h2 := Go.laidMet.tail (Go.laidMet.tail h1)
  rw [tab_eq] at h2
  exact Lib.tabIs_of_head (rest := [("unicode.White_Space", Rows.laid_unicode_White_Space), ("strings.asciiSpace", Rows.laid_strings_asciiSpace)]) gT gTType Tryz.underlying198 Tryz.underlying188 cells5 cells20 h2
/-- The numbers of a datum. -/
def nums : DataW Unit → Array Value
  | .agg ds => (ds.map fun d => match d with | .lit (.int k z) => Value.int k z | _ => undef).toArray
  | _ => #[]
/-- A world for the witness. -/
noncomputable def laidWorld (os : Os) : World :=
  let N := (World.settled Tryz.prog os).heap.size
  let w0 := World.holding Tryz.prog os ⟨#[.cells (Lib.whiteT.map fun (z : Nat) => Value.int .u16 (z : Int)).toArray 222, .cells #[.slice (some ⟨N, 0, none⟩) 7 7, .slice none 0 0, .int .i64 2] 219], #[], []⟩
  let put (h : Array Obj) (g : Nat) (cs : Array Value) : Array Obj := h.modify g fun
    | .cells _ t frozen => .cells cs t frozen
    | o => o
  let h1 := put w0.heap 4 (Lib.asciiSpaceTab.map fun z => Value.int .u8 z).toArray
  let h2 := put h1 5 #[.pointer (some ⟨N + 1, 0, none⟩)]
  let h3 := put h2 1 (Lib.pow10Tab.map fun z => Value.int .u64 z).toArray
  let h4 := put h3 2 (nums Rows.laid_math_bits_deBruijn32tab)
  let h5 := put h4 3 (nums Rows.laid_math_bits_deBruijn64tab)
  { w0 with heap := h5 }
theorem laid_met (os : Os) (args : Array Value) : laidMet Tryz.prog L ((laidWorld os).forCall (fun _ _ => 0) ⟨#[], args, []⟩).memory := by
  have : ∀ a, laidMet Tryz.prog L ((laidWorld os).forCall (fun _ _ => 0) ⟨#[], a, []⟩).memory := fun a => laidMet_of_run' 10 (by kernel_rfl) (by kernel_rfl)
  exact this args
end Go.Proofs.YtidholghbjljaaaGreatDoor.Card5

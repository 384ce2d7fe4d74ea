/-
  DERIVED. GIVEN WITH THE SEED: THE CARDS: each row of YtacihffkjadbbaaGreatDoorRows.lean that lists a variable, with what it lists TIED to the program's text (the seventh form; the later family's looks); each row that meets fmt, with fmt's text TOLD by the authors' own Lean function (tested against real Go, not proved from fmt's source: count such statements apart). THE CARD IS WHAT COUNTS. Prove the row's statement (the work); the ties are given (YtacihffkjadbbaaGreatDoorTie.lean); close each card by the builder's one call (the guide's Derived/Test/ToyasCard.lean, 'card_holds'). Laid BY PROGRAM, IN A SANDBOX (cutbox-door.mjs). By AI agents, Wed Nov 11 2026. No macro, syntax, notation, axiom, sorry.
-/
import Derived.Test.YtacihffkjadbbaaGreatDoorRows
import GoSem.ClaimSeven
namespace Go.Proofs.YtacihffkjadbbaaGreatDoor
namespace Rows

/-- THE TIED CARD OF 'culpritlaw05.TreeModules'. -/
def treeModulesCard : Claim7 := { stood := { row := treeModulesRow, standIns := [], harness := (true, "e191199d043c6f55d76ad28b65c69d242072225a414108fed06087ab9ee14ce9"), looks := false }, kinds := [], alts := [], laidByText := true, laidKinds := [.data, .data, .data, .listed, .data], laidTests := true, laidLooks := .later }
def TreeModulesCardSaid : Prop := Claim7.holds Tryz.pinned (.plain (OpenSpec.ofChange treeModulesSpec)) treeModulesCard

/-- THE TIED CARD OF 'culpritlaw07.PrintExprs'. -/
def printExprsCard : Claim7 := { stood := { row := printExprsRow, standIns := [], harness := (true, "e191199d043c6f55d76ad28b65c69d242072225a414108fed06087ab9ee14ce9"), looks := false }, kinds := [], alts := [], laidByText := true, laidKinds := [.data, .data, .data, .listed, .data], laidTests := true, laidLooks := .later }
def PrintExprsCardSaid : Prop := Claim7.holds Tryz.pinned (.plain (OpenSpec.ofChange printExprsSpec)) printExprsCard

/-- THE TIED CARD OF 'culpritlaw07.PrintModules'. -/
def printModulesCard : Claim7 := { stood := { row := printModulesRow, standIns := [], harness := (true, "e191199d043c6f55d76ad28b65c69d242072225a414108fed06087ab9ee14ce9"), looks := false }, kinds := [], alts := [], laidByText := true, laidKinds := [.data, .data, .data, .listed, .data], laidTests := true, laidLooks := .later }
def PrintModulesCardSaid : Prop := Claim7.holds Tryz.pinned (.plain (OpenSpec.ofChange printModulesSpec)) printModulesCard

/-- THE SECOND FORM's CARD OF 'culpritlaw05.TreeModules'. -/
def treeModulesUptoCard : Claim7 := { stood := { row := treeModulesUptoRow, standIns := [], harness := (true, "e191199d043c6f55d76ad28b65c69d242072225a414108fed06087ab9ee14ce9"), looks := false }, kinds := [], alts := [], laidByText := true, laidKinds := [.data, .data, .data, .listed, .data], laidTests := true, laidLooks := .later }
def TreeModulesUptoCardSaid : Prop := Claim7.holds Tryz.pinned (.plain (OpenSpec.upto treeModulesSpec)) treeModulesUptoCard

/-- THE SECOND FORM's CARD OF 'culpritlaw07.PrintExprs'. -/
def printExprsUptoCard : Claim7 := { stood := { row := printExprsUptoRow, standIns := [], harness := (true, "e191199d043c6f55d76ad28b65c69d242072225a414108fed06087ab9ee14ce9"), looks := false }, kinds := [], alts := [], laidByText := true, laidKinds := [.data, .data, .data, .listed, .data], laidTests := true, laidLooks := .later }
def PrintExprsUptoCardSaid : Prop := Claim7.holds Tryz.pinned (.plain (OpenSpec.upto printExprsSpec)) printExprsUptoCard

/-- THE SECOND FORM's CARD OF 'culpritlaw07.PrintModules'. -/
def printModulesUptoCard : Claim7 := { stood := { row := printModulesUptoRow, standIns := [], harness := (true, "e191199d043c6f55d76ad28b65c69d242072225a414108fed06087ab9ee14ce9"), looks := false }, kinds := [], alts := [], laidByText := true, laidKinds := [.data, .data, .data, .listed, .data], laidTests := true, laidLooks := .later }
def PrintModulesUptoCardSaid : Prop := Claim7.holds Tryz.pinned (.plain (OpenSpec.upto printModulesSpec)) printModulesUptoCard
end Rows
end Go.Proofs.YtacihffkjadbbaaGreatDoor

/-
  DERIVED. GIVEN WITH THE SEED: THE CARDS: each row of YtebameiaeldfiaaGreatDoorRows.lean that lists a variable, with what it lists TIED to the program's text (the seventh form; the later family's looks); each row that meets fmt, with fmt's text TOLD by the authors' own Lean function (tested against real Go, not proved from fmt's source: count such statements apart). THE CARD IS WHAT COUNTS. Prove the row's statement (the work); the ties are given (YtebameiaeldfiaaGreatDoorTie.lean); close each card by the builder's one call (the guide's Derived/Test/ToyasCard.lean, 'card_holds'). Laid BY PROGRAM, IN A SANDBOX (cutbox-door.mjs). By AI agents, Wed Nov 11 2026. No macro, syntax, notation, axiom, sorry.
-/
import Derived.Test.YtebameiaeldfiaaGreatDoorRows
import GoSem.ClaimSeven
namespace Go.Proofs.YtebameiaeldfiaaGreatDoor
namespace Rows

/-- THE TIED CARD OF 'culpritlaw05.TreeFree'. -/
def treeFreeCard : Claim7 := { stood := { row := treeFreeRow, standIns := [], harness := (true, "fa2807194aab1aa1db21f41d822426083ff175e58460b0054a9eb70fbf454aa2"), looks := false }, kinds := [], alts := [], laidByText := true, laidKinds := [.data, .data, .data, .listed, .data], laidTests := true, laidLooks := .later }
def TreeFreeCardSaid : Prop := Claim7.holds Tryz.pinned (.plain (OpenSpec.ofChange treeFreeSpec)) treeFreeCard

/-- THE TIED CARD OF 'culpritlaw05.TreeModules'. -/
def treeModulesCard : Claim7 := { stood := { row := treeModulesRow, standIns := [], harness := (true, "fa2807194aab1aa1db21f41d822426083ff175e58460b0054a9eb70fbf454aa2"), looks := false }, kinds := [], alts := [], laidByText := true, laidKinds := [.data, .data, .data, .listed, .data], laidTests := true, laidLooks := .later }
def TreeModulesCardSaid : Prop := Claim7.holds Tryz.pinned (.plain (OpenSpec.ofChange treeModulesSpec)) treeModulesCard

/-- THE SECOND FORM's CARD OF 'culpritlaw05.TreeFree'. -/
def treeFreeUptoCard : Claim7 := { stood := { row := treeFreeUptoRow, standIns := [], harness := (true, "fa2807194aab1aa1db21f41d822426083ff175e58460b0054a9eb70fbf454aa2"), looks := false }, kinds := [], alts := [], laidByText := true, laidKinds := [.data, .data, .data, .listed, .data], laidTests := true, laidLooks := .later }
def TreeFreeUptoCardSaid : Prop := Claim7.holds Tryz.pinned (.plain (OpenSpec.upto treeFreeSpec)) treeFreeUptoCard

/-- THE SECOND FORM's CARD OF 'culpritlaw05.TreeModules'. -/
def treeModulesUptoCard : Claim7 := { stood := { row := treeModulesUptoRow, standIns := [], harness := (true, "fa2807194aab1aa1db21f41d822426083ff175e58460b0054a9eb70fbf454aa2"), looks := false }, kinds := [], alts := [], laidByText := true, laidKinds := [.data, .data, .data, .listed, .data], laidTests := true, laidLooks := .later }
def TreeModulesUptoCardSaid : Prop := Claim7.holds Tryz.pinned (.plain (OpenSpec.upto treeModulesSpec)) treeModulesUptoCard
end Rows
end Go.Proofs.YtebameiaeldfiaaGreatDoor

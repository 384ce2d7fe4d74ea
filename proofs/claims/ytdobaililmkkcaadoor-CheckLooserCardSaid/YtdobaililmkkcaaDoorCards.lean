/-
  DERIVED. GIVEN WITH THE SEED: THE CARDS: each row of YtdobaililmkkcaaDoorRows.lean that lists a variable, with what it lists TIED to the program's text (the seventh form; the later family's looks); each row that meets fmt, with fmt's text TOLD by the authors' own Lean function (tested against real Go, not proved from fmt's source: count such statements apart). THE CARD IS WHAT COUNTS. Prove the row's statement (the work); the ties are given (YtdobaililmkkcaaDoorTie.lean); close each card by the builder's one call (the guide's Derived/Test/ToyasCard.lean, 'card_holds'). Laid BY PROGRAM, IN A SANDBOX (cutbox-door.mjs). By AI agents, Wed Nov 11 2026. No macro, syntax, notation, axiom, sorry.
-/
import Derived.Test.YtdobaililmkkcaaDoorRows
import GoSem.ClaimSeven
namespace Go.Proofs.YtdobaililmkkcaaDoor
namespace Rows

/-- THE TIED CARD OF 'culpritlaw08.CheckBounds'. -/
def checkBoundsCard : Claim7 := { stood := { row := checkBoundsRow, standIns := [], harness := (true, "7995aa9184eabe560873c119e4f08690ee01a8e728d727e434da1efc1bab0340"), looks := false }, kinds := [], alts := [], laidByText := true, laidKinds := [.listed, .data, .data], laidTests := true, laidLooks := .later }
def CheckBoundsCardSaid : Prop := Claim7.holds Tryd.pinned (.plain (OpenSpec.ofChange checkBoundsSpec)) checkBoundsCard

/-- THE TIED CARD OF 'culpritlaw08.CheckLooser'. -/
def checkLooserCard : Claim7 := { stood := { row := checkLooserRow, standIns := [], harness := (true, "7995aa9184eabe560873c119e4f08690ee01a8e728d727e434da1efc1bab0340"), looks := false }, kinds := [], alts := [], laidByText := true, laidKinds := [.listed, .data, .data], laidTests := true, laidLooks := .later }
def CheckLooserCardSaid : Prop := Claim7.holds Tryd.pinned (.plain (OpenSpec.ofChange checkLooserSpec)) checkLooserCard

/-- THE TIED CARD OF 'culpritlaw08.CheckParts'. -/
def checkPartsCard : Claim7 := { stood := { row := checkPartsRow, standIns := [], harness := (true, "7995aa9184eabe560873c119e4f08690ee01a8e728d727e434da1efc1bab0340"), looks := false }, kinds := [], alts := [], laidByText := true, laidKinds := [.listed, .data, .data], laidTests := true, laidLooks := .later }
def CheckPartsCardSaid : Prop := Claim7.holds Tryd.pinned (.plain (OpenSpec.ofChange checkPartsSpec)) checkPartsCard

/-- THE SECOND FORM's CARD OF 'culpritlaw08.CheckBounds'. -/
def checkBoundsUptoCard : Claim7 := { stood := { row := checkBoundsUptoRow, standIns := [], harness := (true, "7995aa9184eabe560873c119e4f08690ee01a8e728d727e434da1efc1bab0340"), looks := false }, kinds := [], alts := [], laidByText := true, laidKinds := [.listed, .data, .data], laidTests := true, laidLooks := .later }
def CheckBoundsUptoCardSaid : Prop := Claim7.holds Tryd.pinned (.plain (OpenSpec.upto checkBoundsSpec)) checkBoundsUptoCard

/-- THE SECOND FORM's CARD OF 'culpritlaw08.CheckLooser'. -/
def checkLooserUptoCard : Claim7 := { stood := { row := checkLooserUptoRow, standIns := [], harness := (true, "7995aa9184eabe560873c119e4f08690ee01a8e728d727e434da1efc1bab0340"), looks := false }, kinds := [], alts := [], laidByText := true, laidKinds := [.listed, .data, .data], laidTests := true, laidLooks := .later }
def CheckLooserUptoCardSaid : Prop := Claim7.holds Tryd.pinned (.plain (OpenSpec.upto checkLooserSpec)) checkLooserUptoCard

/-- THE SECOND FORM's CARD OF 'culpritlaw08.CheckParts'. -/
def checkPartsUptoCard : Claim7 := { stood := { row := checkPartsUptoRow, standIns := [], harness := (true, "7995aa9184eabe560873c119e4f08690ee01a8e728d727e434da1efc1bab0340"), looks := false }, kinds := [], alts := [], laidByText := true, laidKinds := [.listed, .data, .data], laidTests := true, laidLooks := .later }
def CheckPartsUptoCardSaid : Prop := Claim7.holds Tryd.pinned (.plain (OpenSpec.upto checkPartsSpec)) checkPartsUptoCard
end Rows
end Go.Proofs.YtdobaililmkkcaaDoor

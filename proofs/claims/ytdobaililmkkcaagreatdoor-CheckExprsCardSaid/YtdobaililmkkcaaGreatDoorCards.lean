/-
  DERIVED. GIVEN WITH THE SEED: THE CARDS: each row of YtdobaililmkkcaaGreatDoorRows.lean that lists a variable, with what it lists TIED to the program's text (the seventh form; the later family's looks); each row that meets fmt, with fmt's text TOLD by the authors' own Lean function (tested against real Go, not proved from fmt's source: count such statements apart). THE CARD IS WHAT COUNTS. Prove the row's statement (the work); the ties are given (YtdobaililmkkcaaGreatDoorTie.lean); close each card by the builder's one call (the guide's Derived/Test/ToyasCard.lean, 'card_holds'). Laid BY PROGRAM, IN A SANDBOX (cutbox-door.mjs). By AI agents, Wed Nov 11 2026. No macro, syntax, notation, axiom, sorry.
-/
import Derived.Test.YtdobaililmkkcaaGreatDoorRows
import GoSem.ClaimSeven
namespace Go.Proofs.YtdobaililmkkcaaGreatDoor
namespace Rows

/-- THE TIED CARD OF 'culpritlaw08.CheckSolid'. -/
def checkSolidCard : Claim7 := { stood := { row := checkSolidRow, standIns := [], harness := (true, "798edc92c2bc5e8a97c14a3bd8a183ef1b36cc159a5d201a992066b4cf21eb2a"), looks := false }, kinds := [], alts := [], laidByText := true, laidKinds := [.listed, .data, .data], laidTests := true, laidLooks := .later }
def CheckSolidCardSaid : Prop := Claim7.holds Tryz.pinned (.plain (OpenSpec.ofChange checkSolidSpec)) checkSolidCard

/-- THE TIED CARD OF 'culpritlaw08.CheckExprs'. -/
def checkExprsCard : Claim7 := { stood := { row := checkExprsRow, standIns := [], harness := (true, "798edc92c2bc5e8a97c14a3bd8a183ef1b36cc159a5d201a992066b4cf21eb2a"), looks := false }, kinds := [], alts := [], laidByText := true, laidKinds := [.data, .data, .data, .listed, .data, .data], laidTests := true, laidLooks := .later }
def CheckExprsCardSaid : Prop := Claim7.holds Tryz.pinned (.plain (OpenSpec.ofChange checkExprsSpec)) checkExprsCard

/-- THE SECOND FORM's CARD OF 'culpritlaw08.CheckSolid'. -/
def checkSolidUptoCard : Claim7 := { stood := { row := checkSolidUptoRow, standIns := [], harness := (true, "798edc92c2bc5e8a97c14a3bd8a183ef1b36cc159a5d201a992066b4cf21eb2a"), looks := false }, kinds := [], alts := [], laidByText := true, laidKinds := [.listed, .data, .data], laidTests := true, laidLooks := .later }
def CheckSolidUptoCardSaid : Prop := Claim7.holds Tryz.pinned (.plain (OpenSpec.upto checkSolidSpec)) checkSolidUptoCard

/-- THE SECOND FORM's CARD OF 'culpritlaw08.CheckExprs'. -/
def checkExprsUptoCard : Claim7 := { stood := { row := checkExprsUptoRow, standIns := [], harness := (true, "798edc92c2bc5e8a97c14a3bd8a183ef1b36cc159a5d201a992066b4cf21eb2a"), looks := false }, kinds := [], alts := [], laidByText := true, laidKinds := [.data, .data, .data, .listed, .data, .data], laidTests := true, laidLooks := .later }
def CheckExprsUptoCardSaid : Prop := Claim7.holds Tryz.pinned (.plain (OpenSpec.upto checkExprsSpec)) checkExprsUptoCard
end Rows
end Go.Proofs.YtdobaililmkkcaaGreatDoor

/-
  DERIVED. GIVEN WITH THE SEED: THE CARDS: each row of YtnhdbjhdmdefmaaDoorRows.lean that lists a variable, with what it lists TIED to the program's text (the seventh form; the later family's looks); each row that meets fmt, with fmt's text TOLD by the authors' own Lean function (tested against real Go, not proved from fmt's source: count such statements apart). THE CARD IS WHAT COUNTS. Prove the row's statement (the work); the ties are given (YtnhdbjhdmdefmaaDoorTie.lean); close each card by the builder's one call (the guide's Derived/Test/ToyasCard.lean, 'card_holds'). Laid BY PROGRAM, IN A SANDBOX (cutbox-door.mjs). By AI agents, Wed Nov 11 2026. No macro, syntax, notation, axiom, sorry.
-/
import Derived.Test.YtnhdbjhdmdefmaaDoorRows
import GoSem.ClaimSeven
namespace Go.Proofs.YtnhdbjhdmdefmaaDoor
namespace Rows

/-- THE TIED CARD OF 'culpritlaw06.ParseBounds'. -/
def parseBoundsCard : Claim7 := { stood := { row := parseBoundsRow, standIns := [], harness := (true, "31797adcacc0a02f31f75d462b40b723db39ea60ab9e593255e101cbf3e736f7"), looks := true }, kinds := [], alts := [], laidByText := true, laidKinds := [.listed, .data], laidTests := true, laidLooks := .later }
def ParseBoundsCardSaid : Prop := Claim7.holds Tryd.pinned (.plain (OpenSpec.ofChange parseBoundsSpec)) parseBoundsCard

/-- THE TIED CARD OF 'culpritlaw06.ParseTypes'. -/
def parseTypesCard : Claim7 := { stood := { row := parseTypesRow, standIns := [], harness := (true, "31797adcacc0a02f31f75d462b40b723db39ea60ab9e593255e101cbf3e736f7"), looks := true }, kinds := [], alts := [], laidByText := true, laidKinds := [.listed, .data], laidTests := true, laidLooks := .later }
def ParseTypesCardSaid : Prop := Claim7.holds Tryd.pinned (.plain (OpenSpec.ofChange parseTypesSpec)) parseTypesCard

/-- THE TIED CARD OF 'culpritlaw06.ParseAround'. -/
def parseAroundCard : Claim7 := { stood := { row := parseAroundRow, standIns := [], harness := (true, "31797adcacc0a02f31f75d462b40b723db39ea60ab9e593255e101cbf3e736f7"), looks := true }, kinds := [], alts := [], laidByText := true, laidKinds := [.listed, .data], laidTests := true, laidLooks := .later }
def ParseAroundCardSaid : Prop := Claim7.holds Tryd.pinned (.plain (OpenSpec.ofChange parseAroundSpec)) parseAroundCard

/-- THE SECOND FORM's CARD OF 'culpritlaw06.ParseBounds'. -/
def parseBoundsUptoCard : Claim7 := { stood := { row := parseBoundsUptoRow, standIns := [], harness := (true, "31797adcacc0a02f31f75d462b40b723db39ea60ab9e593255e101cbf3e736f7"), looks := true }, kinds := [], alts := [], laidByText := true, laidKinds := [.listed, .data], laidTests := true, laidLooks := .later }
def ParseBoundsUptoCardSaid : Prop := Claim7.holds Tryd.pinned (.plain (OpenSpec.upto parseBoundsSpec)) parseBoundsUptoCard

/-- THE SECOND FORM's CARD OF 'culpritlaw06.ParseTypes'. -/
def parseTypesUptoCard : Claim7 := { stood := { row := parseTypesUptoRow, standIns := [], harness := (true, "31797adcacc0a02f31f75d462b40b723db39ea60ab9e593255e101cbf3e736f7"), looks := true }, kinds := [], alts := [], laidByText := true, laidKinds := [.listed, .data], laidTests := true, laidLooks := .later }
def ParseTypesUptoCardSaid : Prop := Claim7.holds Tryd.pinned (.plain (OpenSpec.upto parseTypesSpec)) parseTypesUptoCard

/-- THE SECOND FORM's CARD OF 'culpritlaw06.ParseAround'. -/
def parseAroundUptoCard : Claim7 := { stood := { row := parseAroundUptoRow, standIns := [], harness := (true, "31797adcacc0a02f31f75d462b40b723db39ea60ab9e593255e101cbf3e736f7"), looks := true }, kinds := [], alts := [], laidByText := true, laidKinds := [.listed, .data], laidTests := true, laidLooks := .later }
def ParseAroundUptoCardSaid : Prop := Claim7.holds Tryd.pinned (.plain (OpenSpec.upto parseAroundSpec)) parseAroundUptoCard
end Rows
end Go.Proofs.YtnhdbjhdmdefmaaDoor

/-
  DERIVED. GIVEN WITH THE SEED: THE CARDS: each row of YtdfadmhomjcmeaaDoorRows.lean that lists a variable, with what it lists TIED to the program's text (the seventh form; the later family's looks); each row that meets fmt, with fmt's text TOLD by the authors' own Lean function (tested against real Go, not proved from fmt's source: count such statements apart). THE CARD IS WHAT COUNTS. Prove the row's statement (the work); the ties are given (YtdfadmhomjcmeaaDoorTie.lean); close each card by the builder's one call (the guide's Derived/Test/ToyasCard.lean, 'card_holds'). Laid BY PROGRAM, IN A SANDBOX (cutbox-door.mjs). By AI agents, Wed Nov 11 2026. No macro, syntax, notation, axiom, sorry.
-/
import Derived.Test.YtdfadmhomjcmeaaDoorRows
import GoSem.ClaimSeven
namespace Go.Proofs.YtdfadmhomjcmeaaDoor
namespace Rows

/-- THE TIED CARD OF 'culpritlaw11.InsertErases'. -/
def insertErasesCard : Claim7 := { stood := { row := insertErasesRow, standIns := [], harness := (true, "2436413f92c4382f0a75456c310356c1f0baa3c5cdec90da03a580f076ad5aae"), looks := false }, kinds := [], alts := [], laidByText := true, laidKinds := [.listed, .data, .data], laidTests := true, laidLooks := .later }
def InsertErasesCardSaid : Prop := Claim7.holds Tryd.pinned (.plain (OpenSpec.ofChange insertErasesSpec)) insertErasesCard

/-- THE TIED CARD OF 'culpritlaw11.InsertSolid'. -/
def insertSolidCard : Claim7 := { stood := { row := insertSolidRow, standIns := [], harness := (true, "2436413f92c4382f0a75456c310356c1f0baa3c5cdec90da03a580f076ad5aae"), looks := false }, kinds := [], alts := [], laidByText := true, laidKinds := [.listed, .data, .data], laidTests := true, laidLooks := .later }
def InsertSolidCardSaid : Prop := Claim7.holds Tryd.pinned (.plain (OpenSpec.ofChange insertSolidSpec)) insertSolidCard

/-- THE SECOND FORM's CARD OF 'culpritlaw11.InsertErases'. -/
def insertErasesUptoCard : Claim7 := { stood := { row := insertErasesUptoRow, standIns := [], harness := (true, "2436413f92c4382f0a75456c310356c1f0baa3c5cdec90da03a580f076ad5aae"), looks := false }, kinds := [], alts := [], laidByText := true, laidKinds := [.listed, .data, .data], laidTests := true, laidLooks := .later }
def InsertErasesUptoCardSaid : Prop := Claim7.holds Tryd.pinned (.plain (OpenSpec.upto insertErasesSpec)) insertErasesUptoCard

/-- THE SECOND FORM's CARD OF 'culpritlaw11.InsertSolid'. -/
def insertSolidUptoCard : Claim7 := { stood := { row := insertSolidUptoRow, standIns := [], harness := (true, "2436413f92c4382f0a75456c310356c1f0baa3c5cdec90da03a580f076ad5aae"), looks := false }, kinds := [], alts := [], laidByText := true, laidKinds := [.listed, .data, .data], laidTests := true, laidLooks := .later }
def InsertSolidUptoCardSaid : Prop := Claim7.holds Tryd.pinned (.plain (OpenSpec.upto insertSolidSpec)) insertSolidUptoCard
end Rows
end Go.Proofs.YtdfadmhomjcmeaaDoor

/-
  DERIVED. GIVEN WITH THE SEED: THE CARDS: each row of YtdfadmhomjcmeaaGreatDoorRows.lean that lists a variable, with what it lists TIED to the program's text (the seventh form; the later family's looks); each row that meets fmt, with fmt's text TOLD by the authors' own Lean function (tested against real Go, not proved from fmt's source: count such statements apart). THE CARD IS WHAT COUNTS. Prove the row's statement (the work); the ties are given (YtdfadmhomjcmeaaGreatDoorTie.lean); close each card by the builder's one call (the guide's Derived/Test/ToyasCard.lean, 'card_holds'). Laid BY PROGRAM, IN A SANDBOX (cutbox-door.mjs). By AI agents, Wed Nov 11 2026. No macro, syntax, notation, axiom, sorry.
-/
import Derived.Test.YtdfadmhomjcmeaaGreatDoorRows
import GoSem.ClaimSeven
namespace Go.Proofs.YtdfadmhomjcmeaaGreatDoor
namespace Rows

/-- THE TIED CARD OF 'culpritlaw11.InsertChecks'. -/
def insertChecksCard : Claim7 := { stood := { row := insertChecksRow, standIns := [], harness := (true, "fd710fc6731caa3da05048c9ad3e2abeacd38a1a5ff4dcfc7ac06131bd96f48f"), looks := true }, kinds := [], alts := [], laidByText := true, laidKinds := [.listed, .data, .data], laidTests := true, laidLooks := .later }
def InsertChecksCardSaid : Prop := Claim7.holds Tryz.pinned (.plain (OpenSpec.ofChange insertChecksSpec)) insertChecksCard

/-- THE TIED CARD OF 'culpritlaw11.InsertExprs'. -/
def insertExprsCard : Claim7 := { stood := { row := insertExprsRow, standIns := [], harness := (true, "fd710fc6731caa3da05048c9ad3e2abeacd38a1a5ff4dcfc7ac06131bd96f48f"), looks := true }, kinds := [], alts := [], laidByText := true, laidKinds := [.data, .data, .data, .listed, .data, .data], laidTests := true, laidLooks := .later }
def InsertExprsCardSaid : Prop := Claim7.holds Tryz.pinned (.plain (OpenSpec.ofChange insertExprsSpec)) insertExprsCard

/-- THE SECOND FORM's CARD OF 'culpritlaw11.InsertChecks'. -/
def insertChecksUptoCard : Claim7 := { stood := { row := insertChecksUptoRow, standIns := [], harness := (true, "fd710fc6731caa3da05048c9ad3e2abeacd38a1a5ff4dcfc7ac06131bd96f48f"), looks := true }, kinds := [], alts := [], laidByText := true, laidKinds := [.listed, .data, .data], laidTests := true, laidLooks := .later }
def InsertChecksUptoCardSaid : Prop := Claim7.holds Tryz.pinned (.plain (OpenSpec.upto insertChecksSpec)) insertChecksUptoCard

/-- THE SECOND FORM's CARD OF 'culpritlaw11.InsertExprs'. -/
def insertExprsUptoCard : Claim7 := { stood := { row := insertExprsUptoRow, standIns := [], harness := (true, "fd710fc6731caa3da05048c9ad3e2abeacd38a1a5ff4dcfc7ac06131bd96f48f"), looks := true }, kinds := [], alts := [], laidByText := true, laidKinds := [.data, .data, .data, .listed, .data, .data], laidTests := true, laidLooks := .later }
def InsertExprsUptoCardSaid : Prop := Claim7.holds Tryz.pinned (.plain (OpenSpec.upto insertExprsSpec)) insertExprsUptoCard
end Rows
end Go.Proofs.YtdfadmhomjcmeaaGreatDoor

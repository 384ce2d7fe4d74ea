/-
  DERIVED. GIVEN WITH THE SEED: THE CARDS: each row of YtidholghbjljaaaDoorRows.lean that lists a variable, with what it lists TIED to the program's text (the seventh form; the later family's looks); each row that meets fmt, with fmt's text TOLD by the authors' own Lean function (tested against real Go, not proved from fmt's source: count such statements apart). THE CARD IS WHAT COUNTS. Prove the row's statement (the work); the ties are given (YtidholghbjljaaaDoorTie.lean); close each card by the builder's one call (the guide's Derived/Test/ToyasCard.lean, 'card_holds'). Laid BY PROGRAM, IN A SANDBOX (cutbox-door.mjs). By AI agents, Wed Nov 11 2026. No macro, syntax, notation, axiom, sorry.
-/
import Derived.Test.YtidholghbjljaaaDoorRows
import GoSem.ClaimSeven
namespace Go.Proofs.YtidholghbjljaaaDoor
namespace Rows

/-- THE TIED CARD OF 'culpritlaw25.EraseBack'. -/
def eraseBackCard : Claim7 := { stood := { row := eraseBackRow, standIns := [], harness := (true, "a03f11750c5d18dcb43364f3d98e3ee0e592c488535c31d5ab9864150b885dc4"), looks := false }, kinds := [], alts := [], laidByText := true, laidKinds := [.listed, .data], laidTests := true, laidLooks := .later }
def EraseBackCardSaid : Prop := Claim7.holds Tryd.pinned (.plain (OpenSpec.ofChange eraseBackSpec)) eraseBackCard

/-- THE SECOND FORM's CARD OF 'culpritlaw25.EraseBack'. -/
def eraseBackUptoCard : Claim7 := { stood := { row := eraseBackUptoRow, standIns := [], harness := (true, "a03f11750c5d18dcb43364f3d98e3ee0e592c488535c31d5ab9864150b885dc4"), looks := false }, kinds := [], alts := [], laidByText := true, laidKinds := [.listed, .data], laidTests := true, laidLooks := .later }
def EraseBackUptoCardSaid : Prop := Claim7.holds Tryd.pinned (.plain (OpenSpec.upto eraseBackSpec)) eraseBackUptoCard
end Rows
end Go.Proofs.YtidholghbjljaaaDoor

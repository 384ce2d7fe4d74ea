/-
  DERIVED. GIVEN WITH THE SEED: THE CARDS: each row of YtidholghbjljaaaGreatDoorRows.lean that lists a variable, with what it lists TIED to the program's text (the seventh form; the later family's looks); each row that meets fmt, with fmt's text TOLD by the authors' own Lean function (tested against real Go, not proved from fmt's source: count such statements apart). THE CARD IS WHAT COUNTS. Prove the row's statement (the work); the ties are given (YtidholghbjljaaaGreatDoorTie.lean); close each card by the builder's one call (the guide's Derived/Test/ToyasCard.lean, 'card_holds'). Laid BY PROGRAM, IN A SANDBOX (cutbox-door.mjs). By AI agents, Wed Nov 11 2026. No macro, syntax, notation, axiom, sorry.
-/
import Derived.Test.YtidholghbjljaaaGreatDoorRows
import GoSem.ClaimSeven
namespace Go.Proofs.YtidholghbjljaaaGreatDoor
namespace Rows

/-- THE TIED CARD OF 'culpritlaw25.EraseSlots'. -/
def eraseSlotsCard : Claim7 := { stood := { row := eraseSlotsRow, standIns := [], harness := (true, "14122867ba94a615e01bb187f8bd90e2dbad3584d9a52cd136429404b6a05725"), looks := false }, kinds := [], alts := [], laidByText := true, laidKinds := [.data, .data, .data, .listed, .data], laidTests := true, laidLooks := .later }
def EraseSlotsCardSaid : Prop := Claim7.holds Tryz.pinned (.plain (OpenSpec.ofChange eraseSlotsSpec)) eraseSlotsCard

/-- THE TIED CARD OF 'culpritlaw25.EraseLays'. -/
def eraseLaysCard : Claim7 := { stood := { row := eraseLaysRow, standIns := [], harness := (true, "14122867ba94a615e01bb187f8bd90e2dbad3584d9a52cd136429404b6a05725"), looks := false }, kinds := [], alts := [], laidByText := true, laidKinds := [.data, .data, .data, .listed, .data], laidTests := true, laidLooks := .later }
def EraseLaysCardSaid : Prop := Claim7.holds Tryz.pinned (.plain (OpenSpec.ofChange eraseLaysSpec)) eraseLaysCard

/-- THE TIED CARD OF 'culpritlaw25.EraseLess'. -/
def eraseLessCard : Claim7 := { stood := { row := eraseLessRow, standIns := [], harness := (true, "14122867ba94a615e01bb187f8bd90e2dbad3584d9a52cd136429404b6a05725"), looks := false }, kinds := [], alts := [], laidByText := true, laidKinds := [.data, .data, .data, .listed, .data], laidTests := true, laidLooks := .later }
def EraseLessCardSaid : Prop := Claim7.holds Tryz.pinned (.plain (OpenSpec.ofChange eraseLessSpec)) eraseLessCard

/-- THE SECOND FORM's CARD OF 'culpritlaw25.EraseSlots'. -/
def eraseSlotsUptoCard : Claim7 := { stood := { row := eraseSlotsUptoRow, standIns := [], harness := (true, "14122867ba94a615e01bb187f8bd90e2dbad3584d9a52cd136429404b6a05725"), looks := false }, kinds := [], alts := [], laidByText := true, laidKinds := [.data, .data, .data, .listed, .data], laidTests := true, laidLooks := .later }
def EraseSlotsUptoCardSaid : Prop := Claim7.holds Tryz.pinned (.plain (OpenSpec.upto eraseSlotsSpec)) eraseSlotsUptoCard

/-- THE SECOND FORM's CARD OF 'culpritlaw25.EraseLays'. -/
def eraseLaysUptoCard : Claim7 := { stood := { row := eraseLaysUptoRow, standIns := [], harness := (true, "14122867ba94a615e01bb187f8bd90e2dbad3584d9a52cd136429404b6a05725"), looks := false }, kinds := [], alts := [], laidByText := true, laidKinds := [.data, .data, .data, .listed, .data], laidTests := true, laidLooks := .later }
def EraseLaysUptoCardSaid : Prop := Claim7.holds Tryz.pinned (.plain (OpenSpec.upto eraseLaysSpec)) eraseLaysUptoCard

/-- THE SECOND FORM's CARD OF 'culpritlaw25.EraseLess'. -/
def eraseLessUptoCard : Claim7 := { stood := { row := eraseLessUptoRow, standIns := [], harness := (true, "14122867ba94a615e01bb187f8bd90e2dbad3584d9a52cd136429404b6a05725"), looks := false }, kinds := [], alts := [], laidByText := true, laidKinds := [.data, .data, .data, .listed, .data], laidTests := true, laidLooks := .later }
def EraseLessUptoCardSaid : Prop := Claim7.holds Tryz.pinned (.plain (OpenSpec.upto eraseLessSpec)) eraseLessUptoCard
end Rows
end Go.Proofs.YtidholghbjljaaaGreatDoor

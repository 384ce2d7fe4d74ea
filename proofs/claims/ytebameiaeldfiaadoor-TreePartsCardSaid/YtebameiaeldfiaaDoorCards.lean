/-
  DERIVED. GIVEN WITH THE SEED: THE CARDS: each row of YtebameiaeldfiaaDoorRows.lean that lists a variable, with what it lists TIED to the program's text (the seventh form; the later family's looks); each row that meets fmt, with fmt's text TOLD by the authors' own Lean function (tested against real Go, not proved from fmt's source: count such statements apart). THE CARD IS WHAT COUNTS. Prove the row's statement (the work); the ties are given (YtebameiaeldfiaaDoorTie.lean); close each card by the builder's one call (the guide's Derived/Test/ToyasCard.lean, 'card_holds'). Laid BY PROGRAM, IN A SANDBOX (cutbox-door.mjs). By AI agents, Wed Nov 11 2026. No macro, syntax, notation, axiom, sorry.
-/
import Derived.Test.YtebameiaeldfiaaDoorRows
import GoSem.ClaimSeven
namespace Go.Proofs.YtebameiaeldfiaaDoor
namespace Rows

/-- THE TIED CARD OF 'culpritlaw05.TreeChecks'. -/
def treeChecksCard : Claim7 := { stood := { row := treeChecksRow, standIns := [], harness := (true, "a7258dd18062c7855f1273cf956028d761deebf381d8ff343b01ad2872ea37bb"), looks := false }, kinds := [], alts := [], laidByText := true, laidKinds := [.listed, .data], laidTests := true, laidLooks := .later }
def TreeChecksCardSaid : Prop := Claim7.holds Tryd.pinned (.plain (OpenSpec.ofChange treeChecksSpec)) treeChecksCard

/-- THE TIED CARD OF 'culpritlaw05.TreeArities'. -/
def treeAritiesCard : Claim7 := { stood := { row := treeAritiesRow, standIns := [], harness := (true, "a7258dd18062c7855f1273cf956028d761deebf381d8ff343b01ad2872ea37bb"), looks := false }, kinds := [], alts := [], laidByText := true, laidKinds := [.listed, .data], laidTests := true, laidLooks := .later }
def TreeAritiesCardSaid : Prop := Claim7.holds Tryd.pinned (.plain (OpenSpec.ofChange treeAritiesSpec)) treeAritiesCard

/-- THE TIED CARD OF 'culpritlaw05.TreeWhole'. -/
def treeWholeCard : Claim7 := { stood := { row := treeWholeRow, standIns := [], harness := (true, "a7258dd18062c7855f1273cf956028d761deebf381d8ff343b01ad2872ea37bb"), looks := false }, kinds := [], alts := [], laidByText := true, laidKinds := [.listed, .data], laidTests := true, laidLooks := .later }
def TreeWholeCardSaid : Prop := Claim7.holds Tryd.pinned (.plain (OpenSpec.ofChange treeWholeSpec)) treeWholeCard

/-- THE TIED CARD OF 'culpritlaw05.TreeBounds'. -/
def treeBoundsCard : Claim7 := { stood := { row := treeBoundsRow, standIns := [], harness := (true, "a7258dd18062c7855f1273cf956028d761deebf381d8ff343b01ad2872ea37bb"), looks := false }, kinds := [], alts := [], laidByText := true, laidKinds := [.listed, .data], laidTests := true, laidLooks := .later }
def TreeBoundsCardSaid : Prop := Claim7.holds Tryd.pinned (.plain (OpenSpec.ofChange treeBoundsSpec)) treeBoundsCard

/-- THE TIED CARD OF 'culpritlaw05.TreeParts'. -/
def treePartsCard : Claim7 := { stood := { row := treePartsRow, standIns := [], harness := (true, "a7258dd18062c7855f1273cf956028d761deebf381d8ff343b01ad2872ea37bb"), looks := false }, kinds := [], alts := [], laidByText := true, laidKinds := [.data, .data, .data, .listed, .data], laidTests := true, laidLooks := .later }
def TreePartsCardSaid : Prop := Claim7.holds Tryd.pinned (.plain (OpenSpec.ofChange treePartsSpec)) treePartsCard

/-- THE SECOND FORM's CARD OF 'culpritlaw05.TreeChecks'. -/
def treeChecksUptoCard : Claim7 := { stood := { row := treeChecksUptoRow, standIns := [], harness := (true, "a7258dd18062c7855f1273cf956028d761deebf381d8ff343b01ad2872ea37bb"), looks := false }, kinds := [], alts := [], laidByText := true, laidKinds := [.listed, .data], laidTests := true, laidLooks := .later }
def TreeChecksUptoCardSaid : Prop := Claim7.holds Tryd.pinned (.plain (OpenSpec.upto treeChecksSpec)) treeChecksUptoCard

/-- THE SECOND FORM's CARD OF 'culpritlaw05.TreeArities'. -/
def treeAritiesUptoCard : Claim7 := { stood := { row := treeAritiesUptoRow, standIns := [], harness := (true, "a7258dd18062c7855f1273cf956028d761deebf381d8ff343b01ad2872ea37bb"), looks := false }, kinds := [], alts := [], laidByText := true, laidKinds := [.listed, .data], laidTests := true, laidLooks := .later }
def TreeAritiesUptoCardSaid : Prop := Claim7.holds Tryd.pinned (.plain (OpenSpec.upto treeAritiesSpec)) treeAritiesUptoCard

/-- THE SECOND FORM's CARD OF 'culpritlaw05.TreeWhole'. -/
def treeWholeUptoCard : Claim7 := { stood := { row := treeWholeUptoRow, standIns := [], harness := (true, "a7258dd18062c7855f1273cf956028d761deebf381d8ff343b01ad2872ea37bb"), looks := false }, kinds := [], alts := [], laidByText := true, laidKinds := [.listed, .data], laidTests := true, laidLooks := .later }
def TreeWholeUptoCardSaid : Prop := Claim7.holds Tryd.pinned (.plain (OpenSpec.upto treeWholeSpec)) treeWholeUptoCard

/-- THE SECOND FORM's CARD OF 'culpritlaw05.TreeBounds'. -/
def treeBoundsUptoCard : Claim7 := { stood := { row := treeBoundsUptoRow, standIns := [], harness := (true, "a7258dd18062c7855f1273cf956028d761deebf381d8ff343b01ad2872ea37bb"), looks := false }, kinds := [], alts := [], laidByText := true, laidKinds := [.listed, .data], laidTests := true, laidLooks := .later }
def TreeBoundsUptoCardSaid : Prop := Claim7.holds Tryd.pinned (.plain (OpenSpec.upto treeBoundsSpec)) treeBoundsUptoCard

/-- THE SECOND FORM's CARD OF 'culpritlaw05.TreeParts'. -/
def treePartsUptoCard : Claim7 := { stood := { row := treePartsUptoRow, standIns := [], harness := (true, "a7258dd18062c7855f1273cf956028d761deebf381d8ff343b01ad2872ea37bb"), looks := false }, kinds := [], alts := [], laidByText := true, laidKinds := [.data, .data, .data, .listed, .data], laidTests := true, laidLooks := .later }
def TreePartsUptoCardSaid : Prop := Claim7.holds Tryd.pinned (.plain (OpenSpec.upto treePartsSpec)) treePartsUptoCard
end Rows
end Go.Proofs.YtebameiaeldfiaaDoor

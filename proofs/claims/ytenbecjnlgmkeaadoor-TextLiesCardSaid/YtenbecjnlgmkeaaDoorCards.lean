/-
  DERIVED. GIVEN WITH THE SEED: THE CARDS: each row of YtenbecjnlgmkeaaDoorRows.lean that lists a variable, with what it lists TIED to the program's text (the seventh form; the later family's looks); each row that meets fmt, with fmt's text TOLD by the authors' own Lean function (tested against real Go, not proved from fmt's source: count such statements apart). THE CARD IS WHAT COUNTS. Prove the row's statement (the work); the ties are given (YtenbecjnlgmkeaaDoorTie.lean); close each card by the builder's one call (the guide's Derived/Test/ToyasCard.lean, 'card_holds'). Laid BY PROGRAM, IN A SANDBOX (cutbox-door.mjs). By AI agents, Wed Nov 11 2026. No macro, syntax, notation, axiom, sorry.
-/
import Derived.Test.YtenbecjnlgmkeaaDoorRows
import GoSem.ClaimSeven
namespace Go.Proofs.YtenbecjnlgmkeaaDoor
namespace Rows

/-- THE TIED CARD OF 'culpritlaw01.TextTokens'. -/
def textTokensCard : Claim7 := { stood := { row := textTokensRow, standIns := [], harness := (true, "03cc1e0b25af13eaf08436898f96606ed33ed5ab28395031cb7ff4bba882bf60"), looks := false }, kinds := [], alts := [], laidByText := true, laidKinds := [.listed, .data], laidTests := true, laidLooks := .later }
def TextTokensCardSaid : Prop := Claim7.holds Tryd.pinned (.plain (OpenSpec.ofChange textTokensSpec)) textTokensCard

/-- THE TIED CARD OF 'culpritlaw01.TextLies'. -/
def textLiesCard : Claim7 := { stood := { row := textLiesRow, standIns := [], harness := (true, "03cc1e0b25af13eaf08436898f96606ed33ed5ab28395031cb7ff4bba882bf60"), looks := false }, kinds := [], alts := [], laidByText := true, laidKinds := [.listed, .data], laidTests := true, laidLooks := .later }
def TextLiesCardSaid : Prop := Claim7.holds Tryd.pinned (.plain (OpenSpec.ofChange textLiesSpec)) textLiesCard

/-- THE TIED CARD OF 'culpritlaw01.TextCut'. -/
def textCutCard : Claim7 := { stood := { row := textCutRow, standIns := [], harness := (true, "03cc1e0b25af13eaf08436898f96606ed33ed5ab28395031cb7ff4bba882bf60"), looks := false }, kinds := [], alts := [], laidByText := true, laidKinds := [.listed, .data], laidTests := true, laidLooks := .later }
def TextCutCardSaid : Prop := Claim7.holds Tryd.pinned (.plain (OpenSpec.ofChange textCutSpec)) textCutCard

/-- THE TIED CARD OF 'culpritlaw01.TextWords'. -/
def textWordsCard : Claim7 := { stood := { row := textWordsRow, standIns := [], harness := (true, "03cc1e0b25af13eaf08436898f96606ed33ed5ab28395031cb7ff4bba882bf60"), looks := false }, kinds := [], alts := [], laidByText := true, laidKinds := [.listed, .data], laidTests := true, laidLooks := .later }
def TextWordsCardSaid : Prop := Claim7.holds Tryd.pinned (.plain (OpenSpec.ofChange textWordsSpec)) textWordsCard

/-- THE TIED CARD OF 'culpritlaw01.TextBounds'. -/
def textBoundsCard : Claim7 := { stood := { row := textBoundsRow, standIns := [], harness := (true, "03cc1e0b25af13eaf08436898f96606ed33ed5ab28395031cb7ff4bba882bf60"), looks := false }, kinds := [], alts := [], laidByText := true, laidKinds := [.listed, .data], laidTests := true, laidLooks := .later }
def TextBoundsCardSaid : Prop := Claim7.holds Tryd.pinned (.plain (OpenSpec.ofChange textBoundsSpec)) textBoundsCard

/-- THE TIED CARD OF 'culpritlaw01.TextQuotes'. -/
def textQuotesCard : Claim7 := { stood := { row := textQuotesRow, standIns := [], harness := (true, "03cc1e0b25af13eaf08436898f96606ed33ed5ab28395031cb7ff4bba882bf60"), looks := false }, kinds := [], alts := [], laidByText := true, laidKinds := [.listed, .data], laidTests := true, laidLooks := .later }
def TextQuotesCardSaid : Prop := Claim7.holds Tryd.pinned (.plain (OpenSpec.ofChange textQuotesSpec)) textQuotesCard

/-- THE SECOND FORM's CARD OF 'culpritlaw01.TextTokens'. -/
def textTokensUptoCard : Claim7 := { stood := { row := textTokensUptoRow, standIns := [], harness := (true, "03cc1e0b25af13eaf08436898f96606ed33ed5ab28395031cb7ff4bba882bf60"), looks := false }, kinds := [], alts := [], laidByText := true, laidKinds := [.listed, .data], laidTests := true, laidLooks := .later }
def TextTokensUptoCardSaid : Prop := Claim7.holds Tryd.pinned (.plain (OpenSpec.upto textTokensSpec)) textTokensUptoCard

/-- THE SECOND FORM's CARD OF 'culpritlaw01.TextLies'. -/
def textLiesUptoCard : Claim7 := { stood := { row := textLiesUptoRow, standIns := [], harness := (true, "03cc1e0b25af13eaf08436898f96606ed33ed5ab28395031cb7ff4bba882bf60"), looks := false }, kinds := [], alts := [], laidByText := true, laidKinds := [.listed, .data], laidTests := true, laidLooks := .later }
def TextLiesUptoCardSaid : Prop := Claim7.holds Tryd.pinned (.plain (OpenSpec.upto textLiesSpec)) textLiesUptoCard

/-- THE SECOND FORM's CARD OF 'culpritlaw01.TextCut'. -/
def textCutUptoCard : Claim7 := { stood := { row := textCutUptoRow, standIns := [], harness := (true, "03cc1e0b25af13eaf08436898f96606ed33ed5ab28395031cb7ff4bba882bf60"), looks := false }, kinds := [], alts := [], laidByText := true, laidKinds := [.listed, .data], laidTests := true, laidLooks := .later }
def TextCutUptoCardSaid : Prop := Claim7.holds Tryd.pinned (.plain (OpenSpec.upto textCutSpec)) textCutUptoCard

/-- THE SECOND FORM's CARD OF 'culpritlaw01.TextWords'. -/
def textWordsUptoCard : Claim7 := { stood := { row := textWordsUptoRow, standIns := [], harness := (true, "03cc1e0b25af13eaf08436898f96606ed33ed5ab28395031cb7ff4bba882bf60"), looks := false }, kinds := [], alts := [], laidByText := true, laidKinds := [.listed, .data], laidTests := true, laidLooks := .later }
def TextWordsUptoCardSaid : Prop := Claim7.holds Tryd.pinned (.plain (OpenSpec.upto textWordsSpec)) textWordsUptoCard

/-- THE SECOND FORM's CARD OF 'culpritlaw01.TextBounds'. -/
def textBoundsUptoCard : Claim7 := { stood := { row := textBoundsUptoRow, standIns := [], harness := (true, "03cc1e0b25af13eaf08436898f96606ed33ed5ab28395031cb7ff4bba882bf60"), looks := false }, kinds := [], alts := [], laidByText := true, laidKinds := [.listed, .data], laidTests := true, laidLooks := .later }
def TextBoundsUptoCardSaid : Prop := Claim7.holds Tryd.pinned (.plain (OpenSpec.upto textBoundsSpec)) textBoundsUptoCard

/-- THE SECOND FORM's CARD OF 'culpritlaw01.TextQuotes'. -/
def textQuotesUptoCard : Claim7 := { stood := { row := textQuotesUptoRow, standIns := [], harness := (true, "03cc1e0b25af13eaf08436898f96606ed33ed5ab28395031cb7ff4bba882bf60"), looks := false }, kinds := [], alts := [], laidByText := true, laidKinds := [.listed, .data], laidTests := true, laidLooks := .later }
def TextQuotesUptoCardSaid : Prop := Claim7.holds Tryd.pinned (.plain (OpenSpec.upto textQuotesSpec)) textQuotesUptoCard
end Rows
end Go.Proofs.YtenbecjnlgmkeaaDoor

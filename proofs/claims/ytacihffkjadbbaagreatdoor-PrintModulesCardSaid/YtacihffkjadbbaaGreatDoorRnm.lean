
/- The names of a function that calls itself, by the document. -/
import Derived.Test.YtacihffkjadbbaaGreatDoorTrW
namespace Go.Proofs.YtacihffkjadbbaaGreatDoor
set_option linter.unusedSimpArgs false
set_option linter.unusedVariables false
open Go.RowKit Culp
/-- The names of a function that calls itself. -/
def NamesNm (s : ByteArray) (w : World) (e : Ending) (w' : World) : Prop := ∃ a b : ByteArray, e = .returned (.tuple #[.string a, .string b]) ∧ (∀ x y, Tr.two s.data.toList = some (x, y) → a = ⟨x.toArray⟩ ∧ b = ⟨y.toArray⟩) ∧ Below w.heap.size w w'
theorem rNames_any (s : ByteArray) (w : World) (hs : s.size ≤ 140737488351232) : Calls Tryz.prog 108 #[.string s] w (NamesNm s w) := by
  have HT := Lib.hid (fun w => rTwo_names s w hs)
  go_enter Tryz.func108, Tryz.ntmps108
  go_wp2_with fail
  refine (HT.out _).mono ?_
  rintro E w2 ⟨a, b, rfl, h1, hb2⟩
  have H1 := Lib.hid h1
  have HB := Lib.hid hb2
  clear h1 hb2
  go_wp2_with fail
  refine bodyPost_ret (v := .tuple #[.string a, .string b]) (by simp [results, Tryz.results108, go_sem]) rfl ?_
  exact ⟨a, b, rfl, H1.out, HB.out⟩
end Go.Proofs.YtacihffkjadbbaaGreatDoor

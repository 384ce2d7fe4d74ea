/- The walk of the statement CoreCasts, joined. -/
import Derived.Test.YtnmhiddahfnkoaaCsG
namespace Go.Proofs.Ytnmhiddahfnkoaa
set_option linter.unusedSimpArgs false
set_option linter.unusedVariables false
open Go.RowKit Culp

set_option maxHeartbeats 1600000 in
theorem CoreCasts_any (T : List Nd) (tv : Value) (w : World) (hn : Nodes w tv T) (hT : T.length ≤ 1000000000000000) (hsz : ∀ x ∈ T, szOk x) : Calls Try.prog 4 #[tv] w (Makes (.bool true) w) := by
  by_cases h8 : T.length ≤ 32768
  · cases hc : checkM T with
    | error fl =>
      obtain ⟨e0, p0⟩ := fl
      exact CoreCasts_bad T tv w hn h8 hsz e0 p0 hc
    | ok t0 => exact CoreCasts_good T tv w hn h8 hsz t0 hc
  have HL := Lib.hid (long_any T tv w hn hT hsz)
  clear hn hsz
  go_enter Try.func4, Try.ntmps4
  go_wp2_with fail
  refine HL.out.mono ?_
  rintro e w1 ⟨b, rfl, hb, hb1⟩
  have HB1 := Lib.hid hb1
  clear hb1
  cases b with
  | true =>
    go_wp2_with fail
    refine (works_any _).mono ?_
    rintro e w2 ⟨rfl, hb2⟩
    have HB2 := Lib.hid (below_later hb2 HB1.out)
    clear hb2
    go_wp2_with fail
    go_ret
    exact ⟨rfl, HB2.out⟩
  | false => exact absurd (hb rfl) h8
end Go.Proofs.Ytnmhiddahfnkoaa

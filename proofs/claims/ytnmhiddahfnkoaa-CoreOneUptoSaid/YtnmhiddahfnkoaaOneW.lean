/- Walks of what CoreOne leans on: is, refused, deep. -/
import Derived.Test.YtnmhiddahfnkoaaHlpE
import Derived.Test.YtnmhiddahfnkoaaCoreT
namespace Go.Proofs.Ytnmhiddahfnkoaa
set_option linter.unusedSimpArgs false
set_option linter.unusedVariables false
open Go.RowKit Culp

set_option maxHeartbeats 800000 in
theorem is_yes (T : List Nd) (tv : Value) (u : ByteArray) (w : World) (hn : Nodes w tv T) (hT : T.length ≤ 100000) {t : Ty} (hc : checkM T = .ok t) (hu : u = t.str) : Calls Try.prog 18 #[tv, .string u] w (Makes (.bool true) w) := by
  subst hu
  have HC := Lib.hid (coreCheck_any T tv w hn (by omega))
  rw [hc] at HC
  unfold checkV at HC
  clear hc hn
  go_enter Try.func18, Try.ntmps18
  go_wp2_with fail
  refine HC.out.mono ?_
  rintro e w1 ⟨rfl, hb1⟩
  have HB := Lib.hid hb1
  clear hb1
  go_wp2_with fail
  go_ret
  exact ⟨rfl, HB.out⟩
set_option maxHeartbeats 800000 in
theorem refused_yes (T : List Nd) (tv : Value) (w : World) (hn : Nodes w tv T) (hT : T.length ≤ 100000) (hc : checkM T = .error (23, 0)) : Calls Try.prog 19 #[tv, .int .i64 23] w (Makes (.bool true) w) := by
  have HC := Lib.hid (coreCheck_any T tv w hn (by omega))
  rw [hc] at HC
  unfold checkV at HC
  clear hc hn
  go_enter Try.func19, Try.ntmps19
  go_wp2_with fail
  refine HC.out.mono ?_
  rintro e w1 ⟨rfl, hb1⟩
  have HB := Lib.hid hb1
  clear hb1
  go_wp2_with fail
  go_ret
  exact ⟨rfl, HB.out⟩
end Go.Proofs.Ytnmhiddahfnkoaa


/- Walks of trees: which nodes may be: functions that call themselves. -/
import Derived.Test.YtebameiaeldfiaaGreatDoorTrC
namespace Go.Proofs.YtebameiaeldfiaaGreatDoor
set_option linter.unusedSimpArgs false
set_option linter.unusedVariables false
open Go.RowKit Go.Maps Culp

section
variable (kd n : Int) (s t u : ByteArray) (l c : Int) (w : World)
set_option maxRecDepth 100000 in
set_option maxHeartbeats 1600000 in
theorem may_rec (hS : Sp w) (hz : s.size ≤ 140737488351232) : Calls Tryz.prog 60 #[.agg #[.int .i8 6, .int .i64 kd, .int .i64 n, .string s, .string t, .string u, .int .i64 l, .int .i64 c]] w (Makes (.bool (Tr.may ⟨6, kd, n, s, t, u, l, c⟩)) w) := by
  have HS := Lib.hid hS
  clear hS
  go_enter Tryz.func60, Tryz.ntmps60
  go_wp2_with fail
  refine (arities_any 6 _).mono ?_
  rintro e w1 ⟨rfl, rfl⟩
  rw [show Tr.arit 6 = 1 from rfl]
  go_wp2_with fail
  all_goals
    refine (two_any s _ hz (HS.out.later (((Below.refl _ _).alloc (Nat.le_refl _) _).alloc (by simp) _))).mono ?_
    rintro e w2 ⟨n1, n2, rfl, hb⟩
    obtain ⟨hx, hr, hf, hbw⟩ := two_blocks hb
    have HB := Lib.hid hbw
    have r0 := hr 0 _ rfl
    have r1 := hr 1 _ rfl
    have r2 := hr 2 _ rfl
    have r3 := hr 3 _ rfl
    have r4 := hr 4 _ rfl
    have r5 := hr 5 _ rfl
    have r6 := hr 6 _ rfl
    have r7 := hr 7 _ rfl
    have f3 := hf 3
    have f4 := hf 4
    have f5 := hf 5
    have x4 := hx 4 _ rfl
    have x5 := hx 5 _ rfl
    clear hb hx hr hf hbw
    go_wp2_with (go_at_call 73; refine (tNote_any _ _).mono ?_; rintro e w' ⟨rfl, rfl⟩)
    all_goals
      go_ret
      refine Makes.mk ?_ ?_
      · go_light
        simp only [Tr.may, Tr.kOk, Tr.nOk, Tr.sOk, Tr.tOk, Tr.uOk, show Tr.arit 6 = 1 from rfl]
        simp_all [toL'] <;> omega
      · first
          | exact ((Below.refl _ _).alloc (Nat.le_refl _) _).alloc (by simp) _
          | exact (HB.out).setCell (Nat.le_succ _) _
          | exact (((HB.out).setCell (Nat.le_succ _) _).setCell (Nat.le_succ _) _).setCell (Nat.le_succ _) _
end
end Go.Proofs.YtebameiaeldfiaaGreatDoor

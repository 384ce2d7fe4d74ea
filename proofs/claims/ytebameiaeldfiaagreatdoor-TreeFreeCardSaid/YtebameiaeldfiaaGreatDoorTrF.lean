
/- Walks of trees, the document's: which nodes may be. -/
import Derived.Test.YtebameiaeldfiaaGreatDoorTrE
import Derived.Test.YtebameiaeldfiaaGreatDoorTrC
namespace Go.Proofs.YtebameiaeldfiaaGreatDoor
set_option linter.unusedSimpArgs false
set_option linter.unusedVariables false
open Go.RowKit Go.Maps Culp

section
variable (kd n : Int) (s t u : ByteArray) (l c : Int) (w : World)
set_option maxRecDepth 100000 in
set_option maxHeartbeats 1600000 in
theorem rmay_num : Calls Tryz.prog 66 #[.agg #[.int .i8 1, .int .i64 kd, .int .i64 n, .string s, .string t, .string u, .int .i64 l, .int .i64 c]] w (Makes (.bool (Tr.may ⟨1, kd, n, s, t, u, l, c⟩)) w) := by
  go_enter Tryz.func66, Tryz.ntmps66
  go_wp2_with fail
  refine (rArity_any 1 _).mono ?_
  rintro e w1 ⟨rfl, rfl⟩
  rw [show arV 1 = .tuple #[.int .i64 0, .bool true] from rfl]
  go_wp2_with fail
  all_goals
    go_ret
    refine Makes.mk ?_ ?_
    · go_light
      simp only [Tr.may, Tr.kOk, Tr.nOk, Tr.sOk, Tr.tOk, Tr.uOk, show Tr.arit 1 = 0 from rfl]
      simp_all [toL'] <;> omega
    · first
        | exact HB.out
        | exact ((Below.refl _ _).alloc (Nat.le_refl _) _).alloc (by simp) _
        | exact (Below.refl _ _).alloc (Nat.le_refl _) _
set_option maxRecDepth 100000 in
set_option maxHeartbeats 1600000 in
theorem rmay_truth : Calls Tryz.prog 66 #[.agg #[.int .i8 3, .int .i64 kd, .int .i64 n, .string s, .string t, .string u, .int .i64 l, .int .i64 c]] w (Makes (.bool (Tr.may ⟨3, kd, n, s, t, u, l, c⟩)) w) := by
  go_enter Tryz.func66, Tryz.ntmps66
  go_wp2_with fail
  refine (rArity_any 3 _).mono ?_
  rintro e w1 ⟨rfl, rfl⟩
  rw [show arV 3 = .tuple #[.int .i64 0, .bool true] from rfl]
  go_wp2_with fail
  all_goals
    go_ret
    refine Makes.mk ?_ ?_
    · go_light
      simp only [Tr.may, Tr.kOk, Tr.nOk, Tr.sOk, Tr.tOk, Tr.uOk, show Tr.arit 3 = 0 from rfl]
      simp_all [toL'] <;> omega
    · first
        | exact HB.out
        | exact ((Below.refl _ _).alloc (Nat.le_refl _) _).alloc (by simp) _
        | exact (Below.refl _ _).alloc (Nat.le_refl _) _
set_option maxRecDepth 100000 in
set_option maxHeartbeats 1600000 in
theorem rmay_as : Calls Tryz.prog 66 #[.agg #[.int .i8 29, .int .i64 kd, .int .i64 n, .string s, .string t, .string u, .int .i64 l, .int .i64 c]] w (Makes (.bool (Tr.may ⟨29, kd, n, s, t, u, l, c⟩)) w) := by
  go_enter Tryz.func66, Tryz.ntmps66
  go_wp2_with fail
  refine (rArity_any 29 _).mono ?_
  rintro e w1 ⟨rfl, rfl⟩
  rw [show arV 29 = .tuple #[.int .i64 1, .bool true] from rfl]
  go_wp2_with (go_at_call 77; refine (rType_any _ _).mono ?_; rintro e w' ⟨rfl, rfl⟩)
  all_goals
    go_ret
    refine Makes.mk ?_ ?_
    · go_light
      simp only [Tr.may, Tr.kOk, Tr.nOk, Tr.sOk, Tr.tOk, Tr.uOk, show Tr.arit 29 = 1 from rfl]
      simp_all [toL'] <;> omega
    · first
        | exact HB.out
        | exact ((Below.refl _ _).alloc (Nat.le_refl _) _).alloc (by simp) _
        | exact (Below.refl _ _).alloc (Nat.le_refl _) _
end
end Go.Proofs.YtebameiaeldfiaaGreatDoor


/- Walks of trees, the document's: which nodes may be: the other kinds. -/
import Derived.Test.YtebameiaeldfiaaGreatDoorTrE
import Derived.Test.YtebameiaeldfiaaGreatDoorTrC
namespace Go.Proofs.YtebameiaeldfiaaGreatDoor
set_option linter.unusedSimpArgs false
set_option linter.unusedVariables false
open Go.RowKit Go.Maps Culp

theorem arV_yes {k a : Int} (h : Tr.arit k = a) (h0 : 0 ≤ a) : arV k = .tuple #[.int .i64 a, .bool true] := by unfold arV; rw [h, if_pos h0]
theorem arV_no {k a : Int} (h : Tr.arit k = a) (h0 : ¬ 0 ≤ a) : arV k = .tuple #[.int .i64 0, .bool false] := by unfold arV; rw [h, if_neg h0]
theorem arit_list {k : Int} (h : k ≠ 21) (h0 : ¬ 0 ≤ Tr.arit k) : Tr.arit k = -2 := by
  unfold Tr.arit at h0 ⊢
  split at h0
  · omega
  split at h0
  · omega
  split at h0
  · omega
  split at h0
  · omega
  · rename_i a b c d
    rw [if_neg a, if_neg b, if_neg c, if_neg d, if_neg h]
set_option maxRecDepth 100000 in
set_option maxHeartbeats 3200000 in
theorem rmay_list (kd n : Int) (s t u : ByteArray) (l c : Int) (w : World) :
    Calls Tryz.prog 66 #[.agg #[.int .i8 21, .int .i64 kd, .int .i64 n, .string s, .string t, .string u, .int .i64 l, .int .i64 c]] w (Makes (.bool (Tr.may ⟨21, kd, n, s, t, u, l, c⟩)) w) := by
  go_enter Tryz.func66, Tryz.ntmps66
  go_wp2_with fail
  refine (rArity_any 21 _).mono ?_
  rintro e w1 ⟨rfl, rfl⟩
  rw [show arV 21 = .tuple #[.int .i64 0, .bool false] from rfl]
  go_wp2_with fail
  all_goals
    go_ret
    refine Makes.mk ?_ ?_
    · go_light
      simp only [Tr.may, Tr.kOk, Tr.nOk, Tr.sOk, Tr.tOk, Tr.uOk, show Tr.arit 21 = -1 from rfl]
      simp_all [toL'] <;> omega
    · first
        | exact HB.out
        | exact ((Below.refl _ _).alloc (Nat.le_refl _) _).alloc (by simp) _
        | exact (Below.refl _ _).alloc (Nat.le_refl _) _
set_option maxRecDepth 100000 in
set_option maxHeartbeats 3200000 in
theorem rmay_other (k kd n : Int) (s t u : ByteArray) (l c : Int) (w : World) (e1 : (k == 1) = false) (e2 : (k == 2) = false) (e3 : (k == 3) = false) (e4 : (k == 4) = false) (e5 : (k == 5) = false) (e6 : (k == 6) = false) (e8 : (k == 8) = false) (e29 : (k == 29) = false) (e21 : (k == 21) = false) :
    Calls Tryz.prog 66 #[.agg #[.int .i8 k, .int .i64 kd, .int .i64 n, .string s, .string t, .string u, .int .i64 l, .int .i64 c]] w (Makes (.bool (Tr.may ⟨k, kd, n, s, t, u, l, c⟩)) w) := by
  have e21' : (k != 21) = true := by rw [bne, e21]; rfl
  obtain ⟨a, ha⟩ : ∃ a, Tr.arit k = a := ⟨_, rfl⟩
  have hl : ¬ 0 ≤ a → a = -2 := fun h => by rw [← ha]; exact arit_list (beq_eq_false_iff_ne.1 e21) (by rw [ha]; exact h)
  have HA := Lib.hid ha
  by_cases h0 : 0 ≤ a
  · have HV := Lib.hid (arV_yes ha h0)
    clear ha hl
    go_enter Tryz.func66, Tryz.ntmps66
    go_wp2_with fail
    refine (rArity_any k _).mono ?_
    rintro e w1 ⟨rfl, rfl⟩
    rw [HV.out]
    clear HV
    go_wp2_with fail
    all_goals
      go_ret
      refine Makes.mk ?_ ?_
      · go_light
        simp only [Tr.may, Tr.kOk, Tr.nOk, Tr.sOk, Tr.tOk, Tr.uOk, HA.out]
        clear HA
        simp_all [toL'] <;> omega
      · first
          | exact ((Below.refl _ _).alloc (Nat.le_refl _) _).alloc (by simp) _
          | exact (Below.refl _ _).alloc (Nat.le_refl _) _
  · have HV := Lib.hid (arV_no ha h0)
    have h2 := hl h0
    have HF : Hid (Tr.may ⟨k, kd, n, s, t, u, l, c⟩ = false) := Lib.hid (by
      simp only [Tr.may, Tr.kOk, ha]
      have : decide (a = -1) = false := decide_eq_false (by omega)
      rw [this]
      by_cases hk : 0 ≤ kd
      · have : decide (a = kd) = false := decide_eq_false (by omega)
        rw [this]; simp
      · rw [decide_eq_false hk]; simp)
    clear ha hl h2 h0
    go_enter Tryz.func66, Tryz.ntmps66
    go_wp2_with fail
    refine (rArity_any k _).mono ?_
    rintro e w1 ⟨rfl, rfl⟩
    rw [HV.out]
    clear HV
    go_wp2_with fail
    all_goals
      go_ret
      exact Makes.mk (by rw [HF.out]; rfl) ((Below.refl _ _).alloc (Nat.le_refl _) _)
end Go.Proofs.YtebameiaeldfiaaGreatDoor

/- The law SafeSame, walked out of the contracts. -/
import Derived.Test.YtebnlpiadddikaaSafeP
import Derived.Test.YtebnlpiadddikaaR4W
namespace Go.Proofs.Ytebnlpiadddikaa
set_option linter.unusedSimpArgs false
set_option linter.unusedVariables false
open Go.RowKit Culp

/-- The law's own 'good': true of types alone. -/
def GoodRes (s : ByteArray) (w : World) (e : Ending) (w' : World) : Prop := ∃ b : Bool, (b = true → isTy s.data.toList = true) ∧ e = .returned (.bool b) ∧ w = w'
set_option maxHeartbeats 400000 in
theorem lgood_any (s : ByteArray) (w : World) (hs : s.size ≤ 1000000000000000) : Calls Try.prog 5 #[.string s] w (GoodRes s w) := by
  cases hT : isTy s.data.toList with
  | false =>
    have T := Lib.hid hT; clear hT
    go_enter Try.func5, Try.ntmps5
    go_wp2_with (go_at_call 12; refine (Good_any s _ hs).mono ?_; rw [T.out]; rintro e w' ⟨rfl, rfl⟩)
    go_ret
    exact ⟨false, by simp, rfl, rfl⟩
  | true =>
    have T := Lib.hid hT; clear hT
    go_enter Try.func5, Try.ntmps5
    go_wp2_with (first
      | (go_at_call 12; refine (Good_any s _ hs).mono ?_; rw [T.out]; rintro e w' ⟨rfl, rfl⟩)
      | (go_at_call 13; refine (Deep_any s _ hs).mono ?_; rintro e w' ⟨b, rfl, rfl⟩))
    go_ret
    exact ⟨!b, fun _ => T.out, rfl, rfl⟩

def Tfn : Ty := .fn .int .int
def Tfq : Ty := .fn .dyn .dyn
theorem Tfn_fits : Tfn.fits := by unfold Ty.fits Tfn; simp [Ty.enc]
theorem Tfq_fits : Tfq.fits := by unfold Ty.fits Tfq; simp [Ty.enc]
theorem int_fits : Ty.int.fits := by unfold Ty.fits; simp [Ty.enc]
theorem dyn_fits : Ty.dyn.fits := by unfold Ty.fits; simp [Ty.enc]
set_option maxHeartbeats 800000 in
theorem works_any (w : World) : Calls Try.prog 6 #[] w (Makes (.bool true) w) := by
  go_enter Try.func6, Try.ntmps6
  go_wp2_with fail
  refine (show Calls Try.prog 8 _ w (Makes (.bool true) w) from Plus_any Tfn Tfq Tfn_fits Tfq_fits w).mono ?_
  rintro e w1 ⟨rfl, hb1⟩
  go_wp2_with fail
  refine (show Calls Try.prog 9 _ w1 (Makes (.bool false) w1) from Minus_any Tfn Tfq Tfn_fits Tfq_fits w1).mono ?_
  rintro e w2 ⟨rfl, hb2⟩
  go_wp2_with fail
  refine (show Calls Try.prog 9 _ w2 (Makes (.bool true) w2) from Minus_any Tfq Tfn Tfq_fits Tfn_fits w2).mono ?_
  rintro e w3 ⟨rfl, hb3⟩
  go_wp2_with fail
  refine (show Calls Try.prog 8 _ w3 (Makes (.bool false) w3) from Plus_any Tfq Tfn Tfq_fits Tfn_fits w3).mono ?_
  rintro e w4 ⟨rfl, hb4⟩
  go_wp2_with fail
  refine (show Calls Try.prog 8 _ w4 (Makes (.bool false) w4) from Plus_any .dyn .int dyn_fits int_fits w4).mono ?_
  rintro e w5 ⟨rfl, hb5⟩
  go_wp2_with fail
  go_ret
  exact Makes.mk rfl (below_later hb5 (below_later hb4 (below_later hb3 (below_later hb2 hb1))))

theorem gnd_gnd (s : Ty) : s.gnd.gnd = s.gnd := by cases s <;> rfl
theorem sm_gnd_dyn (s : Ty) : sm s.gnd .dyn = true := by rw [sm_gnd, gnd_gnd]; exact (sp_refl_both _).2

set_option maxHeartbeats 1600000 in
theorem SafeSame_any (s : ByteArray) (w : World) (hs : s.size ≤ 1000000000000000) : Calls Try.prog 3 #[.string s] w (Makes (.bool true) w) := by
  cases hT : isTy s.data.toList with
  | false =>
    have T := Lib.hid hT; clear hT
    go_enter Try.func3, Try.ntmps3
    go_wp2_with fail
    refine (lgood_any s _ hs).mono ?_
    rintro e w' ⟨b, hb, rfl, rfl⟩
    have hb' : b = false := by cases b with | false => rfl | true => have := hb rfl; rw [T.out] at this; cases this
    subst hb'
    clear hb
    go_wp2_with fail
    refine (works_any _).mono ?_
    rintro e w' ⟨rfl, hbw⟩
    go_wp2_with fail
    go_ret
    exact Makes.mk rfl hbw
  | true =>
    obtain ⟨t, rfl, ht⟩ := ty_of s hT
    clear hT
    have hp : 0 < t.str.size := by rw [str_size]; exact t.enc_pos
    have h0 := str_get t hp
    have hi : (0 : Int) < (t.str.size : Int) := by omega
    have P1 := Lib.hid (sp_refl_both t).1
    have P2 := Lib.hid (sp_refl_both t).2
    have P3 := Lib.hid (sp_dyn t)
    have P4 := Lib.hid (sm_dyn t)
    have P5 := Lib.hid (sp_dyn t.gnd)
    have P6 := Lib.hid (sm_gnd_dyn t)
    have X := Lib.hid (sm_gnd t)
    have hg : t.gnd.fits := by unfold Ty.fits; cases t <;> simp [Ty.gnd, Ty.enc]
    have hd := dyn_fits
    have hsz : t.str.size ≤ 1000000000000000 := hs
    by_cases hdt : t = .dyn
    all_goals
      first
        | (have hq := str_dyn hdt)
        | (have hq := str_isdyn; rw [← hdt] at hq)
      clear hdt
      go_enter Try.func3, Try.ntmps3
      go_wp2_with fail
      refine (lgood_any t.str _ hsz).mono ?_
      rintro e w' ⟨b, -, rfl, rfl⟩
      cases b
      case false =>
        go_wp2_with fail
        refine (works_any _).mono ?_
        rintro e w' ⟨rfl, hbw⟩
        go_wp2_with fail
        go_ret
        exact Makes.mk rfl hbw
      go_wp2_with fail
      refine (rGround_any t _).mono ?_
      rintro e w1 ⟨rfl, hb1⟩
      go_wp2_with fail
      refine (Plus_any t t ht ht _).mono ?_
      rw [P1.out]
      rintro e w2 ⟨rfl, hb2⟩
      replace hb2 := below_later hb2 hb1
      go_wp2_with fail
      refine (Minus_any t t ht ht _).mono ?_
      rw [P2.out]
      rintro e w3 ⟨rfl, hb3⟩
      replace hb3 := below_later hb3 hb2
      go_wp2_with fail
      refine (Plus_any t .dyn ht hd _).mono ?_
      rw [P3.out]
      rintro e w4 ⟨rfl, hb4⟩
      replace hb4 := below_later hb4 hb3
      go_wp2_with fail
      refine (Minus_any .dyn t hd ht _).mono ?_
      rw [P4.out]
      rintro e w5 ⟨rfl, hb5⟩
      replace hb5 := below_later hb5 hb4
      go_wp2_with fail
      refine (Plus_any t.gnd .dyn hg hd _).mono ?_
      rw [P5.out]
      rintro e w6 ⟨rfl, hb6⟩
      replace hb6 := below_later hb6 hb5
      go_wp2_with fail
      refine (Minus_any t.gnd .dyn hg hd _).mono ?_
      rw [P6.out]
      rintro e w7 ⟨rfl, hb7⟩
      replace hb7 := below_later hb7 hb6
      clear hb1 hb2 hb3 hb4 hb5 hb6
      go_wp2_with fail
      try (
        go_at_call 9
        refine (Minus_any t .dyn ht hd _).mono ?_
        rintro e w8 ⟨rfl, hb8⟩
        replace hb8 := below_later hb8 hb7
        go_wp2_with fail
        refine (Minus_any t t.gnd ht hg _).mono ?_
        rw [← X.out]
        rintro e w9 ⟨rfl, hb9⟩
        replace hb9 := below_later hb9 hb8
        clear hb7 hb8
        have hb7 := hb9
        clear hb9
        go_wp2_with fail)
      refine (works_any _).mono ?_
      rintro e wx ⟨rfl, hbx⟩
      replace hbx := below_later hbx hb7
      clear hb7
      go_wp2_with fail
      go_ret
      exact Makes.mk rfl hbx
end Go.Proofs.Ytebnlpiadddikaa

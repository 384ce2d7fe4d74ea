/- The law SafePrecise, walked out of the contracts. -/
import Derived.Test.YtebnlpiadddikaaSafeL
import Derived.Test.YtebnlpiadddikaaRelW
import Derived.Test.YtebnlpiadddikaaSafePr
namespace Go.Proofs.Ytebnlpiadddikaa
set_option linter.unusedSimpArgs false
set_option linter.unusedVariables false
open Go.RowKit Culp

set_option maxHeartbeats 3200000 in
theorem SafePrecise_types (s t : Ty) (hs : s.fits) (ht : t.fits) (w : World) : Calls Try.prog 4 #[.string s.str, .string t.str] w (Makes (.bool true) w) := by
  have s1 : s.str.size ≤ 1000000000000000 := by rw [str_size]; have := hs; unfold Ty.fits at this; omega
  have s2 : t.str.size ≤ 1000000000000000 := by rw [str_size]; have := ht; unfold Ty.fits at this; omega
  cases hc : cons s t with
  | false =>
    have C := Lib.hid hc; clear hc
    go_enter Try.func4, Try.ntmps4
    go_wp2_with fail
    refine (lgood_any s.str _ s1).mono ?_
    rintro e w' ⟨b, -, rfl, rfl⟩
    cases b
    case false =>
      go_wp2_with fail
      refine (works_any _).mono ?_
      rintro e w' ⟨rfl, hbw⟩
      go_wp2_with fail
      go_ret
      exact Makes.mk rfl hbw
    go_wp2_with fail
    refine (lgood_any t.str _ s2).mono ?_
    rintro e w' ⟨b, -, rfl, rfl⟩
    cases b
    case false =>
      go_wp2_with fail
      refine (works_any _).mono ?_
      rintro e w' ⟨rfl, hbw⟩
      go_wp2_with fail
      go_ret
      exact Makes.mk rfl hbw
    go_wp2_with fail
    refine (Consistent_any s t hs ht _).mono ?_
    rw [C.out]
    rintro e w1 ⟨rfl, hb1⟩
    go_wp2_with fail
    refine (works_any _).mono ?_
    rintro e w' ⟨rfl, hbw⟩
    have hB := below_later hbw hb1
    clear hbw hb1
    go_wp2_with fail
    go_ret
    exact Makes.mk rfl hB
  | true =>
    have C := Lib.hid hc
    obtain ⟨x1, x2⟩ := precise_two s t hc
    clear hc
    cases p1 : sp s t <;> cases p2 : sm t s <;> cases p3 : sp t s <;> cases p4 : sm s t
    all_goals
      rw [p1, p2] at x1
      rw [p3, p4] at x2
      simp only [Bool.and_true, Bool.and_false, Bool.true_and, Bool.false_and, Bool.and_self] at x1 x2
      have X1 := Lib.hid x1; have X2 := Lib.hid x2; have P1 := Lib.hid p1; have P2 := Lib.hid p2; have P3 := Lib.hid p3; have P4 := Lib.hid p4
      clear x1 x2 p1 p2 p3 p4
      go_enter Try.func4, Try.ntmps4
      go_wp2_with fail
      refine (lgood_any s.str _ s1).mono ?_
      rintro e w' ⟨b, -, rfl, rfl⟩
      cases b
      case false =>
        go_wp2_with fail
        refine (works_any _).mono ?_
        rintro e w' ⟨rfl, hbw⟩
        go_wp2_with fail
        go_ret
        exact Makes.mk rfl hbw
      go_wp2_with fail
      refine (lgood_any t.str _ s2).mono ?_
      rintro e w' ⟨b, -, rfl, rfl⟩
      cases b
      case false =>
        go_wp2_with fail
        refine (works_any _).mono ?_
        rintro e w' ⟨rfl, hbw⟩
        go_wp2_with fail
        go_ret
        exact Makes.mk rfl hbw
      go_wp2_with fail
      refine (Consistent_any s t hs ht _).mono ?_
      rw [C.out]
      rintro e w1 ⟨rfl, hB⟩
      go_wp2_with fail
      refine (Precise_any s t hs ht _).mono ?_
      rw [X1.out]
      rintro e w2 ⟨rfl, hb2⟩
      replace hB := below_later hb2 hB; clear hb2
      go_wp2_with fail
      refine (Plus_any s t hs ht _).mono ?_
      rw [P1.out]
      rintro e w3 ⟨rfl, hb3⟩
      replace hB := below_later hb3 hB; clear hb3
      go_wp2_with fail
      try (
        go_at_call 9
        refine (Minus_any t s ht hs _).mono ?_
        rw [P2.out]
        rintro e w4 ⟨rfl, hb4⟩
        replace hB := below_later hb4 hB; clear hb4
        go_wp2_with fail)
      refine (Precise_any t s ht hs _).mono ?_
      rw [X2.out]
      rintro e w5 ⟨rfl, hb5⟩
      replace hB := below_later hb5 hB; clear hb5
      go_wp2_with fail
      refine (Plus_any t s ht hs _).mono ?_
      rw [P3.out]
      rintro e w6 ⟨rfl, hb6⟩
      replace hB := below_later hb6 hB; clear hb6
      go_wp2_with fail
      try (
        go_at_call 9
        refine (Minus_any s t hs ht _).mono ?_
        rw [P4.out]
        rintro e w7 ⟨rfl, hb7⟩
        replace hB := below_later hb7 hB; clear hb7
        go_wp2_with fail)
      refine (works_any _).mono ?_
      rintro e w8 ⟨rfl, hb8⟩
      replace hB := below_later hb8 hB; clear hb8
      go_wp2_with fail
      go_ret
      exact Makes.mk rfl hB

set_option maxHeartbeats 800000 in
theorem SafePrecise_any (s t : ByteArray) (w : World) (hs : s.size ≤ 1000000000000000) (ht : t.size ≤ 1000000000000000) : Calls Try.prog 4 #[.string s, .string t] w (Makes (.bool true) w) := by
  cases h1 : isTy s.data.toList with
  | false =>
    have T := Lib.hid h1; clear h1
    go_enter Try.func4, Try.ntmps4
    go_wp2_with fail
    refine (lgood_any s _ hs).mono ?_
    rintro e w' ⟨b, hb, rfl, rfl⟩
    have hb' : b = false := by cases b with | false => rfl | true => have := hb rfl; rw [T.out] at this; cases this
    subst hb'
    clear hb
    go_wp2_with fail
    refine (works_any _).mono ?_
    rintro e w' ⟨rfl, hbw⟩
    go_wp2_with fail
    go_ret
    exact Makes.mk rfl hbw
  | true =>
    cases h2 : isTy t.data.toList with
    | false =>
      have T := Lib.hid h2; clear h1 h2
      go_enter Try.func4, Try.ntmps4
      go_wp2_with fail
      refine (lgood_any s _ hs).mono ?_
      rintro e w' ⟨b, -, rfl, rfl⟩
      cases b
      case false =>
        go_wp2_with fail
        refine (works_any _).mono ?_
        rintro e w' ⟨rfl, hbw⟩
        go_wp2_with fail
        go_ret
        exact Makes.mk rfl hbw
      go_wp2_with fail
      refine (lgood_any t _ ht).mono ?_
      rintro e w' ⟨b, hb, rfl, rfl⟩
      have hb' : b = false := by cases b with | false => rfl | true => have := hb rfl; rw [T.out] at this; cases this
      subst hb'
      clear hb
      go_wp2_with fail
      refine (works_any _).mono ?_
      rintro e w' ⟨rfl, hbw⟩
      go_wp2_with fail
      go_ret
      exact Makes.mk rfl hbw
    | true =>
      obtain ⟨a, rfl, ha⟩ := ty_of s h1
      obtain ⟨b, rfl, hb⟩ := ty_of t h2
      exact SafePrecise_types a b ha hb w
end Go.Proofs.Ytebnlpiadddikaa

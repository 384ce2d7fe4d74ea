/- The walk of the statement CoreOne. -/
import Derived.Test.YtnmhiddahfnkoaaOneK
import Derived.Test.YtnmhiddahfnkoaaCsL
namespace Go.Proofs.Ytnmhiddahfnkoaa
set_option linter.unusedSimpArgs false
set_option linter.unusedVariables false
open Go.RowKit Culp

theorem str_ne {s t : Ty} (h : s ≠ t) : (s.str.toList == t.str.toList) = false := by
  refine beq_eq_false_iff_ne.2 fun e => h (str_inj ?_)
  rw [toL, toL] at e
  exact ByteArray.ext (Array.toList_inj.1 e)
set_option maxRecDepth 100000 in
set_option maxHeartbeats 100000000 in
theorem CoreOne_any (T U : List Nd) (tv uv : Value) (w : World) (hn : Nodes w tv T) (hm : Nodes w uv U) (hT : T.length ≤ 1000000000000000) (hU : U.length ≤ 1000000000000000) (hsz : ∀ x ∈ T, szOk x) (hsz2 : ∀ x ∈ U, szOk x) :
    Calls Try.prog 5 #[tv, uv] w (Makes (.bool true) w) := by
  have HN := Lib.hid hn
  have HM := Lib.hid hm
  have HS1 := Lib.hid hsz
  have HS2 := Lib.hid hsz2
  obtain ⟨A1, c1, rfl, _, h1⟩ := hn
  obtain ⟨A2, c2, rfl, _, h2⟩ := hm
  clear h1 h2 hsz hsz2
  have HB0 := Lib.hid (Below.refl w.heap.size w)
  by_cases h500 : 500 < T.length + U.length
  · go_enter Try.func5, Try.ntmps5
    go_wp2_with fail
    refine (works_any _).mono ?_
    rintro e wz ⟨rfl, hbz⟩
    have HBZ := Lib.hid (below_later hbz HB0.out)
    clear hbz
    go_wp2_with fail
    go_ret
    exact ⟨rfl, HBZ.out⟩
  go_enter Try.func5, Try.ntmps5
  go_wp2_with fail
  refine (long_any T _ _ HN.out (by omega) HS1.out).mono ?_
  rintro e w1 ⟨b, rfl, _, hb1⟩
  have HB1 := Lib.hid hb1
  have HM1 := Lib.hid (HM.out.later hb1)
  have HN1 := Lib.hid (HN.out.later hb1)
  clear hb1
  cases b with
  | true =>
    go_wp2_with fail
    refine (works_any _).mono ?_
    rintro e wz ⟨rfl, hbz⟩
    have HBZ := Lib.hid (below_later hbz HB1.out)
    clear hbz
    go_wp2_with fail
    go_ret
    exact ⟨rfl, HBZ.out⟩
  | false =>
    go_wp2_with fail
    refine (long_any U _ _ HM1.out (by omega) HS2.out).mono ?_
    rintro e w2 ⟨b, rfl, _, hb2⟩
    have HB2 := Lib.hid (below_later hb2 HB1.out)
    have HM2 := Lib.hid (HM1.out.later hb2)
    have HN2 := Lib.hid (HN1.out.later hb2)
    clear hb2
    cases b with
    | true =>
      go_wp2_with fail
      refine (works_any _).mono ?_
      rintro e wz ⟨rfl, hbz⟩
      have HBZ := Lib.hid (below_later hbz HB2.out)
      clear hbz
      go_wp2_with fail
      go_ret
      exact ⟨rfl, HBZ.out⟩
    | false =>
      go_wp2_with fail
      refine (CopyNodes_any T _ _ HN2.out (by omega)).mono ?_
      rintro e w3 ⟨v3, rfl, hn3, hb3⟩
      have HB3 := Lib.hid (below_later hb3 HB2.out)
      have HM3 := Lib.hid (HM2.out.later hb3)
      have HN3 := Lib.hid (HN2.out.later hb3)
      have HX := Lib.hid (coreCheck_any T v3 _ hn3 (by omega))
      have hne1 : ∀ e p, checkM T = .error (e, p) → e ≠ 0 := fun e p h => checkM_ne HN3.out (by omega) HS1.out h
      have hne2 : ∀ e p, checkM U = .error (e, p) → e ≠ 0 := fun e p h => checkM_ne HM3.out (by omega) HS2.out h
      clear hb3 hn3
      cases hc1 : checkM T with
      | error fl =>
        obtain ⟨e1, p1⟩ := fl
        have he1 := hne1 _ _ hc1
        have HC1 := Lib.hid hc1
        clear hne1 hne2 hc1
        cases hc2 : checkM U with
        | error fl =>
          obtain ⟨e2, p2⟩ := fl
          have HC2 := Lib.hid hc2
          clear hc2
          rw [HC1.out] at HX
          unfold checkV at HX
          go_wp2_with fail
          refine HX.out.mono ?_
          rintro e w4 ⟨rfl, hb4⟩
          have HB4 := Lib.hid (below_later hb4 HB3.out)
          have HM4 := Lib.hid (HM3.out.later hb4)
          have HN4 := Lib.hid (HN3.out.later hb4)
          clear hb4
          go_wp2_with fail
          refine (CopyNodes_any U _ _ HM4.out (by omega)).mono ?_
          rintro e w5 ⟨v5, rfl, hn5, hb5⟩
          have HB5 := Lib.hid (below_later hb5 HB4.out)
          have HM5 := Lib.hid (HM4.out.later hb5)
          have HN5 := Lib.hid (HN4.out.later hb5)
          have HY := Lib.hid (coreCheck_any U v5 _ hn5 (by omega))
          clear hb5 hn5
          rw [HC2.out] at HY
          unfold checkV at HY
          go_wp2_with fail
          refine HY.out.mono ?_
          rintro e w6 ⟨rfl, hb6⟩
          have HB6 := Lib.hid (below_later hb6 HB5.out)
          have HM6 := Lib.hid (HM5.out.later hb6)
          have HN6 := Lib.hid (HN5.out.later hb6)
          clear hb6
          go_wp2_with fail
          refine (works_any _).mono ?_
          rintro e wz ⟨rfl, hbz⟩
          have HBZ := Lib.hid (below_later hbz HB6.out)
          clear hbz
          go_wp2_with fail
          go_ret
          exact ⟨rfl, HBZ.out⟩
        | ok t =>
          have HC2 := Lib.hid hc2
          clear hc2
          rw [HC1.out] at HX
          unfold checkV at HX
          go_wp2_with fail
          refine HX.out.mono ?_
          rintro e w4 ⟨rfl, hb4⟩
          have HB4 := Lib.hid (below_later hb4 HB3.out)
          have HM4 := Lib.hid (HM3.out.later hb4)
          have HN4 := Lib.hid (HN3.out.later hb4)
          clear hb4
          go_wp2_with fail
          refine (CopyNodes_any U _ _ HM4.out (by omega)).mono ?_
          rintro e w5 ⟨v5, rfl, hn5, hb5⟩
          have HB5 := Lib.hid (below_later hb5 HB4.out)
          have HM5 := Lib.hid (HM4.out.later hb5)
          have HN5 := Lib.hid (HN4.out.later hb5)
          have HY := Lib.hid (coreCheck_any U v5 _ hn5 (by omega))
          clear hb5 hn5
          rw [HC2.out] at HY
          unfold checkV at HY
          go_wp2_with fail
          refine HY.out.mono ?_
          rintro e w6 ⟨rfl, hb6⟩
          have HB6 := Lib.hid (below_later hb6 HB5.out)
          have HM6 := Lib.hid (HM5.out.later hb6)
          have HN6 := Lib.hid (HN5.out.later hb6)
          clear hb6
          go_wp2_with fail
          refine (works_any _).mono ?_
          rintro e wz ⟨rfl, hbz⟩
          have HBZ := Lib.hid (below_later hbz HB6.out)
          clear hbz
          go_wp2_with fail
          go_ret
          exact ⟨rfl, HBZ.out⟩
      | ok s =>
        have HC1 := Lib.hid hc1
        cases hc2 : checkM U with
        | error fl =>
          obtain ⟨e2, p2⟩ := fl
          have he2 := hne2 _ _ hc2
          have HC2 := Lib.hid hc2
          clear hne1 hne2 hc1 hc2
          rw [HC1.out] at HX
          unfold checkV at HX
          go_wp2_with fail
          refine HX.out.mono ?_
          rintro e w4 ⟨rfl, hb4⟩
          have HB4 := Lib.hid (below_later hb4 HB3.out)
          have HM4 := Lib.hid (HM3.out.later hb4)
          have HN4 := Lib.hid (HN3.out.later hb4)
          clear hb4
          go_wp2_with fail
          refine (CopyNodes_any U _ _ HM4.out (by omega)).mono ?_
          rintro e w5 ⟨v5, rfl, hn5, hb5⟩
          have HB5 := Lib.hid (below_later hb5 HB4.out)
          have HM5 := Lib.hid (HM4.out.later hb5)
          have HN5 := Lib.hid (HN4.out.later hb5)
          have HY := Lib.hid (coreCheck_any U v5 _ hn5 (by omega))
          clear hb5 hn5
          rw [HC2.out] at HY
          unfold checkV at HY
          go_wp2_with fail
          refine HY.out.mono ?_
          rintro e w6 ⟨rfl, hb6⟩
          have HB6 := Lib.hid (below_later hb6 HB5.out)
          have HM6 := Lib.hid (HM5.out.later hb6)
          have HN6 := Lib.hid (HN5.out.later hb6)
          clear hb6
          go_wp2_with fail
          refine (works_any _).mono ?_
          rintro e wz ⟨rfl, hbz⟩
          have HBZ := Lib.hid (below_later hbz HB6.out)
          clear hbz
          go_wp2_with fail
          go_ret
          exact ⟨rfl, HBZ.out⟩
        | ok t =>
          have HC2 := Lib.hid hc2
          have hcl1 := cl_of_check hc1
          have hcl2 := cl_of_check hc2
          have hs1 := str_size_le hcl1.fits
          have hs2 := str_size_le hcl2.fits
          have HA := Lib.hid hcl1
          have HB := Lib.hid hcl2
          clear hne1 hne2 hc1 hc2 hcl1 hcl2
          by_cases hl : 40 < s.str.size + t.str.size
          ·
            rw [HC1.out] at HX
            unfold checkV at HX
            go_wp2_with fail
            refine HX.out.mono ?_
            rintro e w4 ⟨rfl, hb4⟩
            have HB4 := Lib.hid (below_later hb4 HB3.out)
            have HM4 := Lib.hid (HM3.out.later hb4)
            have HN4 := Lib.hid (HN3.out.later hb4)
            clear hb4
            go_wp2_with fail
            refine (CopyNodes_any U _ _ HM4.out (by omega)).mono ?_
            rintro e w5 ⟨v5, rfl, hn5, hb5⟩
            have HB5 := Lib.hid (below_later hb5 HB4.out)
            have HM5 := Lib.hid (HM4.out.later hb5)
            have HN5 := Lib.hid (HN4.out.later hb5)
            have HY := Lib.hid (coreCheck_any U v5 _ hn5 (by omega))
            clear hb5 hn5
            rw [HC2.out] at HY
            unfold checkV at HY
            go_wp2_with fail
            refine HY.out.mono ?_
            rintro e w6 ⟨rfl, hb6⟩
            have HB6 := Lib.hid (below_later hb6 HB5.out)
            have HM6 := Lib.hid (HM5.out.later hb6)
            have HN6 := Lib.hid (HN5.out.later hb6)
            clear hb6
            go_wp2_with fail
            refine (works_any _).mono ?_
            rintro e wz ⟨rfl, hbz⟩
            have HBZ := Lib.hid (below_later hbz HB6.out)
            clear hbz
            go_wp2_with fail
            go_ret
            exact ⟨rfl, HBZ.out⟩
          rw [HC1.out] at HX
          unfold checkV at HX
          go_wp2_with fail
          refine HX.out.mono ?_
          rintro e w4 ⟨rfl, hb4⟩
          have HB4 := Lib.hid (below_later hb4 HB3.out)
          have HM4 := Lib.hid (HM3.out.later hb4)
          have HN4 := Lib.hid (HN3.out.later hb4)
          clear hb4
          go_wp2_with fail
          refine (CopyNodes_any U _ _ HM4.out (by omega)).mono ?_
          rintro e w5 ⟨v5, rfl, hn5, hb5⟩
          have HB5 := Lib.hid (below_later hb5 HB4.out)
          have HM5 := Lib.hid (HM4.out.later hb5)
          have HN5 := Lib.hid (HN4.out.later hb5)
          have HY := Lib.hid (coreCheck_any U v5 _ hn5 (by omega))
          clear hb5 hn5
          rw [HC2.out] at HY
          unfold checkV at HY
          go_wp2_with fail
          refine HY.out.mono ?_
          rintro e w6 ⟨rfl, hb6⟩
          have HB6 := Lib.hid (below_later hb6 HB5.out)
          have HM6 := Lib.hid (HM5.out.later hb6)
          have HN6 := Lib.hid (HN5.out.later hb6)
          clear hb6
          go_wp2_with fail
          refine (deep_any T _ _ HN6.out (by omega)).mono ?_
          rintro e w7 ⟨d1, rfl, hb7⟩
          have HB7 := Lib.hid (below_later hb7 HB6.out)
          have HM7 := Lib.hid (HM6.out.later hb7)
          have HN7 := Lib.hid (HN6.out.later hb7)
          clear hb7
          by_cases hd1 : 50 < d1
          ·
            go_wp2_with fail
            refine (works_any _).mono ?_
            rintro e wz ⟨rfl, hbz⟩
            have HBZ := Lib.hid (below_later hbz HB7.out)
            clear hbz
            go_wp2_with fail
            go_ret
            exact ⟨rfl, HBZ.out⟩
          go_wp2_with fail
          refine (deep_any U _ _ HM7.out (by omega)).mono ?_
          rintro e w8 ⟨d2, rfl, hb8⟩
          have HB8 := Lib.hid (below_later hb8 HB7.out)
          have HM8 := Lib.hid (HM7.out.later hb8)
          have HN8 := Lib.hid (HN7.out.later hb8)
          clear hb8
          by_cases hd2 : 50 < d2
          ·
            go_wp2_with fail
            refine (works_any _).mono ?_
            rintro e wz ⟨rfl, hbz⟩
            have HBZ := Lib.hid (below_later hbz HB8.out)
            clear hbz
            go_wp2_with fail
            go_ret
            exact ⟨rfl, HBZ.out⟩
          have hl1 := cl_pos HA.out
          have hl2 := cl_pos HB.out
          have HK8 : Hid (Kept w [(.slice A1 T.length c1, T), (.slice A2 U.length c2, U)] w8) := Lib.hid ⟨HB8.out, by simpa using ⟨HN8.out, HM8.out⟩⟩
          have hle : s.enc.length + t.enc.length ≤ 40 := by rw [str_size, str_size] at hl; omega
          clear HB0 HB1 HB2 HB3 HB4 HB5 HB6 HB7 HB8 HN8 HM8 HN7 HM7 HN6 HM6 HN5 HM5 HN4 HM4 HN3 HM3 HN2 HM2 HN1 HM1 HN HM HX HY HC1 HC2
          go_wp2_with fail
          refine (show Calls Try.prog 17 #[(kd 18 : Nd).val, .slice (some ⟨w8.heap.size, 0, none⟩) 2 2] _ _ from node2 HK8.out (kd 18) _ _ _ _ List.mem_cons_self (List.mem_cons_of_mem _ List.mem_cons_self) (by first | (simp [over]; done) | (simp [over]; omega) | omega) (by first | (simp [over]; done) | (simp [over]; omega) | omega) (by first | (simp [over]; done) | (simp [over]; omega) | omega) (by first | (simp [over]; done) | (simp [over]; omega) | omega) _ (by simp)).mono ?_
          rintro e w9 ⟨b9, o9, n9, c9, rfl, hk⟩
          have HK9 := Lib.hid hk
          clear hk
          have HP := Lib.hid (pair_cl HA.out HB.out hle)
          go_wp2_with fail
          refine (show Calls Try.prog 17 #[(⟨5, 0, 0, no, s.str, t.str, 0, 0⟩ : Nd).val, .slice (some ⟨w9.heap.size, 0, none⟩) 1 1] _ _ from node1 HK9.out (⟨5, 0, 0, no, s.str, t.str, 0, 0⟩) _ _ (List.mem_cons_of_mem _ (List.mem_cons_of_mem _ List.mem_cons_self)) (by first | (simp [over]; done) | (simp [over]; omega) | omega) (by first | (simp [over]; done) | (simp [over]; omega) | omega) _ (by simp)).mono ?_
          rintro e w10 ⟨b10, o10, n10, c10, rfl, hk⟩
          have HK10 := Lib.hid hk
          clear hk
          have HF := Lib.hid (fn_cl HA.out.fits HB.out hle)
          go_wp2_with fail
          refine (show Calls Try.prog 17 #[(kd 7 : Nd).val, .slice (some ⟨w10.heap.size + 2, 0, none⟩) 2 2] _ _ from node2 ((HK10.out.lit 4 0 1 no no no 0 0 (w10.heap.size) (by simp)).lit 4 0 0 no no no 0 0 (w10.heap.size + 1) (by simp)) (kd 7) _ _ _ _ (List.mem_cons_of_mem _ List.mem_cons_self) List.mem_cons_self (by first | (simp [over]; done) | (simp [over]; omega) | omega) (by first | (simp [over]; done) | (simp [over]; omega) | omega) (by first | (simp [over]; done) | (simp [over]; omega) | omega) (by first | (simp [over]; done) | (simp [over]; omega) | omega) _ (by simp)).mono ?_
          rintro e w11 ⟨b11, o11, n11, c11, rfl, hk⟩
          have HK11 := Lib.hid hk
          clear hk
          go_wp2_with fail
          refine (show Calls Try.prog 17 #[(⟨6, 0, 0, no, s.str, t.str, 0, 0⟩ : Nd).val, .slice (some ⟨w11.heap.size, 0, none⟩) 1 1] _ _ from node1 HK11.out (⟨6, 0, 0, no, s.str, t.str, 0, 0⟩) _ _ List.mem_cons_self (by first | (simp [over]; done) | (simp [over]; omega) | omega) (by first | (simp [over]; done) | (simp [over]; omega) | omega) _ (by simp)).mono ?_
          rintro e w12 ⟨b12, o12, n12, c12, rfl, hk⟩
          have HK12 := Lib.hid hk
          clear hk
          have HO := Lib.hid (own_cl HA.out.fits HB.out.fits hle)
          go_wp2_with fail
          have h0 := is_in HK12.out _ _ (({ data := #[44] } ++ s.str) ++ t.str) (List.mem_cons_of_mem _ (List.mem_cons_of_mem _ (List.mem_cons_of_mem _ (List.mem_cons_of_mem _ (List.mem_cons_of_mem _ List.mem_cons_self))))) (HP.out)
          have h1 := h0 (by first | (simp [over]; done) | (simp [over]; omega) | omega) (str_pair s t)
          clear h0
          (with_reducible refine h1.mono ?_)
          clear h1
          rintro e w13 ⟨rfl, hk⟩
          have HK13 := Lib.hid hk
          clear hk
          go_wp2_with fail
          refine (show Calls Try.prog 17 #[(kd 19 : Nd).val, .slice (some ⟨w13.heap.size, 0, none⟩) 1 1] _ _ from node1 HK13.out (kd 19) _ _ (List.mem_cons_of_mem _ (List.mem_cons_of_mem _ (List.mem_cons_of_mem _ (List.mem_cons_of_mem _ (List.mem_cons_of_mem _ List.mem_cons_self))))) (by first | (simp [over]; done) | (simp [over]; omega) | omega) (by first | (simp [over]; done) | (simp [over]; omega) | omega) _ (by simp)).mono ?_
          rintro e w14 ⟨b14, o14, n14, c14, rfl, hk⟩
          have HK14 := Lib.hid hk
          clear hk
          go_wp2_with fail
          have h0 := is_in HK14.out _ _ (s.str) List.mem_cons_self (first_cl HP.out)
          have h1 := h0 (by first | (simp [over]; done) | (simp [over]; omega) | omega) (rfl)
          clear h0
          (with_reducible refine h1.mono ?_)
          clear h1
          rintro e w15 ⟨rfl, hk⟩
          have HK15 := Lib.hid hk
          clear hk
          have HK15 := Lib.hid HK15.out.drop
          go_wp2_with fail
          refine (show Calls Try.prog 17 #[(kd 20 : Nd).val, .slice (some ⟨w15.heap.size, 0, none⟩) 1 1] _ _ from node1 HK15.out (kd 20) _ _ (List.mem_cons_of_mem _ (List.mem_cons_of_mem _ (List.mem_cons_of_mem _ (List.mem_cons_of_mem _ (List.mem_cons_of_mem _ List.mem_cons_self))))) (by first | (simp [over]; done) | (simp [over]; omega) | omega) (by first | (simp [over]; done) | (simp [over]; omega) | omega) _ (by simp)).mono ?_
          rintro e w16 ⟨b16, o16, n16, c16, rfl, hk⟩
          have HK16 := Lib.hid hk
          clear hk
          go_wp2_with fail
          have h0 := is_in HK16.out _ _ (t.str) List.mem_cons_self (second_cl HP.out)
          have h1 := h0 (by first | (simp [over]; done) | (simp [over]; omega) | omega) (rfl)
          clear h0
          (with_reducible refine h1.mono ?_)
          clear h1
          rintro e w17 ⟨rfl, hk⟩
          have HK17 := Lib.hid hk
          clear hk
          have HK17 := Lib.hid HK17.out.drop
          go_wp2_with fail
          have h0 := is_in HK17.out _ _ (({ data := #[62] } ++ s.str) ++ t.str) (List.mem_cons_of_mem _ (List.mem_cons_of_mem _ (List.mem_cons_of_mem _ (List.mem_cons_of_mem _ List.mem_cons_self)))) (HF.out)
          have h1 := h0 (by first | (simp [over]; done) | (simp [over]; omega) | omega) (str_fn s t)
          clear h0
          (with_reducible refine h1.mono ?_)
          clear h1
          rintro e w18 ⟨rfl, hk⟩
          have HK18 := Lib.hid hk
          clear hk
          go_wp2_with fail
          have h0 := is_in HK18.out _ _ (({ data := #[62] } ++ s.str) ++ t.str) List.mem_cons_self (HO.out)
          have h1 := h0 (by first | (simp [over]; done) | (simp [over]; omega) | omega) (str_fn s t)
          clear h0
          (with_reducible refine h1.mono ?_)
          clear h1
          rintro e w19 ⟨rfl, hk⟩
          have HK19 := Lib.hid hk
          clear hk
          have HK19 := Lib.hid HK19.out.drop.drop.drop.drop
          go_wp2_with fail
          refine (show Calls Try.prog 17 #[(kd 7 : Nd).val, .slice (some ⟨w19.heap.size, 0, none⟩) 2 2] _ _ from node2 HK19.out (kd 7) _ _ _ _ List.mem_cons_self (List.mem_cons_of_mem _ (List.mem_cons_of_mem _ List.mem_cons_self)) (by first | (simp [over]; done) | (simp [over]; omega) | omega) (by first | (simp [over]; done) | (simp [over]; omega) | omega) (by first | (simp [over]; done) | (simp [over]; omega) | omega) (by first | (simp [over]; done) | (simp [over]; omega) | omega) _ (by simp)).mono ?_
          rintro e w20 ⟨b20, o20, n20, c20, rfl, hk⟩
          have HK20 := Lib.hid hk
          clear hk
          go_wp2_with fail
          have h0 := is_in HK20.out _ _ (t.str) List.mem_cons_self (call_cl HF.out HA.out)
          have h1 := h0 (by first | (simp [over]; done) | (simp [over]; omega) | omega) (rfl)
          clear h0
          (with_reducible refine h1.mono ?_)
          clear h1
          rintro e w21 ⟨rfl, hk⟩
          have HK21 := Lib.hid hk
          clear hk
          have HK21 := Lib.hid HK21.out.drop
          go_wp2_with fail
          refine (show Calls Try.prog 17 #[(kd 8 : Nd).val, .slice (some ⟨w21.heap.size, 0, none⟩) 2 2] _ _ from node2 HK21.out (kd 8) _ _ _ _ (List.mem_cons_of_mem _ (List.mem_cons_of_mem _ List.mem_cons_self)) (List.mem_cons_of_mem _ (List.mem_cons_of_mem _ (List.mem_cons_of_mem _ List.mem_cons_self))) (by first | (simp [over]; done) | (simp [over]; omega) | omega) (by first | (simp [over]; done) | (simp [over]; omega) | omega) (by first | (simp [over]; done) | (simp [over]; omega) | omega) (by first | (simp [over]; done) | (simp [over]; omega) | omega) _ (by simp)).mono ?_
          rintro e w22 ⟨b22, o22, n22, c22, rfl, hk⟩
          have HK22 := Lib.hid hk
          clear hk
          go_wp2_with fail
          have h0 := is_in HK22.out _ _ (t.str) List.mem_cons_self (let_cl HA.out HB.out)
          have h1 := h0 (by first | (simp [over]; done) | (simp [over]; omega) | omega) (rfl)
          clear h0
          (with_reducible refine h1.mono ?_)
          clear h1
          rintro e w23 ⟨rfl, hk⟩
          have HK23 := Lib.hid hk
          clear hk
          have HK23 := Lib.hid HK23.out.drop
          go_wp2_with fail
          refine (show Calls Try.prog 17 #[(kd 8 : Nd).val, .slice (some ⟨w23.heap.size + 1, 0, none⟩) 2 2] _ _ from node2 (HK23.out.lit 4 0 0 no no no 0 0 (w23.heap.size) (by simp)) (kd 8) _ _ _ _ (List.mem_cons_of_mem _ (List.mem_cons_of_mem _ (List.mem_cons_of_mem _ List.mem_cons_self))) List.mem_cons_self (by first | (simp [over]; done) | (simp [over]; omega) | omega) (by first | (simp [over]; done) | (simp [over]; omega) | omega) (by first | (simp [over]; done) | (simp [over]; omega) | omega) (by first | (simp [over]; done) | (simp [over]; omega) | omega) _ (by simp)).mono ?_
          rintro e w24 ⟨b24, o24, n24, c24, rfl, hk⟩
          have HK24 := Lib.hid hk
          clear hk
          go_wp2_with fail
          have h0 := is_in HK24.out _ _ (s.str) List.mem_cons_self (letv_cl HA.out)
          have h1 := h0 (by first | (simp [over]; done) | (simp [over]; omega) | omega) (rfl)
          clear h0
          (with_reducible refine h1.mono ?_)
          clear h1
          rintro e w25 ⟨rfl, hk⟩
          have HK25 := Lib.hid hk
          clear hk
          have HK25 := Lib.hid HK25.out.drop.drop
          go_wp2_with fail
          refine (show Calls Try.prog 17 #[(⟨21, 0, 0, no, s.str, no, 0, 0⟩ : Nd).val, .slice (some ⟨w25.heap.size, 0, none⟩) 2 2] _ _ from node2 HK25.out (⟨21, 0, 0, no, s.str, no, 0, 0⟩) _ _ _ _ (List.mem_cons_of_mem _ (List.mem_cons_of_mem _ List.mem_cons_self)) (List.mem_cons_of_mem _ (List.mem_cons_of_mem _ List.mem_cons_self)) (by first | (simp [over]; done) | (simp [over]; omega) | omega) (by first | (simp [over]; done) | (simp [over]; omega) | omega) (by first | (simp [over]; done) | (simp [over]; omega) | omega) (by first | (simp [over]; done) | (simp [over]; omega) | omega) _ (by simp)).mono ?_
          rintro e w26 ⟨b26, o26, n26, c26, rfl, hk⟩
          have HK26 := Lib.hid hk
          clear hk
          have HL := Lib.hid (list_cl HA.out HA.out (by omega))
          go_wp2_with fail
          have h0 := is_in HK26.out _ _ ({ data := #[108] } ++ s.str) List.mem_cons_self (HL.out)
          have h1 := h0 (by first | (simp [over]; done) | (simp [over]; omega) | omega) (str_list1 s)
          clear h0
          (with_reducible refine h1.mono ?_)
          clear h1
          rintro e w27 ⟨rfl, hk⟩
          have HK27 := Lib.hid hk
          clear hk
          go_wp2_with fail
          refine (show Calls Try.prog 17 #[(kd 22 : Nd).val, .slice (some ⟨w27.heap.size, 0, none⟩) 1 1] _ _ from node1 HK27.out (kd 22) _ _ List.mem_cons_self (by first | (simp [over]; done) | (simp [over]; omega) | omega) (by first | (simp [over]; done) | (simp [over]; omega) | omega) _ (by simp)).mono ?_
          rintro e w28 ⟨b28, o28, n28, c28, rfl, hk⟩
          have HK28 := Lib.hid hk
          clear hk
          go_wp2_with fail
          have h0 := is_in HK28.out _ _ (s.str) List.mem_cons_self (head_cl HL.out)
          have h1 := h0 (by first | (simp [over]; done) | (simp [over]; omega) | omega) (rfl)
          clear h0
          (with_reducible refine h1.mono ?_)
          clear h1
          rintro e w29 ⟨rfl, hk⟩
          have HK29 := Lib.hid hk
          clear hk
          have HK29 := Lib.hid HK29.out.drop
          go_wp2_with fail
          refine (show Calls Try.prog 17 #[(kd 23 : Nd).val, .slice (some ⟨w29.heap.size, 0, none⟩) 1 1] _ _ from node1 HK29.out (kd 23) _ _ List.mem_cons_self (by first | (simp [over]; done) | (simp [over]; omega) | omega) (by first | (simp [over]; done) | (simp [over]; omega) | omega) _ (by simp)).mono ?_
          rintro e w30 ⟨b30, o30, n30, c30, rfl, hk⟩
          have HK30 := Lib.hid hk
          clear hk
          go_wp2_with fail
          have h0 := is_in HK30.out _ _ ({ data := #[108] } ++ s.str) List.mem_cons_self (tail_cl HL.out)
          have h1 := h0 (by first | (simp [over]; done) | (simp [over]; omega) | omega) (str_list1 s)
          clear h0
          (with_reducible refine h1.mono ?_)
          clear h1
          rintro e w31 ⟨rfl, hk⟩
          have HK31 := Lib.hid hk
          clear hk
          have HK31 := Lib.hid HK31.out.drop
          go_wp2_with fail
          refine (show Calls Try.prog 17 #[(kd 24 : Nd).val, .slice (some ⟨w31.heap.size, 0, none⟩) 1 1] _ _ from node1 HK31.out (kd 24) _ _ List.mem_cons_self (by first | (simp [over]; done) | (simp [over]; omega) | omega) (by first | (simp [over]; done) | (simp [over]; omega) | omega) _ (by simp)).mono ?_
          rintro e w32 ⟨b32, o32, n32, c32, rfl, hk⟩
          have HK32 := Lib.hid hk
          clear hk
          go_wp2_with fail
          have h0 := is_in HK32.out _ _ ({ data := #[98] }) List.mem_cons_self (empty_cl HL.out)
          have h1 := h0 (by first | (simp [over]; done) | (simp [over]; omega) | omega) (rfl)
          clear h0
          (with_reducible refine h1.mono ?_)
          clear h1
          rintro e w33 ⟨rfl, hk⟩
          have HK33 := Lib.hid hk
          clear hk
          have HK33 := Lib.hid HK33.out.drop
          go_wp2_with fail
          refine (show Calls Try.prog 17 #[(kd 26 : Nd).val, .slice (some ⟨w33.heap.size, 0, none⟩) 1 1] _ _ from node1 HK33.out (kd 26) _ _ (List.mem_cons_of_mem _ (List.mem_cons_of_mem _ (List.mem_cons_of_mem _ List.mem_cons_self))) (by first | (simp [over]; done) | (simp [over]; omega) | omega) (by first | (simp [over]; done) | (simp [over]; omega) | omega) _ (by simp)).mono ?_
          rintro e w34 ⟨b34, o34, n34, c34, rfl, hk⟩
          have HK34 := Lib.hid hk
          clear hk
          have HX := Lib.hid (box_cl HA.out (by omega))
          go_wp2_with fail
          have h0 := is_in HK34.out _ _ ({ data := #[120] } ++ s.str) List.mem_cons_self (HX.out)
          have h1 := h0 (by first | (simp [over]; done) | (simp [over]; omega) | omega) (str_box1 s)
          clear h0
          (with_reducible refine h1.mono ?_)
          clear h1
          rintro e w35 ⟨rfl, hk⟩
          have HK35 := Lib.hid hk
          clear hk
          go_wp2_with fail
          refine (show Calls Try.prog 17 #[(kd 27 : Nd).val, .slice (some ⟨w35.heap.size, 0, none⟩) 1 1] _ _ from node1 HK35.out (kd 27) _ _ List.mem_cons_self (by first | (simp [over]; done) | (simp [over]; omega) | omega) (by first | (simp [over]; done) | (simp [over]; omega) | omega) _ (by simp)).mono ?_
          rintro e w36 ⟨b36, o36, n36, c36, rfl, hk⟩
          have HK36 := Lib.hid hk
          clear hk
          go_wp2_with fail
          have h0 := is_in HK36.out _ _ (s.str) List.mem_cons_self (get_cl HX.out)
          have h1 := h0 (by first | (simp [over]; done) | (simp [over]; omega) | omega) (rfl)
          clear h0
          (with_reducible refine h1.mono ?_)
          clear h1
          rintro e w37 ⟨rfl, hk⟩
          have HK37 := Lib.hid hk
          clear hk
          have HK37 := Lib.hid HK37.out.drop
          by_cases hst : s = t
          · subst hst
            have heq : (s.str.toList == s.str.toList) = true := by simp
            go_wp2_with fail
            refine (show Calls Try.prog 17 #[(kd 25 : Nd).val, .slice (some ⟨w37.heap.size + 1, 0, none⟩) 2 2] _ _ from node2 (HK37.out.lit 3 0 1 no no no 0 0 (w37.heap.size) (by simp)) (kd 25) _ _ _ _ (List.mem_cons_of_mem _ (List.mem_cons_of_mem _ (List.mem_cons_of_mem _ (List.mem_cons_of_mem _ (List.mem_cons_of_mem _ (List.mem_cons_of_mem _ List.mem_cons_self)))))) (List.mem_cons_of_mem _ (List.mem_cons_of_mem _ List.mem_cons_self)) (by first | (simp [over]; done) | (simp [over]; omega) | omega) (by first | (simp [over]; done) | (simp [over]; omega) | omega) (by first | (simp [over]; done) | (simp [over]; omega) | omega) (by first | (simp [over]; done) | (simp [over]; omega) | omega) _ (by simp)).mono ?_
            rintro e w38 ⟨b38, o38, n38, c38, rfl, hk⟩
            have HK38 := Lib.hid hk
            clear hk
            go_wp2_with fail
            have h0 := is_in HK38.out _ _ ({ data := #[108] } ++ s.str) List.mem_cons_self (cons_cl HB.out HL.out)
            have h1 := h0 (by first | (simp [over]; done) | (simp [over]; omega) | omega) (str_list1 s)
            clear h0
            (with_reducible refine h1.mono ?_)
            clear h1
            rintro e w39 ⟨rfl, hk⟩
            have HK39 := Lib.hid hk
            clear hk
            have HK39 := Lib.hid HK39.out.drop
            go_wp2_with fail
            refine (show Calls Try.prog 17 #[(kd 28 : Nd).val, .slice (some ⟨w39.heap.size, 0, none⟩) 2 2] _ _ from node2 HK39.out (kd 28) _ _ _ _ (List.mem_cons_of_mem _ List.mem_cons_self) (List.mem_cons_of_mem _ (List.mem_cons_of_mem _ (List.mem_cons_of_mem _ (List.mem_cons_of_mem _ (List.mem_cons_of_mem _ (List.mem_cons_of_mem _ List.mem_cons_self)))))) (by first | (simp [over]; done) | (simp [over]; omega) | omega) (by first | (simp [over]; done) | (simp [over]; omega) | omega) (by first | (simp [over]; done) | (simp [over]; omega) | omega) (by first | (simp [over]; done) | (simp [over]; omega) | omega) _ (by simp)).mono ?_
            rintro e w40 ⟨b40, o40, n40, c40, rfl, hk⟩
            have HK40 := Lib.hid hk
            clear hk
            go_wp2_with fail
            have h0 := is_in HK40.out _ _ (s.str) List.mem_cons_self (set_cl HX.out HB.out)
            have h1 := h0 (by first | (simp [over]; done) | (simp [over]; omega) | omega) (rfl)
            clear h0
            (with_reducible refine h1.mono ?_)
            clear h1
            rintro e w41 ⟨rfl, hk⟩
            have HK41 := Lib.hid hk
            clear hk
            have HK41 := Lib.hid HK41.out.drop
            go_wp2_with fail
            refine (show Calls Try.prog 17 #[(kd 9 : Nd).val, .slice (some ⟨w41.heap.size, 0, none⟩) 3 3] _ _ from node3 HK41.out (kd 9) _ _ _ _ _ _ List.mem_cons_self (List.mem_cons_of_mem _ (List.mem_cons_of_mem _ (List.mem_cons_of_mem _ (List.mem_cons_of_mem _ (List.mem_cons_of_mem _ List.mem_cons_self))))) (List.mem_cons_of_mem _ (List.mem_cons_of_mem _ (List.mem_cons_of_mem _ (List.mem_cons_of_mem _ (List.mem_cons_of_mem _ (List.mem_cons_of_mem _ List.mem_cons_self)))))) (by first | (simp [over]; done) | (simp [over]; omega) | omega) (by first | (simp [over]; done) | (simp [over]; omega) | omega) (by first | (simp [over]; done) | (simp [over]; omega) | omega) (by first | (simp [over]; done) | (simp [over]; omega) | omega) (by first | (simp [over]; done) | (simp [over]; omega) | omega) (by first | (simp [over]; done) | (simp [over]; omega) | omega) _ (by simp)).mono ?_
            rintro e w42 ⟨b42, o42, n42, c42, rfl, hk⟩
            have HK42 := Lib.hid hk
            clear hk
            go_wp2_with fail
            have h0 := is_in HK42.out _ _ (s.str) List.mem_cons_self (if_cl truth_cl HA.out HB.out)
            have h1 := h0 (by first | (simp [over]; done) | (simp [over]; omega) | omega) (rfl)
            clear h0
            (with_reducible refine h1.mono ?_)
            clear h1
            rintro e w43 ⟨rfl, hk⟩
            have HK43 := Lib.hid hk
            clear hk
            have HK43 := Lib.hid HK43.out.drop
            go_wp2_with fail
            refine (works_any _).mono ?_
            rintro e wz ⟨rfl, hbz⟩
            have HBZ := Lib.hid (below_later hbz HK43.out.below)
            clear hbz
            go_wp2_with fail
            go_ret
            exact ⟨rfl, HBZ.out⟩
          · have heq : (s.str.toList == t.str.toList) = false := str_ne hst
            have HNE := Lib.hid hst
            clear hst
            go_wp2_with fail
            refine (show Calls Try.prog 17 #[(⟨21, 0, 0, no, s.str, no, 0, 0⟩ : Nd).val, .slice (some ⟨w37.heap.size, 0, none⟩) 2 2] _ _ from node2 HK37.out (⟨21, 0, 0, no, s.str, no, 0, 0⟩) _ _ _ _ (List.mem_cons_of_mem _ (List.mem_cons_of_mem _ (List.mem_cons_of_mem _ (List.mem_cons_of_mem _ List.mem_cons_self)))) (List.mem_cons_of_mem _ (List.mem_cons_of_mem _ (List.mem_cons_of_mem _ (List.mem_cons_of_mem _ (List.mem_cons_of_mem _ List.mem_cons_self))))) (by first | (simp [over]; done) | (simp [over]; omega) | omega) (by first | (simp [over]; done) | (simp [over]; omega) | omega) (by first | (simp [over]; done) | (simp [over]; omega) | omega) (by first | (simp [over]; done) | (simp [over]; omega) | omega) _ (by simp)).mono ?_
            rintro e w38 ⟨b38, o38, n38, c38, rfl, hk⟩
            have HK38 := Lib.hid hk
            clear hk
            go_wp2_with fail
            have h0 := refused_in HK38.out _ _ List.mem_cons_self (list_no HA.out HB.out HNE.out (by first | (simp [over]; done) | (simp [over]; omega) | omega))
            have h1 := h0 (by first | (simp [over]; done) | (simp [over]; omega) | omega)
            clear h0
            (with_reducible refine h1.mono ?_)
            clear h1
            rintro e w39 ⟨rfl, hk⟩
            have HK39 := Lib.hid hk
            clear hk
            have HK39 := Lib.hid HK39.out.drop
            go_wp2_with fail
            refine (show Calls Try.prog 17 #[(kd 25 : Nd).val, .slice (some ⟨w39.heap.size, 0, none⟩) 2 2] _ _ from node2 HK39.out (kd 25) _ _ _ _ (List.mem_cons_of_mem _ (List.mem_cons_of_mem _ (List.mem_cons_of_mem _ (List.mem_cons_of_mem _ (List.mem_cons_of_mem _ List.mem_cons_self))))) (List.mem_cons_of_mem _ List.mem_cons_self) (by first | (simp [over]; done) | (simp [over]; omega) | omega) (by first | (simp [over]; done) | (simp [over]; omega) | omega) (by first | (simp [over]; done) | (simp [over]; omega) | omega) (by first | (simp [over]; done) | (simp [over]; omega) | omega) _ (by simp)).mono ?_
            rintro e w40 ⟨b40, o40, n40, c40, rfl, hk⟩
            have HK40 := Lib.hid hk
            clear hk
            go_wp2_with fail
            have h0 := refused_in HK40.out _ _ List.mem_cons_self (cons_no HB.out HL.out HNE.out (by first | (simp [over]; done) | (simp [over]; omega) | omega))
            have h1 := h0 (by first | (simp [over]; done) | (simp [over]; omega) | omega)
            clear h0
            (with_reducible refine h1.mono ?_)
            clear h1
            rintro e w41 ⟨rfl, hk⟩
            have HK41 := Lib.hid hk
            clear hk
            have HK41 := Lib.hid HK41.out.drop
            go_wp2_with fail
            refine (show Calls Try.prog 17 #[(kd 28 : Nd).val, .slice (some ⟨w41.heap.size, 0, none⟩) 2 2] _ _ from node2 HK41.out (kd 28) _ _ _ _ List.mem_cons_self (List.mem_cons_of_mem _ (List.mem_cons_of_mem _ (List.mem_cons_of_mem _ (List.mem_cons_of_mem _ (List.mem_cons_of_mem _ List.mem_cons_self))))) (by first | (simp [over]; done) | (simp [over]; omega) | omega) (by first | (simp [over]; done) | (simp [over]; omega) | omega) (by first | (simp [over]; done) | (simp [over]; omega) | omega) (by first | (simp [over]; done) | (simp [over]; omega) | omega) _ (by simp)).mono ?_
            rintro e w42 ⟨b42, o42, n42, c42, rfl, hk⟩
            have HK42 := Lib.hid hk
            clear hk
            go_wp2_with fail
            have h0 := refused_in HK42.out _ _ List.mem_cons_self (set_no HX.out HB.out HNE.out (by first | (simp [over]; done) | (simp [over]; omega) | omega))
            have h1 := h0 (by first | (simp [over]; done) | (simp [over]; omega) | omega)
            clear h0
            (with_reducible refine h1.mono ?_)
            clear h1
            rintro e w43 ⟨rfl, hk⟩
            have HK43 := Lib.hid hk
            clear hk
            have HK43 := Lib.hid HK43.out.drop
            go_wp2_with fail
            refine (show Calls Try.prog 17 #[(kd 7 : Nd).val, .slice (some ⟨w43.heap.size, 0, none⟩) 2 2] _ _ from node2 HK43.out (kd 7) _ _ _ _ (List.mem_cons_of_mem _ (List.mem_cons_of_mem _ List.mem_cons_self)) (List.mem_cons_of_mem _ (List.mem_cons_of_mem _ (List.mem_cons_of_mem _ (List.mem_cons_of_mem _ (List.mem_cons_of_mem _ List.mem_cons_self))))) (by first | (simp [over]; done) | (simp [over]; omega) | omega) (by first | (simp [over]; done) | (simp [over]; omega) | omega) (by first | (simp [over]; done) | (simp [over]; omega) | omega) (by first | (simp [over]; done) | (simp [over]; omega) | omega) _ (by simp)).mono ?_
            rintro e w44 ⟨b44, o44, n44, c44, rfl, hk⟩
            have HK44 := Lib.hid hk
            clear hk
            go_wp2_with fail
            have h0 := refused_in HK44.out _ _ List.mem_cons_self (Culp.call_no HF.out HB.out HNE.out (by first | (simp [over]; done) | (simp [over]; omega) | omega))
            have h1 := h0 (by first | (simp [over]; done) | (simp [over]; omega) | omega)
            clear h0
            (with_reducible refine h1.mono ?_)
            clear h1
            rintro e w45 ⟨rfl, hk⟩
            have HK45 := Lib.hid hk
            clear hk
            have HK45 := Lib.hid HK45.out.drop
            go_wp2_with fail
            refine (works_any _).mono ?_
            rintro e wz ⟨rfl, hbz⟩
            have HBZ := Lib.hid (below_later hbz HK45.out.below)
            clear hbz
            go_wp2_with fail
            go_ret
            exact ⟨rfl, HBZ.out⟩
end Go.Proofs.Ytnmhiddahfnkoaa

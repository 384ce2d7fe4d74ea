/- The walk of the statement CoreChecks. -/
import Derived.Test.YtnmhiddahfnkoaaHlpE
import Derived.Test.YtnmhiddahfnkoaaRefE
namespace Go.Proofs.Ytnmhiddahfnkoaa
set_option linter.unusedSimpArgs false
set_option linter.unusedVariables false
open Go.RowKit Culp

theorem wide_nodes {T : List Nd} {g : Nat} {w : World} (h : NodesAt w g 0 (T ++ marks T.length)) : Nodes w (.slice (some ⟨g, 0, none⟩) T.length (T.length + 64 : Nat)) T :=
  ⟨_, _, rfl, by omega, fun _ => ⟨g, 0, rfl, fun i x hx j u hu => h i x (by rw [List.getElem?_append_left (List.getElem?_eq_some_iff.1 hx).1]; exact hx) j u hu⟩⟩

set_option maxHeartbeats 1600000 in
theorem CoreChecks_any (T : List Nd) (tv : Value) (w : World) (hn : Nodes w tv T) (hT : T.length ≤ 1000000000000000) (hsz : ∀ x ∈ T, szOk x) : Calls Try.prog 3 #[tv] w (Makes (.bool true) w) := by
  have HN := Lib.hid hn
  have HSZ := Lib.hid hsz
  have HL := Lib.hid (long_any T tv w hn hT hsz)
  clear hn hsz
  go_enter Try.func3, Try.ntmps3
  go_wp2_with fail
  refine HL.out.mono ?_
  rintro e w1 ⟨b, rfl, hb, hb1⟩
  have HB1 := Lib.hid hb1
  clear hb1
  cases b with
  | true =>
    go_wp2_with fail
    refine (works_any _).mono ?_
    rintro e w2 ⟨rfl, hb2⟩
    have HB2 := Lib.hid (below_later hb2 HB1.out)
    clear hb2
    go_wp2_with fail
    go_ret
    exact ⟨rfl, HB2.out⟩
  | false =>
    have hlen := hb rfl
    have HN1 := Lib.hid (HN.out.later HB1.out)
    clear hb
    go_wp2_with fail
    refine (WideNodes_any T tv _ HN1.out (by omega)).mono ?_
    rintro e w2 ⟨g, rfl, hw2, hb2⟩
    have HB2 := Lib.hid (below_later hb2 HB1.out)
    have HN2 := Lib.hid (HN1.out.later hb2)
    have HW2 := Lib.hid hw2
    clear hb2 hw2
    go_wp2_with fail
    refine (coreCheck_any T _ _ (wide_nodes HW2.out) (by omega)).mono ?_
    rintro e w3 ⟨rfl, hb3⟩
    have HB3 := Lib.hid (below_later hb3 HB2.out)
    have HN3 := Lib.hid (HN2.out.later hb3)
    have HW3 := Lib.hid (HW2.out.later hb3)
    have hC := rCheck_any T tv w3 HN3.out (by omega) HSZ.out
    clear hb3
    unfold checkV at *
    cases hc : checkM T with
    | error fl =>
      obtain ⟨e0, p0⟩ := fl
      rw [hc] at hC
      have HC := Lib.hid hC
      clear hC hc
      go_wp2_with fail
      refine HC.out.mono ?_
      rintro e w4 ⟨rfl, hb4⟩
      have HB4 := Lib.hid (below_later hb4 HB3.out)
      have HN4 := Lib.hid (HN3.out.later hb4)
      have HW4 := Lib.hid (HW3.out.later hb4)
      clear hb4
      go_wp2_with fail
      refine (EqNodes_same T _ _ _ (wide_nodes HW4.out) HN4.out (by omega)).mono ?_
      rintro e w5 ⟨rfl, hb5⟩
      have HB5 := Lib.hid (below_later hb5 HB4.out)
      have HW5 := Lib.hid (HW4.out.later hb5)
      clear hb5
      go_wp2_with fail
      refine (SpareNodes_any T g _ HW5.out (by omega)).mono ?_
      rintro e w6 ⟨rfl, hb6⟩
      have HB6 := Lib.hid (below_later hb6 HB5.out)
      clear hb6
      go_wp2_with fail
      refine (works_any _).mono ?_
      rintro e w7 ⟨rfl, hb7⟩
      have HB7 := Lib.hid (below_later hb7 HB6.out)
      clear hb7
      go_wp2_with fail
      go_ret
      exact ⟨rfl, HB7.out⟩
    | ok t0 =>
      rw [hc] at hC
      have HC := Lib.hid hC
      clear hC hc
      go_wp2_with fail
      refine HC.out.mono ?_
      rintro e w4 ⟨rfl, hb4⟩
      have HB4 := Lib.hid (below_later hb4 HB3.out)
      have HN4 := Lib.hid (HN3.out.later hb4)
      have HW4 := Lib.hid (HW3.out.later hb4)
      clear hb4
      go_wp2_with fail
      refine (EqNodes_same T _ _ _ (wide_nodes HW4.out) HN4.out (by omega)).mono ?_
      rintro e w5 ⟨rfl, hb5⟩
      have HB5 := Lib.hid (below_later hb5 HB4.out)
      have HW5 := Lib.hid (HW4.out.later hb5)
      clear hb5
      go_wp2_with fail
      refine (SpareNodes_any T g _ HW5.out (by omega)).mono ?_
      rintro e w6 ⟨rfl, hb6⟩
      have HB6 := Lib.hid (below_later hb6 HB5.out)
      clear hb6
      go_wp2_with fail
      refine (works_any _).mono ?_
      rintro e w7 ⟨rfl, hb7⟩
      have HB7 := Lib.hid (below_later hb7 HB6.out)
      clear hb7
      go_wp2_with fail
      go_ret
      exact ⟨rfl, HB7.out⟩
end Go.Proofs.Ytnmhiddahfnkoaa

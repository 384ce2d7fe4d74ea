
/- The walks of the statements TreeArities and TreeChecks. -/
import Derived.Test.YtebameiaeldfiaaDoorTrR
import Derived.Test.YtebameiaeldfiaaDoorHlpB
namespace Go.Proofs.YtebameiaeldfiaaDoor
set_option linter.unusedSimpArgs false
set_option linter.unusedVariables false
open Go.RowKit Go.Maps Culp

theorem Long_is (n : Int) (w : World) : Calls Tryd.prog 9 #[.int .i64 n] w (Gives (.bool (decide (2147483647 < n))) w) := by
  go_enter Tryd.func9, Tryd.ntmps9
  go_wp2
  all_goals
    go_ret
    exact Gives.mk (bool_congr (by simp))
theorem wide_nodes {T : List Nd} {g : Nat} {w : World} (h : NodesAt w g 0 (T ++ marks T.length)) : Nodes w (.slice (some ⟨g, 0, none⟩) T.length (T.length + 64 : Nat)) T :=
  ⟨_, _, rfl, by omega, fun _ => ⟨g, 0, rfl, fun i x hx j u hu => h i x (by rw [List.getElem?_append_left (List.getElem?_eq_some_iff.1 hx).1]; exact hx) j u hu⟩⟩
theorem arV_is (k : Int) : arV k = .tuple #[.int .i64 (max (Tr.arit k) 0), .bool (decide (0 ≤ Tr.arit k))] := by
  unfold arV
  split
  · rename_i h
    rw [Int.max_eq_left h, decide_eq_true h]
  · rename_i h
    rw [Int.max_eq_right (by omega), decide_eq_false h]
set_option maxRecDepth 100000 in
set_option maxHeartbeats 1600000 in
theorem TreeArities_any (w : World) (hS : Sp w) : Calls Tryd.prog 4 #[] w (Makes (.bool true) w) := by
  have HS := Lib.hid hS
  clear hS
  go_enter Tryd.func4, Tryd.ntmps4
  go_wp2_with fail
  go_loopw [1] (fun i wr => ∃ k : Int, -128 ≤ k ∧ k ≤ 128 ∧ i = .int .i64 k ∧ w = wr) (fun i _ => (128 - intOf i).toNat)
  case atStart => exact ⟨-128, by omega, by omega, rfl, rfl⟩
  case round =>
    obtain ⟨k, hk0, hk1, rfl, rfl⟩ := hrel
    by_cases hlt : k < 128
    · have r1 : IntKind.i8.wrap k = k := IntWalk.i8_in _ (by omega)
      go_wp2_with fail
      refine (tArity_any k _).mono ?_
      rintro e w' ⟨rfl, rfl⟩
      go_wp2_with fail
      refine (rArity_any k _).mono ?_
      rw [arV_is]
      rintro e w' ⟨rfl, rfl⟩
      generalize max (Tr.arit k) 0 = a at *
      generalize decide (0 ≤ Tr.arit k) = b at *
      go_wp2_with fail
      go_roundw
      case rel => exact ⟨k + 1, by omega, by omega, rfl, trivial⟩
      case measure => simp [intOf]; omega
    · go_wp2_with fail
      refine (works_any _ HS.out).mono ?_
      rintro e w1 ⟨rfl, hb1⟩
      have HB1 := Lib.hid hb1
      clear hb1
      go_wp2_with fail
      go_ret
      exact Makes.mk rfl HB1.out
set_option maxRecDepth 100000 in
set_option maxHeartbeats 1600000 in
theorem TreeChecks_any (T : List Nd) (tv : Value) (w : World) (hn : Nodes w tv T) (hS : Sp w) (hT : T.length ≤ 1000000000000000) (hsz : ∀ x ∈ T, szOk x) (hk : ∀ x ∈ T, x.kids ≤ 9223372036854775807) : Calls Tryd.prog 3 #[tv] w (Makes (.bool true) w) := by
  have HN := Lib.hid hn
  have HS := Lib.hid hS
  have HSZ := Lib.hid hsz
  have HK := Lib.hid hk
  obtain ⟨A, c, rfl, _, _⟩ := hn
  clear hS hsz hk
  go_enter Tryd.func3, Tryd.ntmps3
  go_wp2_with fail
  refine (works_any _ HS.out).mono ?_
  rintro e w1 ⟨rfl, hb1⟩
  have HB1 := Lib.hid hb1
  clear hb1
  go_wp2_with fail
  refine (SizeNodes_ge T _ _ (HN.out.later HB1.out) hT HSZ.out).mono ?_
  rintro e w2 ⟨v, hv0, hv1, rfl, hb2⟩
  have HB2 := Lib.hid (below_later hb2 HB1.out)
  clear hb2
  go_wp2_with fail
  refine (Long_is v _).mono ?_
  rintro e w2' ⟨rfl, rfl⟩
  by_cases hbig : 2147483647 < v
  · clear hv1
    go_wp2_with fail
    go_ret
    exact Makes.mk rfl HB2.out
  have hlen : T.length ≤ 2147483647 := by omega
  have HZ : Hid (∀ x ∈ T, x.s.size ≤ 140737488351232) := Lib.hid (fun x hx => by have := hv1 (by omega) x hx; omega)
  clear hv1 hv0
  go_wp2_with fail
  refine (WideNodes_any T _ _ (HN.out.later HB2.out) (by omega)).mono ?_
  rintro e w3 ⟨g, rfl, hw3, hb3⟩
  have HB3 := Lib.hid (below_later hb3 HB2.out)
  have HW3 := Lib.hid hw3
  clear hw3 hb3
  go_wp2_with fail
  refine (tCheck_any T _ _ (wide_nodes HW3.out) (HS.out.later HB3.out) HZ.out HK.out).mono ?_
  rintro e w4 ⟨rfl, hb4⟩
  have HB4 := Lib.hid (below_later hb4 HB3.out)
  have HW4 := Lib.hid (HW3.out.later hb4)
  clear hb4
  generalize hc1 : (Tr.check T).1 = c1 at *
  generalize hc2 : (Tr.check T).2 = c2 at *
  have HC1 := Lib.hid hc1
  have HC2 := Lib.hid hc2
  clear hc1 hc2
  go_wp2_with fail
  refine (rCheck_any T _ _ (HN.out.later HB4.out) HZ.out HK.out).mono ?_
  rw [HC1.out, HC2.out]
  rintro e w5 ⟨rfl, hb5⟩
  have HB5 := Lib.hid (below_later hb5 HB4.out)
  have HW5 := Lib.hid (HW4.out.later hb5)
  clear hb5
  go_wp2_with fail
  refine (EqNodes_same T _ _ _ (wide_nodes HW5.out) (HN.out.later HB5.out) (by omega)).mono ?_
  rintro e w6 ⟨rfl, hb6⟩
  have HB6 := Lib.hid (below_later hb6 HB5.out)
  have HW6 := Lib.hid (HW5.out.later hb6)
  clear hb6
  go_wp2_with fail
  refine (SpareNodes_any T g _ HW6.out (by omega)).mono ?_
  rintro e w7 ⟨rfl, hb7⟩
  have HB7 := Lib.hid (below_later hb7 HB6.out)
  clear hb7
  go_wp2_with fail
  go_ret
  exact Makes.mk rfl HB7.out
end Go.Proofs.YtebameiaeldfiaaDoor

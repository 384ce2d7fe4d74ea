/- Walks of the reference of package text: blanks, places. -/
import Derived.Test.YtenbecjnlgmkeaaDoorTxX
namespace Go.Proofs.YtenbecjnlgmkeaaDoor
set_option linter.unusedSimpArgs false
set_option linter.unusedVariables false
open Go.RowKit Go.Maps Culp

set_option maxRecDepth 100000 in
set_option maxHeartbeats 1600000 in
theorem rBehind_any (s : ByteArray) (sv : Value) (at_ : Nat) (w : World) (hb : BytesV w sv s) (hat : at_ ≤ s.size) (hs : s.size ≤ 1000000) :
    Calls Tryd.prog 17 #[sv, .int .i64 at_] w (Gives (.int .i64 ((at_ + Tx.behind false (s.data.toList.drop at_) : Nat) : Int)) w) := by
  obtain ⟨A, c, rfl, hc, hA⟩ := hb
  by_cases h0 : at_ = s.size
  · have HQ : Hid (Tx.behind false (s.data.toList.drop at_) = 0) := Lib.hid (by rw [List.drop_of_length_le (by rw [size_list]; omega)]; rfl)
    have h1 : s.size ≤ at_ := by omega
    clear hA h0
    go_enter Tryd.func17, Tryd.ntmps17
    go_wp2_with fail
    go_loop [1] (fun i => i = .int .i64 at_) (fun _ => 0)
    case atStart => rfl
    case round =>
      subst hrel
      go_wp2_with fail
      go_ret
      exact Gives.mk (by rw [HQ.out]; rfl)
  obtain ⟨b, o, rfl, hB⟩ := hA (by omega)
  have HB := Lib.hid hB
  have hp := Tx.Pas.start (l := s.data.toList) (at_ := at_) (p := (0, 1)) (by rw [size_list]; exact hat) (by simp) (by simp) (by simp)
  have HP0 := Lib.hid hp
  clear hA hB h0 hp
  go_enter Tryd.func17, Tryd.ntmps17
  go_wp2_with fail
  go_loop [1] (fun i => ∃ (k : Nat) (line beg : Int), k ≤ s.size ∧ i = .int .i64 k ∧ Hid (Tx.Pas s.data.toList at_ (0, 1) false k line beg)) (fun i => s.size - (intOf i).toNat)
  case atStart => exact ⟨at_, _, _, hat, rfl, HP0⟩
  case round =>
    obtain ⟨k, line, beg, hk, rfl, HP⟩ := hrel
    have hle := HP.out.le
    by_cases hlt : k < s.size
    · have hcell := HB.out k hlt
      have hkl : k < s.data.toList.length := by rw [size_list]; exact hlt
      have hget : s.data.toList[k]'hkl = s[k] := rfl
      by_cases c35 : s[k].toNat = 35
      · have e35 := eq_lit (n := s[k].toNat) (z := 35) (by omega)
        have HP1 := Lib.hid (HP.out.hash hkl (by rw [hget]; exact c35))
        have HC := Lib.hid c35
        clear hget c35 HP
        go_wp2_with fail
        go_loop [1] (fun i => (i = .int .i64 k) ∨ ∃ (j : Nat) (line2 beg2 : Int), k < j ∧ j ≤ s.size ∧ i = .int .i64 j ∧ Hid (Tx.Pas s.data.toList at_ (0, 1) true j line2 beg2)) (fun i => s.size - (intOf i).toNat)
        case atStart => exact .inl rfl
        case round =>
          rcases hrel with rfl | ⟨j, line2, beg2, hkj, hj, rfl, HQ⟩
          · have e10 := neq_lit (n := s[k].toNat) (z := 10) (by have := HC.out; omega)
            go_wp2_with fail
            go_round
            case rel => exact .inr ⟨k + 1, _, _, by omega, by omega, by go_num, HP1⟩
            case measure => simp [intOf]; omega
          · clear e35 HC hcell
            by_cases hj1 : j < s.size
            · have hcell := HB.out j hj1
              have hjl : j < s.data.toList.length := by rw [size_list]; exact hj1
              have hget2 : s.data.toList[j]'hjl = s[j] := rfl
              by_cases c10 : s[j].toNat = 10
              · have e10 := neq_lit0 (n := s[j].toNat) (z := 10) (by omega)
                have HO := Lib.hid (HQ.out.out (fun _ => by rw [hget2]; exact c10))
                clear hget2 c10
                go_wp2_with fail
                go_round
                case rel => exact ⟨j, _, _, by omega, rfl, HO⟩
                case measure => simp [intOf]; omega
              · have e10 := neq_lit (n := s[j].toNat) (z := 10) (by omega)
                have HO := Lib.hid (HQ.out.rem hjl (by rw [hget2]; exact c10))
                clear hget2 c10
                go_wp2_with fail
                go_round
                case rel => exact .inr ⟨j + 1, _, _, by omega, by omega, by go_num, HO⟩
                case measure => simp [intOf]; omega
            · have HO := Lib.hid (HQ.out.out (fun h => absurd (show j < s.size by rw [← size_list]; exact h) hj1))
              go_wp2_with fail
              go_round
              case rel => exact ⟨j, _, _, by omega, rfl, HO⟩
              case measure => simp [intOf]; omega
      have e35 := ne_lit (n := s[k].toNat) (z := 35) (by omega)
      by_cases cb : s[k].toNat = 9 ∨ s[k].toNat = 10 ∨ s[k].toNat = 13 ∨ s[k].toNat = 32
      · have HP1 : Hid (∃ line2 beg2, Tx.Pas s.data.toList at_ (0, 1) false (k + 1) line2 beg2) := Lib.hid (by
          by_cases h10 : s[k].toNat = 10
          · exact ⟨_, _, HP.out.nl hkl (by rw [hget]; exact h10)⟩
          · exact ⟨_, _, HP.out.blank hkl (by rw [hget]; omega)⟩)
        have tests : ∃ b1 b2 b3 b4 : Bool, (((s[k].toNat : Nat) : Int) == 9) = b1 ∧ (((s[k].toNat : Nat) : Int) == 10) = b2 ∧ (((s[k].toNat : Nat) : Int) == 13) = b3 ∧ (((s[k].toNat : Nat) : Int) == 32) = b4 ∧ (b1 || b2 || b3 || b4) = true := by
          refine ⟨_, _, _, _, rfl, rfl, rfl, rfl, ?_⟩
          simp; omega
        obtain ⟨b1, b2, b3, b4, t1, t2, t3, t4, tt⟩ := tests
        clear hget cb c35 HP
        cases b1
        case' false => cases b2
        case' false.false => cases b3
        case' false.false.false => cases b4
        case false.false.false.false => cases tt
        all_goals
          clear tt
          go_wp2_with fail
          go_round
          case rel => obtain ⟨l2, b2, h⟩ := HP1.out; exact ⟨k + 1, l2, b2, by omega, by go_num, Lib.hid h⟩
          case measure => simp [intOf]; omega
      · have t1 := ne_lit (n := s[k].toNat) (z := 9) (by omega)
        have t2 := ne_lit (n := s[k].toNat) (z := 10) (by omega)
        have t3 := ne_lit (n := s[k].toNat) (z := 13) (by omega)
        have t4 := ne_lit (n := s[k].toNat) (z := 32) (by omega)
        have HS := Lib.hid (HP.out.stop (fun _ => ⟨by rw [hget]; exact c35, by rw [hget]; unfold Tx.blank; rw [decide_eq_false_iff_not]; omega⟩))
        clear hget cb c35
        go_wp2_with fail
        go_ret
        exact Gives.mk (int_congr (by rw [HS.out]; omega))
    · have HS := Lib.hid (HP.out.stop (fun h => absurd (show k < s.size by rw [← size_list]; exact h) hlt))
      go_wp2_with fail
      go_ret
      exact Gives.mk (int_congr (by rw [HS.out]; omega))
end Go.Proofs.YtenbecjnlgmkeaaDoor

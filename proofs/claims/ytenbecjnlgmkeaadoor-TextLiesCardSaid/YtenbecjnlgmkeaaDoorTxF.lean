/- Walks of package text: the reader passes over blanks and remarks. -/
import Derived.Test.YtenbecjnlgmkeaaDoorTxE
import Derived.Test.YtenbecjnlgmkeaaDoorTxP
import Derived.Deep.LoopGhost
namespace Go.Proofs.YtenbecjnlgmkeaaDoor
set_option linter.unusedSimpArgs false
set_option linter.unusedVariables false
open Go.RowKit Culp

/-- What passes leaves. -/
def PassRes (s : ByteArray) (r : Nat) (v m : Value) (at_ : Nat) (p : Nat × Nat) (w : World) (e : Ending) (w' : World) : Prop :=
  ∃ (k : Nat) (line beg : Int), e = .returned (.tuple #[]) ∧ Tx.Pas s.data.toList at_ p false k line beg ∧ Tx.behind false (s.data.toList.drop at_) = k - at_ ∧ Rd r v k line beg m w' ∧ Keep r w w'
/-- The relation at a round's head. -/
def PassAt (s : ByteArray) (r : Nat) (v m : Value) (at_ : Nat) (p : Nat × Nat) (w : World) (b : Bool) (k : Nat) (line beg : Int) (wx : World) : Prop :=
  Tx.Pas s.data.toList at_ p b (if b then k + 1 else k) line beg ∧ Rd r v k line beg m wx ∧ Keep r w wx

set_option maxRecDepth 100000 in
set_option maxHeartbeats 1600000 in
theorem passes_any (s : ByteArray) (r b o c : Nat) (m : Value) (at_ : Nat) (p : Nat × Nat) (w : World) (hr : Rd r (.slice (some ⟨b, o, none⟩) s.size c) at_ p.1 ((at_ : Int) + 1 - p.2) m w) (hB : Lib.Bytes w b o s) (hne : b ≠ r) (hc : s.size ≤ c) (hat : at_ ≤ s.size)
    (hp : p.1 ≤ at_ + 1 ∧ 1 ≤ p.2 ∧ p.2 ≤ at_ + 1) (hs : s.size ≤ 1000000000000000) :
    Calls Tryd.prog 31 #[.pointer (some ⟨r, 0, none⟩)] w (PassRes s r (.slice (some ⟨b, o, none⟩) s.size c) m at_ p w) := by
  have HB := Lib.hid hB
  have HR : Hid (PassAt s r (.slice (some ⟨b, o, none⟩) s.size c) m at_ p w false at_ p.1 ((at_ : Int) + 1 - p.2) w) := Lib.hid ⟨Tx.Pas.start (by rw [size_list]; exact hat) hp.1 hp.2.1 hp.2.2, hr, Keep.refl _ _⟩
  have HNE := Lib.hid hne
  clear hB hr hp hne
  go_enter Tryd.func31, Tryd.ntmps31
  go_step3
  go_wp2_with fail
  go_step3
  go_wp2_with fail
  go_loopg [] (s.size - at_) (fun g wx => ∃ (k : Nat) (line beg : Int), g = s.size - k ∧ k ≤ s.size ∧ Hid (PassAt s r (.slice (some ⟨b, o, none⟩) s.size c) m at_ p w false k line beg wx))
  case atStart => exact ⟨at_, _, _, rfl, hat, HR⟩
  case round =>
    obtain ⟨k, line, beg, rfl, hk, HP⟩ := hrel
    have q0 := HP.out.2.1.c0
    have q1 := HP.out.2.1.c1
    by_cases hlt : k < s.size
    · have hcell := HP.out.2.2.cell (HB.out k hlt) HNE.out
      go_wp2_with fail
      refine wp_region_plan (S := fun w' => w'.cell? ⟨r, 0, none⟩ = some (.slice (some ⟨b, o, none⟩) s.size c) ∧ w'.cell? ⟨r, 1, none⟩ = some (.int .i64 k))
        [(0, true), (1, true), (2, true), (3, true), (4, true), (5, true), (6, true), (7, true), (8, true), (9, true)] (by kernel_rfl) (by kernel_rfl) (by kernel_rfl) (fun _ _ _ _ _ h => h) ⟨q0, q1⟩ ?_
      intro HS
      repeat (first | (apply wpPlan_look; rfl; rfl; (intro wq hq; (try dsimp only at hq); go_split_ands; go_simp; (try rw [if_neg (by omega)]); (try rw [if_pos (by omega)]); try with_reducible rfl); simp only [Act.put, List.setIfInBounds_toArray, List.set_cons_zero, List.set_cons_succ]) | (apply wpPlan_skip; rfl; rfl; simp only [Act.put, List.setIfInBounds_toArray, List.set_cons_zero, List.set_cons_succ]) | (apply wpPlan_pass; rfl; rfl; assumption; simp only [Act.put, List.setIfInBounds_toArray, List.set_cons_zero, List.set_cons_succ]))
      apply wpPlan_done
      go_wp2_with fail
      refine wp_region_plan (S := fun w' => w'.cell? ⟨r, 0, none⟩ = some (.slice (some ⟨b, o, none⟩) s.size c) ∧ w'.cell? ⟨r, 1, none⟩ = some (.int .i64 k) ∧ w'.cell? ⟨b, o + k, none⟩ = some (.int .u8 s[k].toNat))
        [(0, true), (1, true), (2, true), (3, true), (4, true), (5, true), (6, true), (7, true), (8, true), (9, true)] (by kernel_rfl) (by kernel_rfl) (by kernel_rfl) (fun _ _ _ _ _ h => h) ⟨q0, q1, hcell⟩ ?_
      intro HS
      repeat (first | (apply wpPlan_look; rfl; rfl; (intro wq hq; (try dsimp only at hq); go_split_ands; go_simp; (try rw [if_neg (by omega)]); (try rw [if_pos (by omega)]); try with_reducible rfl); simp only [Act.put, List.setIfInBounds_toArray, List.set_cons_zero, List.set_cons_succ]) | (apply wpPlan_skip; rfl; rfl; simp only [Act.put, List.setIfInBounds_toArray, List.set_cons_zero, List.set_cons_succ]) | (apply wpPlan_pass; rfl; rfl; assumption; simp only [Act.put, List.setIfInBounds_toArray, List.set_cons_zero, List.set_cons_succ]))
      apply wpPlan_done
      have hrd := HP.out.2.1
      have hkeep := HP.out.2.2
      have hpas : Tx.Pas s.data.toList at_ p false k line beg := HP.out.1
      have hget : s.data.toList[k]'(by rw [size_list]; exact hlt) = s[k] := rfl
      have hkl : k < s.data.toList.length := by rw [size_list]; exact hlt
      have q5 := hrd.free 1
      have q6 := hrd.free 2
      have q7 := hrd.free 3
      have q2 := hrd.c2
      have q3 := hrd.c3
      have HRD := Lib.hid hrd
      have HKE := Lib.hid hkeep
      have HPA := Lib.hid hpas
      have hl0 := hpas.l0
      have hl1 := hpas.l1
      clear hrd hkeep hpas
      by_cases c35 : s[k].toNat = 35
      · have e35 := eq_lit (n := s[k].toNat) (z := 35) (by omega)
        have HP1 := Lib.hid (HPA.out.hash hkl (by rw [hget]; exact c35))
        clear hget c35 HP
        clear q0 q1 q2 q3 q5 q6 q7 hcell HS
        go_wp2_with fail
        go_loopg [] (s.size - k) (fun g wx => ∃ (j : Nat) (line2 beg2 : Int), g = s.size - j ∧ k ≤ j ∧ j < s.size ∧ Hid (PassAt s r (.slice (some ⟨b, o, none⟩) s.size c) m at_ p w true j line2 beg2 wx))
        case atStart => exact ⟨k, line, beg, rfl, Nat.le_refl _, hlt, Lib.hid ⟨HP1.out, HRD.out, HKE.out.drew.drew⟩⟩
        case round =>
          obtain ⟨j, line2, beg2, rfl, hkj, hj, HQ⟩ := hrel
          have q0 := HQ.out.2.1.c0
          have q1 := HQ.out.2.1.c1
          have q5 := HQ.out.2.1.free 1
          have hpas2 : Tx.Pas s.data.toList at_ p true (j + 1) line2 beg2 := HQ.out.1
          have HPA2 := Lib.hid hpas2
          clear hpas2 HP1 HRD HKE HPA e35
          by_cases hj1 : j + 1 < s.size
          · have hcell := HQ.out.2.2.cell (HB.out (j + 1) hj1) HNE.out
            have hd : decide ((j : Int) + 1 < (s.size : Int)) = true := decide_eq_true (by omega)
            have hjl : j + 1 < s.data.toList.length := by rw [size_list]; exact hj1
            have hget : s.data.toList[j + 1]'hjl = s[j + 1] := rfl
            by_cases c10 : s[j + 1].toNat = 10
            · have e10 : (((s[j + 1].toNat : Nat) : Int) != 10) = false := by simp [c10]
              have HO := Lib.hid (HPA2.out.out (fun _ => by rw [hget]; exact c10))
              clear hget c10
              have w1 : IntKind.i64.wrap ((j : Int) + 1) = (j : Int) + 1 := IntWalk.i64_in _ (by omega)
              have w2 : ((j : Int) + 1).toNat = j + 1 := by omega
              have w3 : (0 : Int) ≤ (j : Int) + 1 := by omega
              have w4 : j + 1 < s.size := hj1
              go_wp2_with fail
              refine wp_region_plan (S := fun w' => w'.cell? ⟨r, 0, none⟩ = some (.slice (some ⟨b, o, none⟩) s.size c) ∧ w'.cell? ⟨r, 1, none⟩ = some (.int .i64 j) ∧ w'.cell? ⟨b, o + (j + 1), none⟩ = some (.int .u8 s[j + 1].toNat))
                [(0, true), (1, true), (2, true), (3, true), (4, true), (5, true), (6, true), (7, true), (8, true), (9, true), (10, true), (11, true), (12, true), (13, true), (14, true), (15, true), (16, true), (17, true), (18, true), (19, true), (20, true), (21, true), (22, true), (23, true), (24, true)] (by kernel_rfl) (by kernel_rfl) (by kernel_rfl) (fun _ _ _ _ _ h => h) ⟨q0, q1, hcell⟩ ?_
              intro HS
              repeat (first | (apply wpPlan_look; rfl; rfl; (intro wq hq; (try dsimp only at hq); go_split_ands; go_simp; (try rw [if_neg (by omega)]); (try rw [if_pos (by omega)]); try with_reducible rfl); simp only [Act.put, List.setIfInBounds_toArray, List.set_cons_zero, List.set_cons_succ]) | (apply wpPlan_skip; rfl; rfl; simp only [Act.put, List.setIfInBounds_toArray, List.set_cons_zero, List.set_cons_succ]) | (apply wpPlan_pass; rfl; rfl; assumption; simp only [Act.put, List.setIfInBounds_toArray, List.set_cons_zero, List.set_cons_succ]))
              apply wpPlan_done
              clear w1 w2 w3 hd
              go_wp2_with fail
              go_roundg (s.size - (j + 1))
              case rel => exact ⟨j + 1, line2, beg2, rfl, by omega, Lib.hid ⟨HO.out, HQ.out.2.1.set1 _, (HQ.out.2.2.setCell 1 _).drew⟩⟩
              case measure => omega
            · have e10 : (((s[j + 1].toNat : Nat) : Int) != 10) = true := by simp; omega
              have HO := Lib.hid (HPA2.out.rem hjl (by rw [hget]; exact c10))
              clear hget c10
              have w1 : IntKind.i64.wrap ((j : Int) + 1) = (j : Int) + 1 := IntWalk.i64_in _ (by omega)
              have w2 : ((j : Int) + 1).toNat = j + 1 := by omega
              have w3 : (0 : Int) ≤ (j : Int) + 1 := by omega
              go_wp2_with fail
              refine wp_region_plan (S := fun w' => w'.cell? ⟨r, 0, none⟩ = some (.slice (some ⟨b, o, none⟩) s.size c) ∧ w'.cell? ⟨r, 1, none⟩ = some (.int .i64 j) ∧ w'.cell? ⟨b, o + (j + 1), none⟩ = some (.int .u8 s[j + 1].toNat))
                [(0, true), (1, true), (2, true), (3, true), (4, true), (5, true), (6, true), (7, true), (8, true), (9, true), (10, true), (11, true), (12, true), (13, true), (14, true), (15, true), (16, true), (17, true), (18, true), (19, true), (20, true), (21, true), (22, true), (23, true), (24, true)] (by kernel_rfl) (by kernel_rfl) (by kernel_rfl) (fun _ _ _ _ _ h => h) ⟨q0, q1, hcell⟩ ?_
              intro HS
              repeat (first | (apply wpPlan_look; rfl; rfl; (intro wq hq; (try dsimp only at hq); go_split_ands; go_simp; (try rw [if_neg (by omega)]); (try rw [if_pos (by omega)]); try with_reducible rfl); simp only [Act.put, List.setIfInBounds_toArray, List.set_cons_zero, List.set_cons_succ]) | (apply wpPlan_skip; rfl; rfl; simp only [Act.put, List.setIfInBounds_toArray, List.set_cons_zero, List.set_cons_succ]) | (apply wpPlan_pass; rfl; rfl; assumption; simp only [Act.put, List.setIfInBounds_toArray, List.set_cons_zero, List.set_cons_succ]))
              apply wpPlan_done
              clear w1 w2 w3 hd
              go_wp2_with fail
              go_roundg (s.size - (j + 1))
              case rel => exact ⟨j + 1, line2, beg2, rfl, by omega, hj1, Lib.hid ⟨HO.out, HQ.out.2.1.set1 _, (HQ.out.2.2.setCell 1 _).drew⟩⟩
              case measure => omega
          · have hd : decide ((j : Int) + 1 < (s.size : Int)) = false := decide_eq_false (by omega)
            have HO := Lib.hid (HPA2.out.out (fun h => absurd (show j + 1 < s.size by rw [← size_list]; exact h) hj1))
            have w1 : IntKind.i64.wrap ((j : Int) + 1) = (j : Int) + 1 := IntWalk.i64_in _ (by omega)
            go_wp2_with fail
            refine wp_region_plan (S := fun w' => w'.cell? ⟨r, 0, none⟩ = some (.slice (some ⟨b, o, none⟩) s.size c) ∧ w'.cell? ⟨r, 1, none⟩ = some (.int .i64 j))
              [(0, true), (1, true), (2, true), (3, true), (4, true), (5, true), (6, true), (7, true), (8, true), (9, true), (10, true), (11, true), (12, true), (13, true), (14, true), (15, true), (16, true), (17, true), (18, true), (19, true), (20, true), (21, true), (22, true), (23, true), (24, true)] (by kernel_rfl) (by kernel_rfl) (by kernel_rfl) (fun _ _ _ _ _ h => h) ⟨q0, q1⟩ ?_
            intro HS
            repeat (first | (apply wpPlan_look; rfl; rfl; (intro wq hq; (try dsimp only at hq); go_split_ands; go_simp; (try rw [if_neg (by omega)]); (try rw [if_pos (by omega)]); try with_reducible rfl); simp only [Act.put, List.setIfInBounds_toArray, List.set_cons_zero, List.set_cons_succ]) | (apply wpPlan_skip; rfl; rfl; simp only [Act.put, List.setIfInBounds_toArray, List.set_cons_zero, List.set_cons_succ]) | (apply wpPlan_pass; rfl; rfl; assumption; simp only [Act.put, List.setIfInBounds_toArray, List.set_cons_zero, List.set_cons_succ]))
            apply wpPlan_done
            clear w1 hd
            go_wp2_with fail
            go_roundg (s.size - (j + 1))
            case rel => exact ⟨j + 1, line2, beg2, rfl, by omega, Lib.hid ⟨HO.out, HQ.out.2.1.set1 _, (HQ.out.2.2.setCell 1 _).drew⟩⟩
            case measure => omega
      have e35 := ne_lit (n := s[k].toNat) (z := 35) (by omega)
      by_cases c10 : s[k].toNat = 10
      · have e32 := ne_lit (n := s[k].toNat) (z := 32) (by omega)
        have e9 := ne_lit (n := s[k].toNat) (z := 9) (by omega)
        have e13 := ne_lit (n := s[k].toNat) (z := 13) (by omega)
        have e10 := eq_lit (n := s[k].toNat) (z := 10) (by omega)
        have HP1 := Lib.hid (HPA.out.nl hkl (by rw [hget]; exact c10))
        clear hget c10 c35 HP
        go_wp2_with fail
        go_roundg (s.size - (k + 1))
        case rel => exact ⟨k + 1, line + 1, (k : Int) + 1, rfl, by omega, Lib.hid ⟨HP1.out, ((HRD.out.set1 _).set2 _).set3 _, (((HKE.out.setCell 1 _).setCell 2 _).setCell 3 _).drew.drew⟩⟩
        case measure => omega
      have e10 := ne_lit (n := s[k].toNat) (z := 10) (by omega)
      by_cases cb : s[k].toNat = 32 ∨ s[k].toNat = 9 ∨ s[k].toNat = 13
      · have HP1 := Lib.hid (HPA.out.blank hkl (by rw [hget]; exact cb))
        clear hget c10 c35 HP
        by_cases c32 : s[k].toNat = 32
        · have e32 := eq_lit (n := s[k].toNat) (z := 32) (by omega)
          clear cb c32
          go_wp2_with fail
          go_roundg (s.size - (k + 1))
          case rel => exact ⟨k + 1, line, beg, rfl, by omega, Lib.hid ⟨HP1.out, HRD.out.set1 _, (HKE.out.setCell 1 _).drew.drew⟩⟩
          case measure => omega
        have e32 := ne_lit (n := s[k].toNat) (z := 32) (by omega)
        by_cases c9 : s[k].toNat = 9
        · have e9 := eq_lit (n := s[k].toNat) (z := 9) (by omega)
          clear cb c32 c9
          go_wp2_with fail
          go_roundg (s.size - (k + 1))
          case rel => exact ⟨k + 1, line, beg, rfl, by omega, Lib.hid ⟨HP1.out, HRD.out.set1 _, (HKE.out.setCell 1 _).drew.drew⟩⟩
          case measure => omega
        · have e9 := ne_lit (n := s[k].toNat) (z := 9) (by omega)
          have e13 := eq_lit (n := s[k].toNat) (z := 13) (by omega)
          clear cb c32 c9
          go_wp2_with fail
          go_roundg (s.size - (k + 1))
          case rel => exact ⟨k + 1, line, beg, rfl, by omega, Lib.hid ⟨HP1.out, HRD.out.set1 _, (HKE.out.setCell 1 _).drew.drew⟩⟩
          case measure => omega
      · have e32 := ne_lit (n := s[k].toNat) (z := 32) (by omega)
        have e9 := ne_lit (n := s[k].toNat) (z := 9) (by omega)
        have e13 := ne_lit (n := s[k].toNat) (z := 13) (by omega)
        have HST := Lib.hid (HPA.out.stop (fun _ => ⟨by rw [hget]; exact c35, by rw [hget]; unfold Tx.blank; rw [decide_eq_false_iff_not]; omega⟩))
        clear hget cb c10 c35 HP
        go_wp2_with fail
        rw [Exit.noGoto_normal]
        exact bodyPost_end (v := .tuple #[]) (by simp [results, Tryd.results31, go_sem]) rfl ⟨k, line, beg, rfl, HPA.out, HST.out, HRD.out, HKE.out.drew.drew⟩
    · go_wp2_with fail
      refine wp_region_plan (S := fun w' => w'.cell? ⟨r, 0, none⟩ = some (.slice (some ⟨b, o, none⟩) s.size c) ∧ w'.cell? ⟨r, 1, none⟩ = some (.int .i64 k))
        [(0, true), (1, true), (2, true), (3, true), (4, true), (5, true), (6, true), (7, true), (8, true), (9, true)] (by kernel_rfl) (by kernel_rfl) (by kernel_rfl) (fun _ _ _ _ _ h => h) ⟨q0, q1⟩ ?_
      intro HS
      repeat (first | (apply wpPlan_look; rfl; rfl; (intro wq hq; (try dsimp only at hq); go_split_ands; go_simp; (try rw [if_neg (by omega)]); (try rw [if_pos (by omega)]); try with_reducible rfl); simp only [Act.put, List.setIfInBounds_toArray, List.set_cons_zero, List.set_cons_succ]) | (apply wpPlan_skip; rfl; rfl; simp only [Act.put, List.setIfInBounds_toArray, List.set_cons_zero, List.set_cons_succ]) | (apply wpPlan_pass; rfl; rfl; assumption; simp only [Act.put, List.setIfInBounds_toArray, List.set_cons_zero, List.set_cons_succ]))
      apply wpPlan_done
      go_wp2_with fail
      have HST := Lib.hid (Tx.Pas.stop (k := k) HP.out.1 (fun h => absurd (show k < s.size by rw [← size_list]; exact h) hlt))
      rw [Exit.noGoto_normal]
      exact bodyPost_end (v := .tuple #[]) (by simp [results, Tryd.results31, go_sem]) rfl ⟨k, line, beg, rfl, HP.out.1, HST.out, HP.out.2.1, HP.out.2.2.drew⟩
end Go.Proofs.YtenbecjnlgmkeaaDoor


/- Walks of bags: lists of numbers lie apart, wherever the bag was made. -/
import Derived.Test.YtidholghbjljaaaGreatDoorHd
import Derived.Test.YtidholghbjljaaaGreatDoorFq
namespace Go.Proofs.YtidholghbjljaaaGreatDoor
set_option linter.unusedSimpArgs false
set_option linter.unusedVariables false
open Go.RowKit Go.Maps Culp

def mkI (n i : Nat) : Value := .int .i64 ((1048576 * n + i + 1 : Nat) : Int)
theorem sints_info : (Tryz.prog.info? 30).map (fun i => (i.zero, i.size, i.bytes)) = some (some (.slice none 0 0), 1, 24) := by kernel_rfl
set_option maxRecDepth 100000 in
set_option maxHeartbeats 6400000 in
theorem apartInts2_any (gb B : Nat) (R : List Value) (L : Nat → Nat) (bv : Value) (w : World) (cs : Array Value) (hBI : BagIs gb cs w) (hc1 : cs[1]? = some bv) (hBw : B ≤ w.heap.size) (hbv : w.ownsRow B 30 1 bv R.length R)
    (hG : ∀ n v, R[n]? = some v → ∃ xs, w.ownsRow B 3 1 v (L n) xs) (hA : ∀ (i j : Nat) (u v : Value), i ≠ j → R[i]? = some u → R[j]? = some v → Culp.Apart u v) (hM : R.length ≤ 300) (hL : ∀ n, L n ≤ 1000000) :
    Calls Tryz.prog 45 #[.pointer (some ⟨gb, 0, none⟩)] w (fun e w' => e = .returned (.bool true) ∧ Below B w w' ∧ BagIs gb cs w') := by
  have HL := Lib.hid hL
  have HA := Lib.hid hA
  have HC := Lib.hid hc1
  have HBI := Lib.hid hBI
  have HP0 := Lib.hid (Bag.Ph1.start (mk := mkI) hG)
  have HV0 := Lib.hid hbv
  obtain ⟨A0, cb, rfl, _, hA0⟩ := own_form hbv
  have HA0 := Lib.hid hA0
  clear hG hA hL hbv hA0 hBI hc1
  go_enter Tryz.func45, Tryz.ntmps45
  go_wp2_with fail
  go_loopw [3] (fun i wr => ∃ n : Nat, n ≤ R.length ∧ i = .int .i64 n ∧ Hid (Bag.Ph1 3 B R L mkI n 0 wr) ∧ Hid (wr.ownsRow B 30 1 (.slice A0 R.length cb) R.length R) ∧ Hid (Below B w wr) ∧ Hid (BagIs gb cs wr)) (fun i _ => R.length - (intOf i).toNat)
  case atStart => exact ⟨0, Nat.zero_le _, rfl, HP0, HV0, Lib.hid (Below.refl _ _), HBI⟩
  case round =>
    clear HP0 HV0
    obtain ⟨n, hn, rfl, HP, HV, HB, HBI⟩ := hrel
    have c1 := HBI.out.cell HC.out
    by_cases hlt : n < R.length
    · obtain ⟨v, hv⟩ : ∃ v, R[n]? = some v := ⟨_, List.getElem?_eq_getElem hlt⟩
      have HVN := Lib.hid hv
      obtain ⟨rb, rfl, hrb, _⟩ := HA0.out (by omega)
      obtain ⟨Av, cv, rfl⟩ := HP.out.form hv
      have r0 := (own_get HV.out hv).1
      clear hv
      go_wp2_with fail
      go_loopw [4] (fun i wr => ∃ k : Nat, k ≤ L n ∧ i = .int .i64 k ∧ Hid (Bag.Ph1 3 B R L mkI n k wr) ∧ Hid (wr.ownsRow B 30 1 (.slice (some ⟨rb, 0, none⟩) R.length cb) R.length R) ∧ Hid (Below B w wr) ∧ Hid (BagIs gb cs wr)) (fun i _ => L n - (intOf i).toNat)
      case atStart => exact ⟨0, Nat.zero_le _, rfl, HP, HV, HB, HBI⟩
      case round =>
        clear HP HV HB c1 r0
        obtain ⟨k, hk, rfl, HP, HV, HB, HBI⟩ := hrel
        have c1 := HBI.out.cell HC.out
        have r0 := (own_get HV.out HVN.out).1
        have hLn := HL.out n
        by_cases hkl : k < L n
        · obtain ⟨g, c, x0, e0, hBg, x1, x2, xs, hxs⟩ := HP.out.cell HVN.out hkl
          simp only [Value.slice.injEq] at e0
          obtain ⟨rfl, _, rfl⟩ := e0
          have hgg : g ≠ gb := fun he => HBI.out.ne hxs (by decide) (congrArg some he)
          have hgr : g ≠ rb := fun he => own_apart_type hxs HV.out (by decide) g rfl (by rw [he]; rfl)
          have HPd : Hid (Bag.Ph1 3 B R L mkI n k wr.drew) := Lib.hid HP.out
          have HVd : Hid (wr.drew.ownsRow B 30 1 (.slice (some ⟨rb, 0, none⟩) R.length cb) R.length R) := Lib.hid HV.out
          have HBd := Lib.hid HB.out.drew
          have HBId : Hid (BagIs gb cs wr.drew) := Lib.hid HBI.out
          have x1d : wr.drew.cell? ⟨g, k, none⟩ = some x0 := x1
          have x2d : wr.drew.frozen? ⟨g, k, none⟩ = false := x2
          clear hxs HP HV HB x1 x2
          go_wp2_with fail
          refine wp_region_plan (S := fun w' => w'.cell? ⟨gb, 1, none⟩ = some (.slice (some ⟨rb, 0, none⟩) R.length cb) ∧ w'.cell? ⟨rb, n, none⟩ = some (.slice (some ⟨g, 0, none⟩) (L n) cv))
            [(0, true), (1, true), (2, true), (3, true), (4, true), (5, true), (6, true), (7, true), (8, true), (9, true), (10, false), (11, true), (12, false)] (by kernel_rfl) (by kernel_rfl) (by kernel_rfl) (fun _ _ _ _ _ h => h) ⟨c1, r0⟩ ?_
          intro HS
          repeat (first | (apply wpPlan_look; rfl; rfl; (intro wq hq; (try dsimp only at hq); go_split_ands; go_simp; (try rw [if_neg (by omega)]); (try rw [if_pos (by omega)]); try with_reducible rfl); simp only [Act.put, List.setIfInBounds_toArray, List.set_cons_zero, List.set_cons_succ]) | (apply wpPlan_skip; rfl; rfl; simp only [Act.put, List.setIfInBounds_toArray, List.set_cons_zero, List.set_cons_succ]) | (apply wpPlan_pass; rfl; rfl; assumption; simp only [Act.put, List.setIfInBounds_toArray, List.set_cons_zero, List.set_cons_succ]))
          apply wpPlan_call; rfl; rfl; rfl; rfl; kernel_rfl; exact num_any n k (by omega) (by omega) _; rfl; rintro e w' ⟨rfl, rfl⟩
          refine ⟨_, rfl, as_S ⟨c1, r0⟩ ?_⟩
          intro _
          simp only [Act.put, List.setIfInBounds_toArray, List.set_cons_zero, List.set_cons_succ]
          repeat (first | (apply wpPlan_look; rfl; rfl; (intro wq hq; (try dsimp only at hq); go_split_ands; go_simp; (try rw [if_neg (by omega)]); (try rw [if_pos (by omega)]); try with_reducible rfl); simp only [Act.put, List.setIfInBounds_toArray, List.set_cons_zero, List.set_cons_succ]) | (apply wpPlan_skip; rfl; rfl; simp only [Act.put, List.setIfInBounds_toArray, List.set_cons_zero, List.set_cons_succ]) | (apply wpPlan_pass; rfl; rfl; assumption; simp only [Act.put, List.setIfInBounds_toArray, List.set_cons_zero, List.set_cons_succ]))
          generalize wr.drew = w1 at *
          have HP2 := Lib.hid (HPd.out.set HA.out HVN.out hkl)
          have HV2 := Lib.hid (own_apart_keep HVd.out ((Keep.refl g w1).setCell k (mkI n k)) (fun he => hgr (by injection he with he; exact he.symm)))
          have HB2 := Lib.hid (Below.setCell (p := ⟨g, k, none⟩) HBd.out hBg (mkI n k))
          have HBI2 := Lib.hid (HBId.out.set hgg k (mkI n k))
          have c2 := Keep.cell ((Keep.refl g w1).setCell k (mkI n k)) HS.1 hgg.symm
          have r2 := Keep.cell ((Keep.refl g w1).setCell k (mkI n k)) HS.2 hgr.symm
          refine wpPlan_run0 (w' := w1.setCell ⟨g, k, none⟩ (mkI n k)) rfl rfl (by simp [execOp, go_sem, x1d, x2d, mkI]) _ (fun _ h => h) ⟨c2, r2⟩ ?_
          simp only [Act.put, List.setIfInBounds_toArray, List.set_cons_zero, List.set_cons_succ]
          apply wpPlan_done
          clear HPd HVd HBd x1d x2d c2 r2 HS c1 r0
          generalize w1.setCell ⟨g, k, none⟩ (mkI n k) = w2 at *
          go_wp2_with fail
          go_roundw
          case rel => exact ⟨k + 1, by omega, by go_num, HP2, HV2, HB2, HBI2⟩
          case measure => simp [intOf]; omega
        · have hkl2 : k = L n := by omega
          have HP2 := Lib.hid (Bag.Ph1.next (by have := HP.out; rw [hkl2] at this; exact this))
          clear HP hkl2
          go_wp2_with fail
          go_roundw
          case rel => exact ⟨n + 1, by omega, by go_num, HP2, HV, HB, HBI⟩
          case measure => simp [intOf]; omega
    · obtain rfl : n = R.length := by omega
      have HQ := Lib.hid (Bag.Ph2.start (W := w.heap.size) (se := 30) HP.out HV.out)
      clear HP HV
      go_wp2_with fail
      clear c1
      go_loopw [5, 6, 7] (fun ov mv i wr => ∃ (n : Nat) (o m : Value) (Us Vs : List Value), o = ov ∧ m = mv ∧ n ≤ R.length ∧ i = .int .i64 n ∧ Hid (Bag.Ph2 3 30 B w.heap.size R L mkI (.slice A0 R.length cb) n o m Us Vs wr) ∧ Hid (Below B w wr) ∧ Hid (BagIs gb cs wr)) (fun _ _ i _ => R.length - (intOf i).toNat)
      case atStart => exact ⟨0, _, _, [], [], rfl, rfl, Nat.zero_le _, rfl, HQ, HB, HBI⟩
      case round =>
        clear HQ HB
        obtain ⟨n, o, m, Us, Vs, rfl, rfl, hn, rfl, HQ, HB, HBI⟩ := hrel
        have c1 := HBI.out.cell HC.out
        by_cases hlt : n < R.length
        · obtain ⟨v, hv⟩ : ∃ v, R[n]? = some v := ⟨_, List.getElem?_eq_getElem hlt⟩
          have HVN := Lib.hid hv
          obtain ⟨rb, rfl, hrb, _⟩ := HA0.out (by omega)
          obtain ⟨Av, cv, rfl, _⟩ := own_form (HQ.out.row n v hv)
          have r0 := (own_get HQ.out.hbag hv).1
          have HI0 := Lib.hid (Bag.In.start HQ.out HA.out hv)
          have hLn := HL.out n
          clear hv HQ
          go_wp2_with fail
          go_loopw [5, 8, 9] (fun ov lv i wr => ∃ (t p : Nat) (o l : Value) (Us : List Value), o = ov ∧ l = lv ∧ t ≤ 70 ∧ L n ≤ p ∧ p ≤ L n + 70 ∧ i = .int .i64 p ∧ Hid (p = L n + t) ∧ Hid (Bag.In 3 30 B w.heap.size R L mkI (.slice (some ⟨rb, 0, none⟩) R.length cb) n t l o m Us Vs wr) ∧ Hid (Below B w wr) ∧ Hid (BagIs gb cs wr)) (fun _ _ i _ => L n + 70 - (intOf i).toNat)
          case atStart => exact ⟨0, L n, _, _, Us, rfl, rfl, by omega, Nat.le_refl _, by omega, rfl, Lib.hid rfl, HI0, HB, HBI⟩
          case round =>
            clear HI0 HB c1 r0
            obtain ⟨t, p, o, l, Us, rfl, rfl, ht, hp0, hp1, rfl, HPT, HI, HB, HBI⟩ := hrel
            have c1 := HBI.out.cell HC.out
            have r0 := (own_get HI.out.hbag HVN.out).1
            have hpt := HPT.out
            by_cases hkl : t < 70
            · have hpl : p < L n + 70 := by omega
              have own4 : wr.ownsRow B 3 1 l p (Bag.marks mkI n p) := by rw [HPT.out]; exact HI.out.own
              clear hpt
              go_wp2_with fail
              refine (num_any n p (by omega) (by omega) _).mono ?_
              rintro e w1 ⟨rfl, rfl⟩
              clear c1 r0
              go_wp2_with (at_builtin; refine append_held rfl (.tmp 78) (.tmp 82) 30 3 rfl B _ 1 8 Tryz.underlying30 int_info rfl (by decide) _ _ _ rfl own4 [mkI n p] rfl wr.heap.size rfl rfl ?_ ?_ ?_ ?_ ?_)
              · intro y hy; simp only [List.mem_cons, List.not_mem_nil, or_false] at hy; subst hy; rfl
              · omega
              · omega
              · have := HB.out.size; omega
              intro v' w5 a1 a2 a3 a4 a5
              have HG : Hid (Bag.Grew B 3 wr w5 l v' (L n + t) (Bag.marks mkI n (L n + t)) (mkI n (L n + t))) := Lib.hid (by rw [← HPT.out]; exact ⟨a1, a2, a3, a4, a5⟩)
              have HB5 := Lib.hid (HB.out.trans a3)
              have HBI5 := Lib.hid (HBI.out.grown a2 (HBI.out.ne own4 (by decide)))
              obtain ⟨A5, c5, rfl, _⟩ := own_form a1
              have c1 := HBI5.out.cell HC.out
              have r0 := (own_get (own_other HI.out.hbag a2 (own_apart_type own4 HI.out.hbag (by decide))) HVN.out).1
              have ownO := own_other HI.out.hone a2 (own_apart_type own4 HI.out.hone (by decide))
              clear a1 a2 a3 a4 a5 own4
              by_cases ht0 : t = 0
              · have hpe : p = L n := by have := HPT.out; omega
                have e1 : (((p : Nat) : Int) == ((L n : Nat) : Int)) = true := int_eq' hpe
                have HUn : Hid (Us.length = n) := Lib.hid (by have := HI.out.lu; rw [ht0] at this; exact this)
                have hUn := HUn.out
                clear hpe
                go_wp2_with (at_builtin; refine append_held rfl (.tmp 94) (.tmp 96) 45 30 rfl w.heap.size _ 1 24 Tryz.underlying45 sints_info rfl (by decide) _ _ _ rfl ownO [.slice A5 (p + 1) c5] rfl w5.heap.size rfl rfl ?_ ?_ ?_ ?_ ?_)
                · intro y hy; simp only [List.mem_cons, List.not_mem_nil, or_false] at hy; subst hy; rfl
                · omega
                · omega
                · exact HB5.out.size
                intro o' w6 a1 a2 a3 a4 a5
                have HI6 : Hid (Bag.In 3 30 B w.heap.size R L mkI (.slice (some ⟨rb, 0, none⟩) R.length cb) n (t + 1) (.slice A5 (p + 1) c5) o' m (Us ++ [.slice A5 (p + 1) c5]) Vs w6) := Lib.hid (by
                  have hI := HI.out
                  have hG := HG.out
                  subst ht0
                  exact Bag.In.first (by decide) hI hG (one' := o') ⟨a1, a2, a3, a4, a5⟩ hBw)
                have HB6 := Lib.hid (HB5.out.trans (Below.mono a3 hBw))
                have HBI6 := Lib.hid (HBI5.out.grown a2 (HBI5.out.ne ownO (by decide)))
                clear a1 a2 a3 a4 a5 HI HG HB5 HB c1 r0 ownO
                go_wp2_with fail
                go_roundw
                case rel => exact ⟨t + 1, p + 1, o', _, _, rfl, rfl, by omega, by omega, by omega, by go_num, Lib.hid (by rw [HPT.out]; omega), HI6, HB6, HBI6⟩
                case measure => simp [intOf]; omega
              · have e1 : (((p : Nat) : Int) == ((L n : Nat) : Int)) = false := beq_no (by have := HPT.out; omega)
                have HI6 := Lib.hid (Bag.In.push (by decide) HI.out (fun h => absurd h ht0) HA.out HG.out (by omega))
                clear HI HG HB ownO
                go_wp2_with fail
                go_roundw
                case rel => exact ⟨t + 1, p + 1, o, _, Us, rfl, rfl, by omega, by omega, by omega, by go_num, Lib.hid (by rw [HPT.out]; omega), HI6, HB5, HBI5⟩
                case measure => simp [intOf]; omega
            · have ht70 : t = 70 := by omega
              have hpe : p = L n + 70 := by omega
              have HI70 : Hid (Bag.In 3 30 B w.heap.size R L mkI (.slice (some ⟨rb, 0, none⟩) R.length cb) n 70 l o m Us Vs wr) := Lib.hid (by have := HI.out; rw [ht70] at this; exact this)
              have ownM := HI.out.hmore
              have own7 := HI70.out.own
              rw [← hpe] at own7
              obtain ⟨A5, c5, rfl, _⟩ := own_form own7
              have hnp : ¬ p < L n + 70 := by omega
              clear hpt hpe HI ht70 HPT own7
              go_wp2_with (at_builtin; refine append_held rfl (.tmp 98) (.tmp 100) 45 30 rfl w.heap.size _ 1 24 Tryz.underlying45 sints_info rfl (by decide) _ _ _ rfl ownM [.slice A5 p c5] rfl wr.heap.size rfl rfl ?_ ?_ ?_ ?_ ?_)
              · intro y hy; simp only [List.mem_cons, List.not_mem_nil, or_false] at hy; subst hy; rfl
              · omega
              · omega
              · exact HB.out.size
              intro m' w6 a1 a2 a3 a4 a5
              have HQ6 := Lib.hid (Bag.In.done (by decide) HI70.out ⟨a1, a2, a3, a4, a5⟩)
              have HB6 := Lib.hid (HB.out.trans (Below.mono a3 hBw))
              have HBI6 := Lib.hid (HBI.out.grown a2 (HBI.out.ne ownM (by decide)))
              clear a1 a2 a3 a4 a5 HI70 HB c1 r0 ownM
              go_wp2_with fail
              go_roundw
              case rel => exact ⟨n + 1, _, m', Us, _, rfl, rfl, by omega, by go_num, HQ6, HB6, HBI6⟩
              case measure => simp [intOf]; omega
        · obtain rfl : n = R.length := by omega
          obtain ⟨Am, cm, rfl, _⟩ := own_form HQ.out.hmore
          obtain ⟨Ao, co, rfl, _⟩ := own_form HQ.out.hone
          go_wp2_with fail
          clear c1
          go_loop [10] (fun i => ∃ n : Nat, n ≤ R.length ∧ i = .int .i64 n) (fun i => R.length - (intOf i).toNat)
          case atStart => exact ⟨0, Nat.zero_le _, rfl⟩
          case round =>
            obtain ⟨n, hn, rfl⟩ := hrel
            by_cases hlt : n < R.length
            · have hv0 : ∃ v, R[n]? = some v := ⟨_, List.getElem?_eq_getElem hlt⟩
              obtain ⟨v, hv⟩ := hv0
              have hu0 : ∃ u, Us[n]? = some u := ⟨_, List.getElem?_eq_getElem (by rw [HQ.out.lu]; exact hlt)⟩
              have hx0 : ∃ u, Vs[n]? = some u := ⟨_, List.getElem?_eq_getElem (by rw [HQ.out.lv]; exact hlt)⟩
              obtain ⟨u, hu⟩ := hu0
              obtain ⟨x, hx⟩ := hx0
              have hLn := HL.out n
              obtain ⟨rb, rfl, hrb, -⟩ := HA0.out (by omega)
              have c1 := HBI.out.cell HC.out
              have r0 := (own_get HQ.out.hbag hv).1
              obtain ⟨_, _, e1, -⟩ := own_read HQ.out.hmore (by omega)
              obtain ⟨_, _, e2, -⟩ := own_read HQ.out.hone (by omega)
              simp only [Value.slice.injEq] at e1 e2
              obtain ⟨rfl, _, rfl⟩ := e1
              obtain ⟨rfl, _, rfl⟩ := e2
              have m0 := (own_get HQ.out.hmore hx).1
              have o0 := (own_get HQ.out.hone hu).1
              have HRo := Lib.hid (HQ.out.row n v hv)
              have HUo := Lib.hid (HQ.out.us n u hu).1
              have HVo := Lib.hid (HQ.out.vs n x hx).1
              obtain ⟨Av, cv, rfl, -⟩ := own_form HRo.out
              obtain ⟨gu, cu, rfl, -⟩ := own_read HUo.out (by omega)
              obtain ⟨gx, cx, rfl, -⟩ := own_read HVo.out (by omega)
              clear hv hu hx
              go_wp2_with fail
              go_loop [11] (fun i => ∃ k : Nat, k ≤ L n + 70 ∧ i = .int .i64 k) (fun i => L n + 70 - (intOf i).toNat)
              case atStart => exact ⟨0, Nat.zero_le _, rfl⟩
              case round =>
                obtain ⟨k, hk, rfl⟩ := hrel
                by_cases hkl : k < L n + 70
                · have x0 : wr.cell? ⟨gx, k, none⟩ = some (.int .i64 ((1048576 * n + k + 1 : Nat) : Int)) := (own_get HVo.out (Bag.marks_get hkl)).1
                  by_cases hk1 : k < L n
                  · obtain ⟨gv, _, e3, -⟩ := own_read HRo.out (by omega)
                    simp only [Value.slice.injEq] at e3
                    obtain ⟨rfl, _, rfl⟩ := e3
                    have v0 : wr.cell? ⟨gv, k, none⟩ = some (.int .i64 ((1048576 * n + k + 1 : Nat) : Int)) := (own_get HRo.out (Bag.marks_get hk1)).1
                    have e4 : (((k : Nat) : Int) == ((L n : Nat) : Int)) = false := beq_no (by omega)
                    go_wp2_with fail
                    refine (num_any n k (by omega) (by omega) _).mono ?_
                    rintro e w1 ⟨rfl, rfl⟩
                    go_wp2_with fail
                    refine (num_any n k (by omega) (by omega) _).mono ?_
                    rintro e w1 ⟨rfl, rfl⟩
                    go_wp2_with fail
                    go_round
                    case rel => exact ⟨k + 1, by omega, by go_num⟩
                    case measure => simp [intOf]; omega
                  · by_cases hk2 : k = L n
                    · have e4 : (((k : Nat) : Int) == ((L n : Nat) : Int)) = true := int_eq' hk2
                      have u0 : wr.cell? ⟨gu, k, none⟩ = some (.int .i64 ((1048576 * n + k + 1 : Nat) : Int)) := (own_get HUo.out (Bag.marks_get (by omega))).1
                      have hk3 : k < L n + 1 := by omega
                      clear hk2
                      go_wp2_with fail
                      refine (num_any n k (by omega) (by omega) _).mono ?_
                      rintro e w1 ⟨rfl, rfl⟩
                      go_wp2_with fail
                      refine (num_any n k (by omega) (by omega) _).mono ?_
                      rintro e w1 ⟨rfl, rfl⟩
                      go_wp2_with fail
                      go_round
                      case rel => exact ⟨k + 1, by omega, by go_num⟩
                      case measure => simp [intOf]; omega
                    · have e4 : (((k : Nat) : Int) == ((L n : Nat) : Int)) = false := beq_no (by omega)
                      clear hk2
                      go_wp2_with fail
                      refine (num_any n k (by omega) (by omega) _).mono ?_
                      rintro e w1 ⟨rfl, rfl⟩
                      go_wp2_with fail
                      refine (num_any n k (by omega) (by omega) _).mono ?_
                      rintro e w1 ⟨rfl, rfl⟩
                      go_wp2_with fail
                      go_round
                      case rel => exact ⟨k + 1, by omega, by go_num⟩
                      case measure => simp [intOf]; omega
                · go_wp2_with fail
                  go_round
                  case rel => exact ⟨n + 1, by omega, by go_num⟩
                  case measure => simp [intOf]; omega
            · go_wp2_with fail
              go_ret
              exact ⟨rfl, HB.out, HBI.out⟩
end Go.Proofs.YtidholghbjljaaaGreatDoor

/- Walks of bags: one more list of numbers; do the lists that were gathered lie apart, wherever the bag was made? -/
namespace Go.Proofs.YtidholghbjljaaaGreatDoor
set_option linter.unusedSimpArgs false
set_option linter.unusedVariables false
open Go.RowKit Go.Maps Culp

theorem keepN_put {a : Nat} {o : Option Nat} {w w5 : World} (hg : w.grownBy w5 o) (i : Nat) (u : Value) : KeepN a o w (w5.setCell ⟨a, i, none⟩ u) := by
  have hk : Keep a w5 (w5.setCell ⟨a, i, none⟩ u) := (Keep.refl a w5).setCell i u
  exact ⟨hk.os.trans hg.os, hk.tape.trans hg.tape, hk.output.trans hg.output, Nat.le_trans hg.size hk.size, fun k h1 h2 h3 => (hk.block k (Nat.lt_of_lt_of_le h1 hg.size) h2).trans (hg.block k h1 (fun e => h3 e.symm))⟩
theorem BagIs.free {gb : Nat} {cs : Array Value} {w : World} (h : BagIs gb cs w) (j : Nat) : w.frozen? ⟨gb, j, none⟩ = false := by
  unfold BagIs at h
  simp [World.frozen?, h]
theorem BagIs.put {gb : Nat} {cs : Array Value} {w : World} (h : BagIs gb cs w) (j : Nat) (u : Value) : BagIs gb (cs.setIfInBounds j u) (w.setCell ⟨gb, j, none⟩ u) := by
  unfold BagIs at h ⊢
  simp [World.setCell, Array.getElem?_modify, h]
/-- A bag that holds rows that lie apart, wherever they were made. -/
structure Full2 (e se : TypeId) (K g B : Nat) (R : List Value) (L : Nat → Nat) (bv : Value) (cs : Array Value) (w : World) : Prop where
  bagis : BagIs g cs w
  size : cs.size = 18
  at_ : cs[K]? = some bv
  none_ : ∀ j, j < 18 → j ≠ K → cs[j]? = some (.slice none 0 0)
  le : B ≤ w.heap.size
  bag : w.ownsRow B se 1 bv R.length R
  rows : ∀ n v, R[n]? = some v → ∃ xs, w.ownsRow B e 1 v (L n) xs
  apart : ∀ (i j : Nat) (u v : Value), i ≠ j → R[i]? = some u → R[j]? = some v → Culp.Apart u v
section
variable {e se : TypeId} {K g B : Nat} {R : List Value} {L : Nat → Nat} {bv bv' v : Value} {cs : Array Value} {w w' : World} {xs : List Value}
theorem Full2.start (hK : K < 18) (hB : B ≤ w.heap.size) : Full2 e se K w.heap.size B [] L (.slice none 0 0) #[.slice none 0 0, .slice none 0 0, .slice none 0 0, .slice none 0 0, .slice none 0 0, .slice none 0 0, .slice none 0 0, .slice none 0 0, .slice none 0 0, .slice none 0 0, .slice none 0 0, .slice none 0 0, .slice none 0 0, .slice none 0 0, .slice none 0 0, .slice none 0 0, .slice none 0 0, .slice none 0 0] (w.alloc (.cells #[.slice none 0 0, .slice none 0 0, .slice none 0 0, .slice none 0 0, .slice none 0 0, .slice none 0 0, .slice none 0 0, .slice none 0 0, .slice none 0 0, .slice none 0 0, .slice none 0 0, .slice none 0 0, .slice none 0 0, .slice none 0 0, .slice none 0 0, .slice none 0 0, .slice none 0 0, .slice none 0 0] 63)) where
  bagis := (MapKept.heap_alloc w _).1
  size := rfl
  at_ := by
    show ((List.replicate 18 (Value.slice none 0 0)).toArray)[K]? = _
    rw [List.getElem?_toArray, List.getElem?_replicate, if_pos hK]
  none_ := fun j hj _ => by
    show ((List.replicate 18 (Value.slice none 0 0)).toArray)[j]? = _
    rw [List.getElem?_toArray, List.getElem?_replicate, if_pos hj]
  le := by simp; omega
  bag := World.ownsRow_nil _ _ _ _
  rows := fun n v hv => by simp at hv
  apart := fun i j u v _ hu => by simp at hu
theorem Full2.later (h : Full2 e se K g B R L bv cs w) (hb : Below w.heap.size w w') : Full2 e se K g B R L bv cs w' :=
  { h with
    bagis := h.bagis.later hb
    le := Nat.le_trans h.le hb.size
    bag := own_later h.bag hb
    rows := fun n v hv => by
      obtain ⟨xs, hx⟩ := h.rows n v hv
      exact ⟨xs, own_later hx hb⟩ }
theorem Full2.add (h : Full2 e se K g B R L bv cs w) (hne : e ≠ se) (he : e ≠ 63) (hs : se ≠ 63) (hK : K < 18) (hv : w.ownsRow B e 1 v (L R.length) xs) (hA : ∀ u ∈ R, Culp.Apart v u)
    (ho : w'.ownsRow B se 1 bv' (R.length + 1) (R ++ [v])) (hg : w.grownBy w' bv.ownBlock) (hb : Below B w w') :
    Full2 e se K g B (R ++ [v]) L bv' (cs.setIfInBounds K bv') (w'.setCell ⟨g, K, none⟩ bv') := by
  have hk : Keep g w' (w'.setCell ⟨g, K, none⟩ bv') := (Keep.refl g w').setCell K bv'
  have hbi : BagIs g cs w' := h.bagis.grown hg (h.bagis.ne h.bag hs)
  have hst : ∀ {X : Value} {n : Nat} {ys : List Value}, w.ownsRow B e 1 X n ys → (w'.setCell ⟨g, K, none⟩ bv').ownsRow B e 1 X n ys := by
    intro X n ys hX
    have h1 := own_other hX hg (own_apart_type h.bag hX (fun he => hne he.symm))
    exact own_apart_keep h1 hk (hbi.ne h1 he)
  have hKc : K < cs.size := by rw [h.size]; exact hK
  refine
    { bagis := hbi.put K bv'
      size := by simpa using h.size
      at_ := by rw [Array.getElem?_setIfInBounds_self_of_lt hKc]
      none_ := fun j hj hn => by
        rw [Array.getElem?_setIfInBounds_ne (fun he => hn he.symm)]
        exact h.none_ j hj hn
      le := by have := hb.size; have := hk.size; have := h.le; omega
      bag := by
        rw [List.length_append, List.length_singleton]
        exact own_apart_keep ho hk (hbi.ne ho hs)
      rows := fun n u hu => ?_
      apart := fun i j u x hij hu hx => ?_ }
  · by_cases hn : n < R.length
    · rw [List.getElem?_append_left hn] at hu
      obtain ⟨ys, hy⟩ := h.rows n u hu
      exact ⟨ys, hst hy⟩
    · have hn2 := (List.getElem?_eq_some_iff.1 hu).1
      rw [List.length_append, List.length_singleton] at hn2
      obtain rfl : n = R.length := by omega
      rw [List.getElem?_append_right (Nat.le_refl _), Nat.sub_self] at hu
      simp at hu
      subst hu
      exact ⟨xs, hst hv⟩
  · have key : ∀ n y, (R ++ [v])[n]? = some y → (n < R.length ∧ R[n]? = some y) ∨ (n = R.length ∧ y = v) := by
      intro n y hy
      by_cases hn : n < R.length
      · rw [List.getElem?_append_left hn] at hy
        exact .inl ⟨hn, hy⟩
      · have hn2 := (List.getElem?_eq_some_iff.1 hy).1
        rw [List.length_append, List.length_singleton] at hn2
        obtain rfl : n = R.length := by omega
        rw [List.getElem?_append_right (Nat.le_refl _), Nat.sub_self] at hy
        simp at hy
        exact .inr ⟨rfl, hy.symm⟩
    rcases key i u hu with ⟨hi, hu'⟩ | ⟨rfl, rfl⟩
    · rcases key j x hx with ⟨hj, hx'⟩ | ⟨rfl, rfl⟩
      · exact h.apart i j u x hij hu' hx'
      · exact (hA u (List.mem_of_getElem? hu')).symm
    · rcases key j x hx with ⟨hj, hx'⟩ | ⟨rfl, rfl⟩
      · exact hA x (List.mem_of_getElem? hx')
      · exact absurd rfl hij
end
set_option maxRecDepth 100000 in
set_option maxHeartbeats 1600000 in
theorem ApartInts2_any (gb B : Nat) (R : List Value) (L : Nat → Nat) (bv : Value) (cs : Array Value) (w : World) (h : Full2 3 30 1 gb B R L bv cs w) (hM : R.length ≤ 300) (hL : ∀ n, L n ≤ 1000000) :
    Calls Tryz.prog 17 #[.pointer (some ⟨gb, 0, none⟩)] w (fun e w' => e = .returned (.bool true) ∧ Below B w w') := by
  have HL := Lib.hid hL
  have HF := Lib.hid h
  have HA := Lib.hid (apartInts2_any gb B R L bv w cs h.bagis h.at_ h.le h.bag h.rows h.apart hM hL)
  clear h hL
  go_enter Tryz.func17, Tryz.ntmps17
  go_wp2_with fail
  refine (apartBytes_none gb _ (HF.out.bagis.cell (HF.out.none_ 0 (by decide) (by decide)))).mono ?_
  rintro e w' ⟨rfl, rfl⟩
  go_wp2_with fail
  refine HA.out.mono ?_
  rintro e w1 ⟨rfl, hb1, hi1⟩
  have HB1 := Lib.hid hb1
  have HI1 := Lib.hid hi1
  clear hb1 HA hi1
  go_wp2_with fail
  refine (apartLongs_none gb _ (HI1.out.cell (HF.out.none_ 2 (by decide) (by decide)))).mono ?_
  rintro e w' ⟨rfl, rfl⟩
  go_wp2_with fail
  refine (apartBools_none gb _ (HI1.out.cell (HF.out.none_ 3 (by decide) (by decide)))).mono ?_
  rintro e w' ⟨rfl, rfl⟩
  go_wp2_with fail
  refine (apartTexts_none gb _ (HI1.out.cell (HF.out.none_ 4 (by decide) (by decide)))).mono ?_
  rintro e w' ⟨rfl, rfl⟩
  go_wp2_with fail
  refine (apartNodes_none gb _ (HI1.out.cell (HF.out.none_ 5 (by decide) (by decide)))).mono ?_
  rintro e w' ⟨rfl, rfl⟩
  go_wp2_with fail
  refine (apartCos_none gb _ (HI1.out.cell (HF.out.none_ 6 (by decide) (by decide)))).mono ?_
  rintro e w' ⟨rfl, rfl⟩
  go_wp2_with fail
  refine (apartSeen_none gb _ (HI1.out.cell (HF.out.none_ 7 (by decide) (by decide)))).mono ?_
  rintro e w' ⟨rfl, rfl⟩
  go_wp2_with fail
  refine (apartSites_none gb _ (HI1.out.cell (HF.out.none_ 8 (by decide) (by decide)))).mono ?_
  rintro e w' ⟨rfl, rfl⟩
  go_wp2_with fail
  refine (apartIns_none gb _ (HI1.out.cell (HF.out.none_ 9 (by decide) (by decide)))).mono ?_
  rintro e w' ⟨rfl, rfl⟩
  go_wp2_with fail
  refine (apartImports_none gb _ (HI1.out.cell (HF.out.none_ 10 (by decide) (by decide)))).mono ?_
  rintro e w' ⟨rfl, rfl⟩
  go_wp2_with fail
  refine (apartTraps_none gb _ (HI1.out.cell (HF.out.none_ 11 (by decide) (by decide)))).mono ?_
  rintro e w' ⟨rfl, rfl⟩
  go_wp2_with fail
  refine (apartRows_none gb _ (HI1.out.cell (HF.out.none_ 12 (by decide) (by decide)))).mono ?_
  rintro e w' ⟨rfl, rfl⟩
  go_wp2_with fail
  refine (apartDefs_none gb _ (HI1.out.cell (HF.out.none_ 13 (by decide) (by decide)))).mono ?_
  rintro e w' ⟨rfl, rfl⟩
  go_wp2_with fail
  refine (apartModules_none gb _ (HI1.out.cell (HF.out.none_ 14 (by decide) (by decide)))).mono ?_
  rintro e w' ⟨rfl, rfl⟩
  go_wp2_with fail
  refine (apartFunctions_none gb _ (HI1.out.cell (HF.out.none_ 15 (by decide) (by decide)))).mono ?_
  rintro e w' ⟨rfl, rfl⟩
  go_wp2_with fail
  refine (apartWaits_none gb _ (HI1.out.cell (HF.out.none_ 16 (by decide) (by decide)))).mono ?_
  rintro e w' ⟨rfl, rfl⟩
  go_wp2_with fail
  refine (apartTrees_none gb _ (HI1.out.cell (HF.out.none_ 17 (by decide) (by decide)))).mono ?_
  rintro e w' ⟨rfl, rfl⟩
  go_wp2_with fail
  go_ret
  exact ⟨rfl, HB1.out⟩
/-- What a bag is after one more list. -/
def AddRes (gb B : Nat) (R : List Value) (L : Nat → Nat) (o : Option Nat) (v : Value) (w : World) (e : Ending) (w' : World) : Prop :=
  e = .returned (.tuple #[]) ∧ ∃ bv' cs', Full2 3 30 1 gb B (R ++ [v]) L bv' cs' w' ∧ KeepN gb o w w' ∧ (bv'.ownBlock = o ∨ ∃ b, bv'.ownBlock = some b ∧ w.heap.size ≤ b)
set_option maxRecDepth 100000 in
set_option maxHeartbeats 1600000 in
theorem AddInts2_any (gb B : Nat) (R : List Value) (L : Nat → Nat) (bv v : Value) (cs : Array Value) (xs : List Value) (w : World) (h : Full2 3 30 1 gb B R L bv cs w) (hv : w.ownsRow B 3 1 v (L R.length) xs) (hA : ∀ u ∈ R, Culp.Apart v u) (hR : R.length < 300) :
    Calls Tryz.prog 16 #[.pointer (some ⟨gb, 0, none⟩), v] w (AddRes gb B R L bv.ownBlock v w) := by
  have c1 := h.bagis.cell h.at_
  have f1 := h.bagis.free 1
  have HF := Lib.hid h
  have HV := Lib.hid hv
  have HA := Lib.hid hA
  have own4 := h.bag
  have hB := h.le
  obtain ⟨Av, cv, rfl⟩ := own_shape hv
  obtain ⟨Ab, cb, rfl⟩ := own_shape h.bag
  have hR2 : R.length < 300 := hR
  clear h hv hA
  go_enter Tryz.func16, Tryz.ntmps16
  go_wp2_with (at_builtin; refine append_agg_at rfl (.tmp 14) (.tmp 16) 45 30 rfl B _ 1 24 Tryz.underlying45 sints_info rfl (by decide) _ _ _ rfl own4 [.slice Av (L R.length) cv] rfl w.heap.size rfl rfl ?_ ?_ ?_ hB ?_)
  · first
      | rfl
      | (intro y hy; simp only [List.mem_cons, List.not_mem_nil, or_false] at hy; subst hy; rfl)
  · omega
  · omega
  intro bv' w5 hown' hg' hb' hat
  have hF5 := HF.out.add (by decide) (by decide) (by decide) (by decide) HV.out HA.out hown' hg' hb'
  have h5 : BagIs gb cs w5 := HF.out.bagis.grown hg' (HF.out.bagis.ne HF.out.bag (by decide))
  obtain ⟨A5, k5, rfl⟩ := own_shape hown'
  have c5 := h5.cell HF.out.at_
  have f5 := h5.free 1
  have HR : Hid (AddRes gb B R L (Value.slice Ab R.length cb).ownBlock (.slice Av (L R.length) cv) w (.returned (.tuple #[])) (w5.setCell ⟨gb, 1, none⟩ (.slice A5 (R.length + 1) k5))) := Lib.hid ⟨rfl, _, _, hF5, keepN_put hg' 1 _, by
    rcases hat with e | e
    · exact .inl e
    · exact .inr ⟨_, e, Nat.le_succ _⟩⟩
  clear hown' hg' hb' hat own4 h5 hF5 c1 f1
  go_wp2_with fail
  exact bodyPost_end (v := .tuple #[]) (by simp [results, Tryz.results16, go_sem]) rfl HR.out
end Go.Proofs.YtidholghbjljaaaGreatDoor


/- Walks of parse: round brackets. -/
import Derived.Test.YtnhdbjhdmdefmaaDoorZm
namespace Culp.Gr
set_option linter.unusedSimpArgs false
set_option linter.unusedVariables false
open Go Go.RowKit Culp Culp.Tr Go.Proofs.YtnhdbjhdmdefmaaDoor
/-- What stands in round brackets. -/
def brS (L : List Tok) (n i : Nat) (lg : List Nat) (p : Nat × Nat) : Res := bnd (px L n .expr i lg) fun e =>
  if isM L [58] e.2.1 then bnd (whole L (e.2.1 + 1) e.2.2) fun r => bnd (want L [41] r.2.1) fun c => .ok (mk 29 (pl L e.2.1) e.1 0 [] r.1 [], c, r.2.2)
  else if isM L [44] e.2.1 then bnd (px L n .expr (e.2.1 + 1) e.2.2) fun g => bnd (want L [41] g.2.1) fun c => .ok (mk 18 p (cat e.1 g.1) 0 [] [] [], c, g.2.2)
  else bnd (want L [41] e.2.1) fun c => .ok (e.1, c, e.2.2)
theorem brS_as {L : List Tok} {n i : Nat} {lg : List Nat} {p q : Nat × Nat} {ee : F × Nat × List Nat} (h : px L n .expr i lg = .ok ee) (hm : isM L [58] ee.2.1 = true) (hq : pl L ee.2.1 = q) : brS L n i lg p = bnd (whole L (ee.2.1 + 1) ee.2.2) fun r => bnd (want L [41] r.2.1) fun c => .ok (mk 29 q ee.1 0 [] r.1 [], c, r.2.2) := by
  unfold brS
  rw [h, bnd_ok, if_pos hm, hq]
theorem brS_two {L : List Tok} {n i : Nat} {lg : List Nat} {p : Nat × Nat} {ee : F × Nat × List Nat} (h : px L n .expr i lg = .ok ee) (hm : isM L [58] ee.2.1 = false) (hm2 : isM L [44] ee.2.1 = true) : brS L n i lg p = bnd (px L n .expr (ee.2.1 + 1) ee.2.2) fun g => bnd (want L [41] g.2.1) fun c => .ok (mk 18 p (cat ee.1 g.1) 0 [] [] [], c, g.2.2) := by
  unfold brS
  rw [h, bnd_ok, if_neg (no_true hm), if_pos hm2]
theorem brS_one {L : List Tok} {n i : Nat} {lg : List Nat} {p : Nat × Nat} {ee : F × Nat × List Nat} (h : px L n .expr i lg = .ok ee) (hm : isM L [58] ee.2.1 = false) (hm2 : isM L [44] ee.2.1 = false) : brS L n i lg p = bnd (want L [41] ee.2.1) fun c => .ok (ee.1, c, ee.2.2) := by
  unfold brS
  rw [h, bnd_ok, if_neg (no_true hm), if_neg (no_true hm2)]
end Culp.Gr
namespace Go.Proofs.YtnhdbjhdmdefmaaDoor
set_option linter.unusedSimpArgs false
set_option linter.unusedVariables false
open Go.RowKit Culp Culp.Tr Culp.Gr
section
variable {pb B : Nat} {L : List Tok} {tv : Value} {e : Nat × Nat}
set_option maxRecDepth 100000 in
set_option maxHeartbeats 6400000 in
theorem bracket_step {n : Nat} (hE : ExC pb B L tv e n) {i : Nat} {lg : List Nat} {lv : Value} {w : World} (h : PS pb B L tv e i lg lv w) (hn : 8 * (L.length - i) + 7 < n) (x y : Nat) :
    Calls Tryd.prog 75 #[.pointer (some ⟨pb, 0, none⟩), .agg #[.int .i64 x, .int .i64 y]] w (PRes BR (brS L n i lg (x, y)) pb B L tv e lv w) := by
  have hsm := h.small
  have hle0 := h.le
  have HE := Lib.hid hE
  have HWa := Lib.hid (Went.refl h)
  have HUPa : Hid (∀ spec E w', PRes BR spec pb B L tv e lv w E w' → PRes BR spec pb B L tv e lv w E w') := Lib.hid fun _ _ _ h => h
  clear h hE
  obtain ⟨lvb, k1, k2, k3⟩ := HWa.out
  have hbb : Below w.heap.size w (w.alloc (.cells #[.int .i64 x, .int .i64 y] 25)) := (Below.refl _ _).alloc (Nat.le_refl _) _
  have HUPb : Hid (∀ spec E w', PRes BR spec pb B L tv e lvb (w.alloc (.cells #[.int .i64 x, .int .i64 y] 25)) E w' → PRes BR spec pb B L tv e lv w E w') := Lib.hid fun spec E w' hr => hr.from_ k1 k3 hbb
  have HUWb : Hid (∀ (k : Nat) (lg' : List Nat) (w' : World), Went pb B L tv e lvb k lg' (w.alloc (.cells #[.int .i64 x, .int .i64 y] 25)) w' → Went pb B L tv e lv k lg' w w') := Lib.hid fun k lg' w' hr => Went.trans k1 k3 (Went.trans (KeepN.of pb _ hbb) (.inl rfl) hr)
  have HBXb : Hid (∀ (k : Nat) (lg' : List Nat) (w' : World), Went pb B L tv e lvb k lg' (w.alloc (.cells #[.int .i64 x, .int .i64 y] 25)) w' → Blk w.heap.size #[.int .i64 x, .int .i64 y] 25 w') := Lib.hid fun k lg' w' hw => hw.boxed k2 (Blk.alloc _ _ _)
  have HWb := Lib.hid (Went.refl (k2.later hbb))
  clear k1 k2 k3 hbb HWa
  have HE1 : Hid (∀ j, px L n .expr i lg = .error j → brS L n i lg (x, y) = .error j) := Lib.hid fun j hj => by unfold brS; rw [hj]; rfl
  go_enter Tryd.func75, Tryd.ntmps75
  go_wp2_with fail
  (refine (HWb.out.call (R := BR) (spec := px L n .expr i lg) (fun lv1 h1 => HE.out i lg lv1 _ h1 (by omega))).mono ?_)
  rintro E w1 ⟨hr, hkb1⟩
  cases hs1 : px L n .expr i lg with
  | error j =>
    rw [hs1] at hr
    obtain ⟨rfl, hk⟩ := hr
    refine ⟨rfl, HUPb.out _ _ _ ?_⟩
    rw [HE1.out _ hs1]
    exact ⟨rfl, hk⟩
  | ok ee =>
    have hb1 := ex_bound hs1 hle0
    rw [hs1] at hr
    obtain ⟨v, rfl, ⟨q1, rfl, hk1⟩, hw⟩ := hr
    have HW1 := Lib.hid hw
    have HS1 := Lib.hid hs1
    clear hw HWb hs1
    have HK1 := Lib.hid hk1
    clear hk1 HE1
    obtain ⟨lv3, hp3⟩ := HW1.out.at_
    have HH2 := Lib.hid (here_any hp3)
    clear hp3
    go_wp2_with fail
    refine HH2.out.mono ?_
    rintro E w2 ⟨rfl, hb2⟩
    have HW2 := Lib.hid (HW1.out.later hb2)
    have HK2 := Lib.hid (BrL.kb _ HK1.out (KB.below hb2))
    clear HW1 HH2 HK1 hb2
    obtain ⟨kk2, m2, x2, y2, hC, -, -, hxy2⟩ := tokC_lit3 L e ee.2.1
    rw [hC]
    have HXY2 := Lib.hid hxy2
    clear hC hxy2
    obtain ⟨lvc, k1, k2, k3⟩ := HW2.out
    have hbb : Below w2.heap.size w2 (w2.alloc (.cells #[.int .i64 x2, .int .i64 y2] 25)) := (Below.refl _ _).alloc (Nat.le_refl _) _
    have HUPc : Hid (∀ spec E w', PRes BR spec pb B L tv e lvc (w2.alloc (.cells #[.int .i64 x2, .int .i64 y2] 25)) E w' → PRes BR spec pb B L tv e lv w E w') := Lib.hid fun spec E w' hr => HUPb.out spec E w' (hr.from_ k1 k3 hbb)
    have HUWc : Hid (∀ (k : Nat) (lg' : List Nat) (w' : World), Went pb B L tv e lvc k lg' (w2.alloc (.cells #[.int .i64 x2, .int .i64 y2] 25)) w' → Went pb B L tv e lvb k lg' (w.alloc (.cells #[.int .i64 x, .int .i64 y] 25)) w') := Lib.hid fun k lg' w' hr => Went.trans k1 k3 (Went.trans (KeepN.of pb _ hbb) (.inl rfl) hr)
    have HBXc : Hid (∀ (k : Nat) (lg' : List Nat) (w' : World), Went pb B L tv e lvc k lg' (w2.alloc (.cells #[.int .i64 x2, .int .i64 y2] 25)) w' → Blk w2.heap.size #[.int .i64 x2, .int .i64 y2] 25 w') := Lib.hid fun k lg' w' hw => hw.boxed k2 (Blk.alloc _ _ _)
    have HWc := Lib.hid (Went.refl (k2.later hbb))
    clear k1 k2 k3 hbb HW2
    have HT := Lib.hid (went_takes HWc.out [58])
    have HKc : Hid (BrL (w2.alloc (.cells #[.int .i64 x2, .int .i64 y2] 25)) [.pointer (some ⟨q1, 0, none⟩)] ee.1) := Lib.hid (BrL.kb _ HK2.out (KB.below ((Below.refl _ _).alloc (Nat.le_refl _) _)))
    clear HK2 HWc
    simp only [by_] at HT
    have hf3 := @field_at
    go_wp2_with fail
    clear hf3
    refine HT.out.mono ?_
    rintro E w3 ⟨rfl, hw3, hkb3⟩
    have HW3 := Lib.hid hw3
    have HK3 := Lib.hid (BrL.kb _ HKc.out hkb3)
    clear HT hw3 hkb3 HKc
    cases hm : isM L [58] ee.2.1 with
    | true =>
      have hlt := isM_lt hm
      have HQ := Lib.hid (brS_as (p := (x, y)) HS1.out hm (by rw [← here_pl e hlt, ← HXY2.out]))
      have HW4 : Hid (Went pb B L tv e lvc (ee.2.1 + 1) ee.2.2 (w2.alloc (.cells #[.int .i64 x2, .int .i64 y2] 25)) w3) := Lib.hid (by have := HW3.out; rwa [adv_yes hm] at this)
      clear hm HW3 HS1 HXY2 HBXb HUWb HUPb
      go_wp2_with fail
      (refine (HW4.out.call (R := StrR) (spec := whole L (ee.2.1 + 1) ee.2.2) (fun lv1 h1 => whole_any h1)).mono ?_)
      rintro E w5 ⟨hr, hkb5⟩
      cases hs5 : whole L (ee.2.1 + 1) ee.2.2 with
      | error j =>
        rw [hs5] at hr
        obtain ⟨rfl, hk⟩ := hr
        refine ⟨rfl, HUPc.out _ _ _ ?_⟩
        rw [HQ.out,hs5]
        exact ⟨rfl, hk⟩
      | ok r =>
        rw [hs5] at hr
        obtain ⟨v, rfl, hv, hw⟩ := hr
        have HW5 := Lib.hid hw
        have HS5 := Lib.hid hs5
        clear hw HW4 hs5
        obtain rfl : v = _ := hv
        have HK5 := Lib.hid (BrL.kb _ HK3.out hkb5)
        have bx := HBXc.out _ _ _ HW5.out
        have c0 := bx.cell (i := 0) rfl
        have c1 := bx.cell (i := 1) rfl
        clear bx HK3 hkb5
        go_wp2_with fail
        refine (node_any 29 x2 y2 (some ⟨w5.heap.size, 0, none⟩) 1 1 _).mono ?_
        rintro E wn ⟨b, rfl, hle, hbn, hkn⟩
        clear c0 c1
        have hbe := below_set (u := .string (by_ r.1)) (j := 4) hbn hle
        have HMD := Lib.hid (made (ps := [.pointer (some ⟨q1, 0, none⟩)]) (kind := 29) (N := 0) (p := (x2, y2)) (s := []) (t := r.1) (x := []) HK5.out rfl hbe (blk_set hkn 4 (.string (by_ r.1))))
        have HW6 := Lib.hid (HW5.out.later (below_later hbe ((Below.refl _ _).alloc (Nat.le_refl _) _)))
        have g4 := hkn.cell (i := 4) rfl
        have f4 := hkn.free 4
        clear hbn hbe HW5 HK5
        have HG := Lib.hid hkn
        clear hkn
        go_wp2_with fail
        clear g4 f4 HG
        obtain ⟨b', hb', hm'⟩ := HMD.out
        injection hb' with hb'
        injection hb' with hb'
        injection hb' with hb'
        subst hb'
        (refine (HW6.out.call (R := TokR L e r.2.1) (spec := tokS (want L [41] r.2.1) r.2.2) (fun lv1 h1 => wants_any h1 [41])).mono ?_)
        rintro E w7 ⟨hr, hkb7⟩
        cases hs7 : want L [41] r.2.1 with
        | error j =>
          rw [hs7] at hr
          obtain ⟨rfl, hk⟩ := hr
          refine ⟨rfl, HUPc.out _ _ _ ?_⟩
          rw [HQ.out, HS5.out, bnd_ok,hs7]
          exact ⟨rfl, hk⟩
        | ok c =>
          have hbrf := BrL.kb _ hm' hkb7
          rw [hs7] at hr
          obtain ⟨v, rfl, -, hw⟩ := hr
          have HR : Hid (PRes BR (brS L n i lg (x, y)) pb B L tv e lv w (.returned (.pointer (some ⟨b, 0, none⟩))) w7) := Lib.hid (HUPc.out _ _ _ (by
            rw [HQ.out, HS5.out, bnd_ok, hs7, bnd_ok]
            exact ⟨_, rfl, ⟨_, rfl, hbrf⟩, hw⟩))
          clear hw hbrf hs7 HUPc hm' HMD HQ HS5
          go_wp2_with fail
          go_ret
          exact HR.out
    | false =>
      have HM := Lib.hid hm
      have HT := Lib.hid (went_takes HW3.out [44])
      rw [adv_no hm] at HT
      simp only [by_] at HT
      clear hm HW3
      go_wp2_with fail
      refine HT.out.mono ?_
      clear HT
      rintro E w4 ⟨rfl, hw4, hkb4⟩
      have HK4 := Lib.hid (BrL.kb _ HK3.out hkb4)
      cases hm2 : isM L [44] ee.2.1 with
      | true =>
        have hlt := isM_lt hm2
        have HQ := Lib.hid (brS_two (p := (x, y)) HS1.out HM.out hm2)
        rw [adv_yes hm2] at hw4
        have HW5 := Lib.hid hw4
        have HBXd := Lib.hid (fun k lg' w' hw => HBXb.out k lg' w' (HUWc.out k lg' w' hw))
        have HUPd := HUPc
        clear hw4 hkb4 hm2 HM HS1 HXY2 HBXb HUWb HUPb HUWc HBXc HUPc HK3
        go_wp2_with fail
        have bx := HBXd.out _ _ _ HW5.out
        have c0 := bx.cell (i := 0) rfl
        have c1 := bx.cell (i := 1) rfl
        clear bx
        refine wp_region_plan (S := fun w' => w'.cell? ⟨w.heap.size, 0, none⟩ = some (.int .i64 x) ∧ w'.cell? ⟨w.heap.size, 1, none⟩ = some (.int .i64 y)) [(0, true), (1, true), (2, true), (3, false), (4, false), (5, false), (6, true)] (by kernel_rfl) (by kernel_rfl) (by kernel_rfl) (fun _ _ _ _ _ h => h) ⟨c0, c1⟩ ?_
        intro HSc
        repeat (first | (apply wpPlan_look; rfl; rfl; (intro wq hq; (try dsimp only at hq); go_split_ands; go_simp; (try rw [if_neg (by omega)]); (try rw [if_pos (by omega)]); try with_reducible rfl); simp only [Act.put, List.setIfInBounds_toArray, List.set_cons_zero, List.set_cons_succ]) | (apply wpPlan_skip; rfl; rfl; simp only [Act.put, List.setIfInBounds_toArray, List.set_cons_zero, List.set_cons_succ]) | (apply wpPlan_pass; rfl; rfl; assumption; simp only [Act.put, List.setIfInBounds_toArray, List.set_cons_zero, List.set_cons_succ]))
        clear HSc c0 c1
        (apply wpPlan_callS; rfl; rfl; rfl; rfl; kernel_rfl; exact (HW5.out.later ((Below.refl _ _).drew)).call (R := BR) (spec := px L n .expr (ee.2.1 + 1) ee.2.2) (fun lv1 h1 => HE.out (ee.2.1 + 1) ee.2.2 lv1 _ h1 (by omega)); rfl; rintro E w6 ⟨hr, hkb6⟩)
        cases hs6 : px L n .expr (ee.2.1 + 1) ee.2.2 with
        | error j =>
          rw [hs6] at hr
          obtain ⟨rfl, hk⟩ := hr
          refine .inr ⟨_, rfl, rfl, HUPd.out _ _ _ ?_⟩
          rw [HQ.out,hs6]
          exact ⟨rfl, hk⟩
        | ok g =>
          have hbr : BrL w6 [.pointer (some ⟨q1, 0, none⟩)] ee.1 := BrL.kb _ HK4.out hkb6
          rw [hs6] at hr
          obtain ⟨v, rfl, ⟨q0, rfl, hbr6⟩, hw⟩ := hr
          have HW6 := Lib.hid hw
          have HS6 := Lib.hid hs6
          have bx := HBXd.out _ _ _ hw
          have c0 := bx.cell (i := 0) rfl
          have c1 := bx.cell (i := 1) rfl
          clear bx hw HW5 hs6
          refine .inl ⟨_, rfl, _, fun _ h => h, ⟨c0, c1⟩, ?_⟩
          simp only [Act.put, List.setIfInBounds_toArray, List.set_cons_zero, List.set_cons_succ]
          repeat (first | (apply wpPlan_look; rfl; rfl; (intro wq hq; (try dsimp only at hq); go_split_ands; go_simp; (try rw [if_neg (by omega)]); (try rw [if_pos (by omega)]); try with_reducible rfl); simp only [Act.put, List.setIfInBounds_toArray, List.set_cons_zero, List.set_cons_succ]) | (apply wpPlan_skip; rfl; rfl; simp only [Act.put, List.setIfInBounds_toArray, List.set_cons_zero, List.set_cons_succ]) | (apply wpPlan_pass; rfl; rfl; assumption; simp only [Act.put, List.setIfInBounds_toArray, List.set_cons_zero, List.set_cons_succ]))
          have hbk : Below w6.heap.size w6 (w6.alloc (.cells #[.pointer (some ⟨q1, 0, none⟩), .pointer (some ⟨q0, 0, none⟩)] 55)) := (Below.refl _ _).alloc (Nat.le_refl _) _
          have d0 := cell_later hbk c0
          have d1 := cell_later hbk c1
          refine wpPlan_run rfl rfl (by simp [execOp, go_sem, build_p1, build_p2, build_p3] <;> (first | exact ⟨rfl, rfl⟩ | rfl)) _ (fun _ h => h) ⟨d0, d1⟩ ?_
          simp only [Act.put, List.setIfInBounds_toArray, List.set_cons_zero, List.set_cons_succ]
          repeat (first | (apply wpPlan_look; rfl; rfl; (intro wq hq; (try dsimp only at hq); go_split_ands; go_simp; (try rw [if_neg (by omega)]); (try rw [if_pos (by omega)]); try with_reducible rfl); simp only [Act.put, List.setIfInBounds_toArray, List.set_cons_zero, List.set_cons_succ]) | (apply wpPlan_skip; rfl; rfl; simp only [Act.put, List.setIfInBounds_toArray, List.set_cons_zero, List.set_cons_succ]) | (apply wpPlan_pass; rfl; rfl; assumption; simp only [Act.put, List.setIfInBounds_toArray, List.set_cons_zero, List.set_cons_succ]))
          have HBK := Lib.hid hbk
          clear c0 c1 hbk
          (apply wpPlan_call; rfl; rfl; rfl; rfl; kernel_rfl; exact node_any 18 x y (some ⟨w6.heap.size, 0, none⟩) 2 2 _; rfl; rintro E wn ⟨b, rfl, hle, hbn, hkn⟩)
          have HBN := Lib.hid hbn
          have HKN := Lib.hid hkn
          refine ⟨_, rfl, as_S ⟨cell_later hbn d0, cell_later hbn d1⟩ ?_⟩
          intro HSc
          simp only [Act.put, List.setIfInBounds_toArray, List.set_cons_zero, List.set_cons_succ]
          repeat (first | (apply wpPlan_look; rfl; rfl; (intro wq hq; (try dsimp only at hq); go_split_ands; go_simp; (try rw [if_neg (by omega)]); (try rw [if_pos (by omega)]); try with_reducible rfl); simp only [Act.put, List.setIfInBounds_toArray, List.set_cons_zero, List.set_cons_succ]) | (apply wpPlan_skip; rfl; rfl; simp only [Act.put, List.setIfInBounds_toArray, List.set_cons_zero, List.set_cons_succ]) | (apply wpPlan_pass; rfl; rfl; assumption; simp only [Act.put, List.setIfInBounds_toArray, List.set_cons_zero, List.set_cons_succ]))
          apply wpPlan_done
          clear HSc d0 d1 hbn hkn
          obtain ⟨b', hb', hm'⟩ := made (ps := [.pointer (some ⟨q1, 0, none⟩), .pointer (some ⟨q0, 0, none⟩)]) (kind := 18) (N := 0) (p := (x, y)) (s := []) (t := []) (x := []) (BrL.cat _ _ hbr hbr6) rfl HBN.out HKN.out
          injection hb' with hb'
          injection hb' with hb'
          injection hb' with hb'
          subst hb'
          have HM9 := Lib.hid hm'
          have HW8 := Lib.hid (HW6.out.later (below_later HBN.out ((Below.refl _ _).alloc (Nat.le_refl _) _)))
          clear HBN HKN HW6 hbr hbr6 HK4 hkb6 hm'
          go_wp2_with fail
          (refine (HW8.out.call (R := TokR L e g.2.1) (spec := tokS (want L [41] g.2.1) g.2.2) (fun lv1 h1 => wants_any h1 [41])).mono ?_)
          rintro E w9 ⟨hr, hkb9⟩
          cases hs9 : want L [41] g.2.1 with
          | error j =>
            rw [hs9] at hr
            obtain ⟨rfl, hk⟩ := hr
            refine ⟨rfl, HUPd.out _ _ _ ?_⟩
            rw [HQ.out, HS6.out, bnd_ok,hs9]
            exact ⟨rfl, hk⟩
          | ok c =>
            have hbrf := BrL.kb _ HM9.out hkb9
            rw [hs9] at hr
            obtain ⟨v, rfl, -, hw⟩ := hr
            have HR : Hid (PRes BR (brS L n i lg (x, y)) pb B L tv e lv w (.returned (.pointer (some ⟨b, 0, none⟩))) w9) := Lib.hid (HUPd.out _ _ _ (by
              rw [HQ.out, HS6.out, bnd_ok,hs9, bnd_ok]
              exact ⟨_, rfl, ⟨_, rfl, hbrf⟩, hw⟩))
            clear hw hbrf hs9 HUPd
            go_wp2_with fail
            go_ret
            exact HR.out
      | false =>
        have HQ := Lib.hid (brS_one (p := (x, y)) HS1.out HM.out hm2)
        rw [adv_no hm2] at hw4
        have HW5 := Lib.hid hw4
        clear hw4 hkb4 hm2 HM HS1 HXY2 HBXb HUWb HUPb HUWc HBXc HK3
        go_wp2_with fail
        (refine (HW5.out.call (R := TokR L e ee.2.1) (spec := tokS (want L [41] ee.2.1) ee.2.2) (fun lv1 h1 => wants_any h1 [41])).mono ?_)
        rintro E w9 ⟨hr, hkb9⟩
        cases hs9 : want L [41] ee.2.1 with
        | error j =>
          rw [hs9] at hr
          obtain ⟨rfl, hk⟩ := hr
          refine ⟨rfl, HUPc.out _ _ _ ?_⟩
          rw [HQ.out,hs9]
          exact ⟨rfl, hk⟩
        | ok c =>
          have hbrf := BrL.kb _ HK4.out hkb9
          rw [hs9] at hr
          obtain ⟨v, rfl, -, hw⟩ := hr
          have HR : Hid (PRes BR (brS L n i lg (x, y)) pb B L tv e lv w (.returned (.pointer (some ⟨q1, 0, none⟩))) w9) := Lib.hid (HUPc.out _ _ _ (by
            rw [HQ.out,hs9, bnd_ok]
            exact ⟨_, rfl, ⟨_, rfl, hbrf⟩, hw⟩))
          clear hw hbrf hs9 HUPc
          go_wp2_with fail
          go_ret
          exact HR.out
end
end Go.Proofs.YtnhdbjhdmdefmaaDoor


/- Walks of parse: words. -/
import Derived.Test.YtnhdbjhdmdefmaaDoorZo
namespace Culp.Gr
set_option linter.unusedSimpArgs false
set_option linter.unusedVariables false
open Go Go.RowKit Culp Culp.Tr Go.Proofs.YtnhdbjhdmdefmaaDoor
/-- What a word begins. -/
def woS (L : List Tok) (n i : Nat) (lg : List Nat) (p : Nat × Nat) (s : List UInt8) : Res :=
  if s = sTrue then .ok (mk 3 p .nil 1 [] [] [], i + 1, lg)
  else if s = sFalse then .ok (mk 3 p .nil 0 [] [] [], i + 1, lg)
  else if applied s = 0 then .error i
  else bnd (want L [40] (i + 1)) fun a => bnd (px L n .expr a lg) fun e =>
    if applied s = 25 then bnd (want L [44] e.2.1) fun b => bnd (px L n .expr b e.2.2) fun g => bnd (want L [41] g.2.1) fun c => .ok (mk 25 p (cat e.1 g.1) 0 [] [] [], c, g.2.2)
    else bnd (want L [41] e.2.1) fun c => .ok (mk (applied s) p e.1 0 [] [] [], c, e.2.2)
theorem Went.back {pb B i : Nat} {L : List Tok} {tv lv : Value} {e : Nat × Nat} {lg : List Nat} {w w1 : World} (h : Went pb B L tv e lv (i + 1) lg w w1) (hlg : lg.length ≤ i) : Went pb B L tv e lv i lg w (w1.setCell ⟨pb, 1, none⟩ (.int .i64 i)) := by
  obtain ⟨lv2, k1, k2, k3⟩ := h
  exact Went.trans k1 k3 ⟨lv2, keepN_cell _ _ _ _ _, k2.go i (by have := k2.le; omega) hlg, .inl rfl⟩
end Culp.Gr
namespace Go.Proofs.YtnhdbjhdmdefmaaDoor
set_option linter.unusedSimpArgs false
set_option linter.unusedVariables false
open Go.RowKit Culp Culp.Tr Culp.Gr
section
variable {pb B : Nat} {L : List Tok} {tv : Value} {e : Nat × Nat}
set_option maxRecDepth 100000 in
set_option maxHeartbeats 6400000 in
theorem word_step {n : Nat} (hE : ExC pb B L tv e n) {i : Nat} {lg : List Nat} {lv : Value} {w : World} (h : PS pb B L tv e (i + 1) lg lv w) (hlg : lg.length ≤ i) (hn : 8 * (L.length - (i + 1)) + 7 < n) (kk mm x y : Nat) (s : List UInt8) :
    Calls Tryd.prog 74 #[.pointer (some ⟨pb, 0, none⟩), .agg #[.int .i8 kk, .int .i64 mm, .string (by_ s), .int .i64 x, .int .i64 y]] w (PRes BR (woS L n i lg (x, y) s) pb B L tv e lv w) := by
  have hsm := h.small
  have hle0 := h.le
  have HE := Lib.hid hE
  have HWa := Lib.hid (Went.refl h)
  have HUPa : Hid (∀ spec E w', PRes BR spec pb B L tv e lv w E w' → PRes BR spec pb B L tv e lv w E w') := Lib.hid fun _ _ _ h => h
  clear h hE
  obtain ⟨lvb, k1, k2, k3⟩ := HWa.out
  have hbb : Below w.heap.size w (w.alloc (.cells #[.int .i8 kk, .int .i64 mm, .string (by_ s), .int .i64 x, .int .i64 y] 60)) := (Below.refl _ _).alloc (Nat.le_refl _) _
  have HUPb : Hid (∀ spec E w', PRes BR spec pb B L tv e lvb (w.alloc (.cells #[.int .i8 kk, .int .i64 mm, .string (by_ s), .int .i64 x, .int .i64 y] 60)) E w' → PRes BR spec pb B L tv e lv w E w') := Lib.hid fun spec E w' hr => hr.from_ k1 k3 hbb
  have HUWb : Hid (∀ (k : Nat) (lg' : List Nat) (w' : World), Went pb B L tv e lvb k lg' (w.alloc (.cells #[.int .i8 kk, .int .i64 mm, .string (by_ s), .int .i64 x, .int .i64 y] 60)) w' → Went pb B L tv e lv k lg' w w') := Lib.hid fun k lg' w' hr => Went.trans k1 k3 (Went.trans (KeepN.of pb _ hbb) (.inl rfl) hr)
  have HBXb : Hid (∀ (k : Nat) (lg' : List Nat) (w' : World), Went pb B L tv e lvb k lg' (w.alloc (.cells #[.int .i8 kk, .int .i64 mm, .string (by_ s), .int .i64 x, .int .i64 y] 60)) w' → Blk w.heap.size #[.int .i8 kk, .int .i64 mm, .string (by_ s), .int .i64 x, .int .i64 y] 60 w') := Lib.hid fun k lg' w' hw => hw.boxed k2 (Blk.alloc _ _ _)
  have HWb := Lib.hid (Went.refl (k2.later hbb))
  clear k1 k2 k3 hbb HWa
  by_cases x1 : s = sTrue
  · have HS : Hid (woS L n i lg (x, y) s = .ok (mk 3 (x, y) .nil 1 [] [] [], i + 1, lg)) := Lib.hid (by unfold woS; rw [if_pos x1])
    have e1 : ((by_ s).toList == [116, 114, 117, 101]) = true := by rw [by_list, x1]; decide
    clear x1
    go_enter Tryd.func74, Tryd.ntmps74
    go_wp2_with fail
    have bx := HBXb.out _ _ _ HWb.out
    generalize w.alloc (.cells #[.int .i8 kk, .int .i64 mm, .string (by_ s), .int .i64 x, .int .i64 y] 60) = W at *
    refine (node_any 3 x y none 0 0 _).mono ?_
    rintro E wn ⟨b, rfl, hle, hbn, hkn⟩
    have hbe := below_set (u := .int .i64 1) (j := 2) hbn hle
    have g2 := hkn.cell (i := 2) rfl
    have f2 := hkn.free 2
    have b2 := (bx.later hbn).cell (i := 2) rfl
    have HR : Hid (PRes BR (woS L n i lg (x, y) s) pb B L tv e lv w (.returned (.pointer (some ⟨b, 0, none⟩))) (wn.setCell ⟨b, 2, none⟩ (.int .i64 1))) := Lib.hid (HUPb.out _ _ _ (by
      rw [HS.out]
      exact ⟨_, rfl, made0 (kind := 3) (N := 1) (p := (x, y)) (s := []) (t := []) (x := []) (blk_set hkn 2 (.int .i64 1)), HWb.out.later hbe⟩))
    clear hbn hkn hbe bx HUPb HUWb HBXb
    go_wp2_with fail
    go_ret
    exact HR.out
  by_cases x2 : s = sFalse
  · have HS : Hid (woS L n i lg (x, y) s = .ok (mk 3 (x, y) .nil 0 [] [] [], i + 1, lg)) := Lib.hid (by unfold woS; rw [if_neg x1, if_pos x2])
    have e1 : ((by_ s).toList == [116, 114, 117, 101]) = false := by rw [by_list]; exact beq_eq_false_iff_ne.2 x1
    have e2 : ((by_ s).toList == [102, 97, 108, 115, 101]) = true := by rw [by_list, x2]; decide
    clear x1 x2
    go_enter Tryd.func74, Tryd.ntmps74
    go_wp2_with fail
    have bx := HBXb.out _ _ _ HWb.out
    generalize w.alloc (.cells #[.int .i8 kk, .int .i64 mm, .string (by_ s), .int .i64 x, .int .i64 y] 60) = W at *
    refine (node_any 3 x y none 0 0 _).mono ?_
    rintro E wn ⟨b, rfl, hle, hbn, hkn⟩
    have b2 := (bx.later hbn).cell (i := 2) rfl
    have HR : Hid (PRes BR (woS L n i lg (x, y) s) pb B L tv e lv w (.returned (.pointer (some ⟨b, 0, none⟩))) wn) := Lib.hid (HUPb.out _ _ _ (by
      rw [HS.out]
      exact ⟨_, rfl, made0 (kind := 3) (N := 0) (p := (x, y)) (s := []) (t := []) (x := []) hkn, HWb.out.later hbn⟩))
    clear hbn hkn bx HUPb HUWb HBXb
    go_wp2_with fail
    go_ret
    exact HR.out
  have e1 : ((by_ s).toList == [116, 114, 117, 101]) = false := by rw [by_list]; exact beq_eq_false_iff_ne.2 x1
  have e2 : ((by_ s).toList == [102, 97, 108, 115, 101]) = false := by rw [by_list]; exact beq_eq_false_iff_ne.2 x2
  have HS0 : Hid (applied s = 0 → woS L n i lg (x, y) s = .error i) := Lib.hid fun h0 => by unfold woS; rw [if_neg x1, if_neg x2, if_pos h0]
  have HS1 : Hid (applied s = 25 → woS L n i lg (x, y) s = bnd (want L [40] (i + 1)) fun a => bnd (px L n .expr a lg) fun e => bnd (want L [44] e.2.1) fun b => bnd (px L n .expr b e.2.2) fun g => bnd (want L [41] g.2.1) fun c => .ok (mk 25 (x, y) (cat e.1 g.1) 0 [] [] [], c, g.2.2)) := Lib.hid fun h0 => by
    unfold woS
    rw [if_neg x1, if_neg x2, if_neg (by omega)]
    simp only [if_pos h0]
  have HS2 : Hid (applied s ≠ 0 → applied s ≠ 25 → woS L n i lg (x, y) s = bnd (want L [40] (i + 1)) fun a => bnd (px L n .expr a lg) fun e => bnd (want L [41] e.2.1) fun c => .ok (mk (applied s) (x, y) e.1 0 [] [] [], c, e.2.2)) := Lib.hid fun h0 h5 => by
    unfold woS
    rw [if_neg x1, if_neg x2, if_neg h0]
    simp only [if_neg h5]
  have HAP := Lib.hid (applied_any s)
  clear x1 x2
  generalize applied s = k0 at *
  go_enter Tryd.func74, Tryd.ntmps74
  go_wp2_with fail
  refine (HAP.out _).mono ?_
  rintro E w0 ⟨rfl, rfl⟩
  clear HAP e1 e2
  have hsW : w.heap.size < (w.alloc (.cells #[.int .i8 kk, .int .i64 mm, .string (by_ s), .int .i64 x, .int .i64 y] 60)).heap.size := by rw [World.size_alloc]; omega
  generalize w.alloc (.cells #[.int .i8 kk, .int .i64 mm, .string (by_ s), .int .i64 x, .int .i64 y] 60) = W at *
  by_cases h0 : k0 = 0
  · have e0 : (((k0 : Nat) : Int) == 0) = true := beq_iff_eq.2 (by omega)
    have HS := Lib.hid (HS0.out h0)
    have p1 : W.cell? ⟨pb, 1, none⟩ = some (.int .i64 ((i : Int) + 1)) := HWb.out.c1
    have f1 := HWb.out.f1
    have HWc := Lib.hid (HWb.out.back hlg)
    clear h0 HS0 HS1 HS2 HWb
    go_wp2_with fail
    obtain ⟨lv3, hp3⟩ := HWc.out.at_
    refine (fail_any hp3).mono ?_
    rintro E w3 ⟨rfl, hb3⟩
    refine ⟨rfl, HUPb.out _ _ _ ?_⟩
    rw [HS.out]
    exact ⟨rfl, (HWc.out.later hb3).keep⟩
  have e0 : (((k0 : Nat) : Int) == 0) = false := beq_eq_false_iff_ne.2 (by omega)
  by_cases h5 : k0 = 25
  · have HS := Lib.hid (HS1.out h5)
    subst h5
    clear h0 HS0 HS1 HS2
    go_wp2_with fail
    (refine (HWb.out.call (R := TokR L e (i + 1)) (spec := tokS (want L [40] (i + 1)) lg) (fun lv1 h1 => wants_any h1 [40])).mono ?_)
    rintro E w1 ⟨hr, hkb1⟩
    cases hs1 : want L [40] (i + 1) with
    | error j =>
      rw [hs1] at hr
      obtain ⟨rfl, hk⟩ := hr
      refine ⟨rfl, HUPb.out _ _ _ ?_⟩
      rw [HS.out,hs1]
      exact ⟨rfl, hk⟩
    | ok a =>
      have hb1 := want_inv hs1
      rw [hs1] at hr
      obtain ⟨v, rfl, -, hw⟩ := hr
      have HW1 := Lib.hid hw
      have HS1 := Lib.hid hs1
      clear hw HWb hs1
      go_wp2_with fail
      (refine (HW1.out.call (R := BR) (spec := px L n .expr a lg) (fun lv1 h1 => HE.out a lg lv1 _ h1 (by omega))).mono ?_)
      rintro E w2 ⟨hr, hkb2⟩
      cases hs2 : px L n .expr a lg with
      | error j =>
        rw [hs2] at hr
        obtain ⟨rfl, hk⟩ := hr
        refine ⟨rfl, HUPb.out _ _ _ ?_⟩
        rw [HS.out, HS1.out, bnd_ok,hs2]
        exact ⟨rfl, hk⟩
      | ok ee =>
        have hb2 := ex_bound hs2 (by omega)
        rw [hs2] at hr
        obtain ⟨v, rfl, ⟨q1, rfl, hk1⟩, hw⟩ := hr
        have HW2 := Lib.hid hw
        have HS2 := Lib.hid hs2
        clear hw HW1 hs2
        have hba : Below w2.heap.size w2 (w2.alloc (.cells #[.pointer (some ⟨q1, 0, none⟩)] 55)) := (Below.refl _ _).alloc (Nat.le_refl _) _
        have HZ3 := Lib.hid (RowZ.one (v := .pointer (some ⟨q1, 0, none⟩)) HW2.out.keep.size)
        have HK3 := Lib.hid (BrL.kb _ hk1 (KB.below hba))
        have HW3 := Lib.hid (HW2.out.later hba)
        clear hk1 hba HW2 hkb1 hkb2
        go_wp2_with fail
        generalize w2.alloc (.cells #[.pointer (some ⟨q1, 0, none⟩)] 55) = W3 at *
        generalize w2.heap.size = g2 at *
        (refine (HW3.out.call (R := TokR L e ee.2.1) (spec := tokS (want L [44] ee.2.1) ee.2.2) (fun lv1 h1 => wants_any h1 [44])).mono ?_)
        rintro E w4 ⟨hr, hkb4⟩
        cases hs4 : want L [44] ee.2.1 with
        | error j =>
          rw [hs4] at hr
          obtain ⟨rfl, hk⟩ := hr
          refine ⟨rfl, HUPb.out _ _ _ ?_⟩
          rw [HS.out, HS1.out, bnd_ok, HS2.out, bnd_ok,hs4]
          exact ⟨rfl, hk⟩
        | ok bb =>
          have hb4 := want_inv hs4
          rw [hs4] at hr
          obtain ⟨v, rfl, -, hw⟩ := hr
          have HW4 := Lib.hid hw
          have HS4 := Lib.hid hs4
          clear hw HW3 hs4
          have HZ4 := Lib.hid (HZ3.out.kb hkb4)
          have HK4 := Lib.hid (BrL.kb _ HK3.out hkb4)
          clear HZ3 HK3 hkb4
          go_wp2_with fail
          (refine (HW4.out.call (R := BR) (spec := px L n .expr bb ee.2.2) (fun lv1 h1 => HE.out bb ee.2.2 lv1 _ h1 (by omega))).mono ?_)
          rintro E w5 ⟨hr, hkb5⟩
          cases hs5 : px L n .expr bb ee.2.2 with
          | error j =>
            rw [hs5] at hr
            obtain ⟨rfl, hk⟩ := hr
            refine ⟨rfl, HUPb.out _ _ _ ?_⟩
            rw [HS.out, HS1.out, bnd_ok, HS2.out, bnd_ok, HS4.out, bnd_ok,hs5]
            exact ⟨rfl, hk⟩
          | ok gg =>
            rw [hs5] at hr
            obtain ⟨v, rfl, ⟨q0, rfl, hk0⟩, hw⟩ := hr
            have HW5 := Lib.hid hw
            have HS5 := Lib.hid hs5
            clear hw HW4 hs5
            have hba : Below w5.heap.size w5 (w5.alloc (.cells #[.pointer (some ⟨q0, 0, none⟩)] 55)) := (Below.refl _ _).alloc (Nat.le_refl _) _
            have hz6 := (HZ4.out.kb hkb5).kb (KB.below hba)
            have HK6 := Lib.hid (BrL.kb _ (BrL.cat _ _ (BrL.kb _ HK4.out hkb5) hk0) (KB.below hba))
            have HW6 := Lib.hid (HW5.out.later hba)
            obtain ⟨v', w7, hrun, hz7, hbr7, hwe7⟩ := kids_app hz6 (Blk.alloc w5 _ _) (Nat.le_trans HW5.out.keep.size hba.size) (by simp)
            have HK7 := Lib.hid (hbr7 _ _ HK6.out)
            have HW7 := Lib.hid (hwe7 _ _ _ _ _ _ _ _ _ (Nat.le_refl _) HW6.out)
            have HZ7 := Lib.hid hz7
            obtain ⟨g7, c7, rfl⟩ := hz7.shape
            clear hba hz6 HK6 HW6 hbr7 hwe7 hz7 HK4 HZ4 hk0 hkb5 HW5
            go_wp2_with (at_builtin; refine wpList_exec rfl (exec_append rfl rfl rfl rfl hrun) ?_)
            clear hrun
            go_wp2_with fail
            (refine (HW7.out.call (R := TokR L e gg.2.1) (spec := tokS (want L [41] gg.2.1) gg.2.2) (fun lv1 h1 => wants_any h1 [41])).mono ?_)
            rintro E w8 ⟨hr, hkb8⟩
            cases hs8 : want L [41] gg.2.1 with
            | error j =>
              rw [hs8] at hr
              obtain ⟨rfl, hk⟩ := hr
              refine ⟨rfl, HUPb.out _ _ _ ?_⟩
              rw [HS.out, HS1.out, bnd_ok, HS2.out, bnd_ok, HS4.out, bnd_ok, HS5.out, bnd_ok,hs8]
              exact ⟨rfl, hk⟩
            | ok cc =>
              rw [hs8] at hr
              obtain ⟨v, rfl, -, hw⟩ := hr
              have HW8 := Lib.hid hw
              have HS8 := Lib.hid hs8
              clear hw HW7 hs8
              have HZ8 := Lib.hid (HZ7.out.kb hkb8)
              have HK8 := Lib.hid (BrL.kb _ HK7.out hkb8)
              have bx := HBXb.out _ _ _ HW8.out
              have c3 := bx.cell (i := 3) rfl
              have c4 := bx.cell (i := 4) rfl
              clear bx HZ7 HK7 hkb8
              go_wp2_with fail
              refine (node_any 25 x y (some ⟨g7, 0, none⟩) 2 c7 _).mono ?_
              rintro E wn ⟨b, rfl, hle, hbn, hkn⟩
              have HR : Hid (PRes BR (woS L n i lg (x, y) s) pb B L tv e lv w (.returned (.pointer (some ⟨b, 0, none⟩))) wn) := Lib.hid (HUPb.out _ _ _ (by
                rw [HS.out, HS1.out, bnd_ok, HS2.out, bnd_ok, HS4.out, bnd_ok, HS5.out, bnd_ok, HS8.out, bnd_ok]
                exact ⟨_, rfl, ⟨b, rfl, made2 (kind := 25) (N := 0) (p := (x, y)) (s := []) (t := []) (x := []) (HZ8.out.kids.kb (KB.below hbn)) (BrL.kb _ HK8.out (KB.below hbn)) hkn⟩, HW8.out.later hbn⟩))
              clear c3 c4 hbn hkn HW8 HUPb HUWb HBXb HZ8 HK8 HS HS1 HS2 HS4 HS5 HS8
              go_wp2_with fail
              go_ret
              exact HR.out
  · have e5 : (((k0 : Nat) : Int) == 25) = false := beq_eq_false_iff_ne.2 (by omega)
    have HS := Lib.hid (HS2.out h0 h5)
    clear h0 h5 HS0 HS1 HS2
    go_wp2_with fail
    (refine (HWb.out.call (R := TokR L e (i + 1)) (spec := tokS (want L [40] (i + 1)) lg) (fun lv1 h1 => wants_any h1 [40])).mono ?_)
    rintro E w1 ⟨hr, hkb1⟩
    cases hs1 : want L [40] (i + 1) with
    | error j =>
      rw [hs1] at hr
      obtain ⟨rfl, hk⟩ := hr
      refine ⟨rfl, HUPb.out _ _ _ ?_⟩
      rw [HS.out,hs1]
      exact ⟨rfl, hk⟩
    | ok a =>
      have hb1 := want_inv hs1
      rw [hs1] at hr
      obtain ⟨v, rfl, -, hw⟩ := hr
      have HW1 := Lib.hid hw
      have HS1 := Lib.hid hs1
      clear hw HWb hs1
      go_wp2_with fail
      (refine (HW1.out.call (R := BR) (spec := px L n .expr a lg) (fun lv1 h1 => HE.out a lg lv1 _ h1 (by omega))).mono ?_)
      rintro E w2 ⟨hr, hkb2⟩
      cases hs2 : px L n .expr a lg with
      | error j =>
        rw [hs2] at hr
        obtain ⟨rfl, hk⟩ := hr
        refine ⟨rfl, HUPb.out _ _ _ ?_⟩
        rw [HS.out, HS1.out, bnd_ok,hs2]
        exact ⟨rfl, hk⟩
      | ok ee =>
        have hb2 := ex_bound hs2 (by omega)
        rw [hs2] at hr
        obtain ⟨v, rfl, ⟨q1, rfl, hk1⟩, hw⟩ := hr
        have HW2 := Lib.hid hw
        have HS2 := Lib.hid hs2
        clear hw HW1 hs2
        have hba : Below w2.heap.size w2 (w2.alloc (.cells #[.pointer (some ⟨q1, 0, none⟩)] 55)) := (Below.refl _ _).alloc (Nat.le_refl _) _
        have HZ3 := Lib.hid (RowZ.one (v := .pointer (some ⟨q1, 0, none⟩)) HW2.out.keep.size)
        have HK3 := Lib.hid (BrL.kb _ hk1 (KB.below hba))
        have HW3 := Lib.hid (HW2.out.later hba)
        clear hk1 hba HW2 hkb1 hkb2
        go_wp2_with fail
        generalize w2.alloc (.cells #[.pointer (some ⟨q1, 0, none⟩)] 55) = W3 at *
        generalize w2.heap.size = g2 at *
        (refine (HW3.out.call (R := TokR L e ee.2.1) (spec := tokS (want L [41] ee.2.1) ee.2.2) (fun lv1 h1 => wants_any h1 [41])).mono ?_)
        rintro E w8 ⟨hr, hkb8⟩
        cases hs8 : want L [41] ee.2.1 with
        | error j =>
          rw [hs8] at hr
          obtain ⟨rfl, hk⟩ := hr
          refine ⟨rfl, HUPb.out _ _ _ ?_⟩
          rw [HS.out, HS1.out, bnd_ok, HS2.out, bnd_ok,hs8]
          exact ⟨rfl, hk⟩
        | ok cc =>
          rw [hs8] at hr
          obtain ⟨v, rfl, -, hw⟩ := hr
          have HW8 := Lib.hid hw
          have HS8 := Lib.hid hs8
          clear hw HW3 hs8
          have HZ8 := Lib.hid (HZ3.out.kb hkb8)
          have HK8 := Lib.hid (BrL.kb _ HK3.out hkb8)
          have bx := HBXb.out _ _ _ HW8.out
          have c3 := bx.cell (i := 3) rfl
          have c4 := bx.cell (i := 4) rfl
          clear bx HZ3 HK3 hkb8
          go_wp2_with fail
          refine (node_any k0 x y (some ⟨g2, 0, none⟩) 1 1 _).mono ?_
          rintro E wn ⟨b, rfl, hle, hbn, hkn⟩
          have HR : Hid (PRes BR (woS L n i lg (x, y) s) pb B L tv e lv w (.returned (.pointer (some ⟨b, 0, none⟩))) wn) := Lib.hid (HUPb.out _ _ _ (by
            rw [HS.out, HS1.out, bnd_ok, HS2.out, bnd_ok, HS8.out, bnd_ok]
            exact ⟨_, rfl, ⟨b, rfl, made2 (kind := k0) (N := 0) (p := (x, y)) (s := []) (t := []) (x := []) (HZ8.out.kids.kb (KB.below hbn)) (BrL.kb _ HK8.out (KB.below hbn)) hkn⟩, HW8.out.later hbn⟩))
          clear c3 c4 hbn hkn HW8 HUPb HUWb HBXb HZ8 HK8 HS HS1 HS2 HS8
          go_wp2_with fail
          go_ret
          exact HR.out
end
end Go.Proofs.YtnhdbjhdmdefmaaDoor


/- Walks of parse: bindings, choices. -/
import Derived.Test.YtnhdbjhdmdefmaaDoorZh
namespace Culp.Gr
set_option linter.unusedSimpArgs false
set_option linter.unusedVariables false
open Go Go.RowKit Culp Culp.Tr Go.Proofs.YtnhdbjhdmdefmaaDoor
theorem ex_bound {L : List Tok} {n i : Nat} {lg : List Nat} {r : F × Nat × List Nat} (h : px L n .expr i lg = .ok r) (hi : i ≤ L.length) : i < r.2.1 ∧ r.2.1 ≤ L.length := by
  obtain ⟨h1, h2, h3⟩ := px_bound _ _ _ _ _ h hi
  have := (h3 trivial).pos
  have h4 : (NT.expr.acc).flat.length = 0 := rfl
  omega
theorem BR.kb {w w' : World} {v : Value} {f : F} (h : BR w v f) (k : KB w w') : BR w' v f := by
  obtain ⟨b, h1, h2⟩ := h
  exact ⟨b, h1, BrL.kb f h2 k⟩
end Culp.Gr
namespace Go.Proofs.YtnhdbjhdmdefmaaDoor
set_option linter.unusedSimpArgs false
set_option linter.unusedVariables false
open Go.RowKit Culp Culp.Gr
section
variable {pb B : Nat} {L : List Tok} {tv : Value} {e : Nat × Nat}
set_option maxRecDepth 100000 in
set_option maxHeartbeats 3200000 in
theorem let_step {n : Nat} (hE : ExC pb B L tv e n) {i : Nat} {lg : List Nat} {lv : Value} {w : World} (h : PS pb B L tv e i lg lv w) (hn : 8 * (L.length - i) + 7 < n) (x y : Nat) :
    Calls Tryd.prog 49 #[.pointer (some ⟨pb, 0, none⟩), .agg #[.int .i64 x, .int .i64 y]] w (PRes BR (bnd (name L i) fun a => bnd (note L a lg) fun r => bnd (want L [61] r.2.1) fun b => bnd (px L n .expr b r.2.2) fun e => bnd (want L sIn e.2.1) fun c => bnd (px L n .expr c e.2.2) fun g => .ok (mk 8 (x, y) (cat e.1 g.1) 0 (txt L i) r.1 [], g.2)) pb B L tv e lv w) := by
  have hbb : Below w.heap.size w (w.alloc (.cells #[.int .i64 x, .int .i64 y] 25)) := (Below.refl _ _).alloc (Nat.le_refl _) _
  have HBX : Hid (∀ (k : Nat) (lg' : List Nat) (w' : World), Went pb B L tv e lv k lg' (w.alloc (.cells #[.int .i64 x, .int .i64 y] 25)) w' → Blk w.heap.size #[.int .i64 x, .int .i64 y] 25 w') := Lib.hid fun k lg' w' hw => hw.boxed h (Blk.alloc _ _ _)
  have HW0 := Lib.hid (Went.refl (h.later hbb))
  have hsm := h.small
  have HE := Lib.hid hE
  refine (show Calls Tryd.prog _ _ w (PRes BR _ pb B L tv e lv (w.alloc (.cells #[.int .i64 x, .int .i64 y] 25))) from ?_).mono (fun E w' hr => hr.up hbb)
  clear h hbb hE
  go_enter Tryd.func49, Tryd.ntmps49
  go_wp2_with fail
  (refine (HW0.out.call (R := TokR L e i) (spec := tokS (name L i) lg) (fun lv1 h1 => name_any h1)).mono ?_)
  rintro E w1 ⟨hr, hkb1⟩
  cases hs1 : name L i with
  | error j =>
    rw [hs1] at hr
    obtain ⟨rfl, hk⟩ := hr
    refine ⟨rfl, ?_⟩
    rw [hs1]
    exact ⟨rfl, hk⟩
  | ok a =>
    have hb1 := name_inv hs1
    rw [hs1] at hr
    obtain ⟨v, rfl, hv, hw⟩ := hr
    have HW1 := Lib.hid hw
    have HS1 := Lib.hid hs1
    clear hw HW0 hs1
    obtain rfl : v = _ := hv
    obtain ⟨y0, y1, y2, hC⟩ := tokC_lit2 L e i
    rw [hC]
    have hf2 := @field_str
    clear hC
    go_wp2_with fail
    clear hf2
    (refine (HW1.out.call (R := StrR) (spec := note L a lg) (fun lv1 h1 => note_any h1)).mono ?_)
    rintro E w2 ⟨hr, hkb2⟩
    cases hs2 : note L a lg with
    | error j =>
      rw [hs2] at hr
      obtain ⟨rfl, hk⟩ := hr
      refine ⟨rfl, ?_⟩
      rw [HS1.out, bnd_ok,hs2]
      exact ⟨rfl, hk⟩
    | ok r =>
      have hb2 := note_bound hs2 (by omega)
      rw [hs2] at hr
      obtain ⟨v, rfl, hv, hw⟩ := hr
      have HW2 := Lib.hid hw
      have HS2 := Lib.hid hs2
      clear hw HW1 hs2
      obtain rfl : v = _ := hv
      go_wp2_with fail
      (refine (HW2.out.call (R := TokR L e r.2.1) (spec := tokS (want L [61] r.2.1) r.2.2) (fun lv1 h1 => wants_any h1 [61])).mono ?_)
      rintro E w3 ⟨hr, hkb3⟩
      cases hs3 : want L [61] r.2.1 with
      | error j =>
        rw [hs3] at hr
        obtain ⟨rfl, hk⟩ := hr
        refine ⟨rfl, ?_⟩
        rw [HS1.out, bnd_ok, HS2.out, bnd_ok,hs3]
        exact ⟨rfl, hk⟩
      | ok bb =>
        have hb3 := want_inv hs3
        rw [hs3] at hr
        obtain ⟨v, rfl, -, hw⟩ := hr
        have HW3 := Lib.hid hw
        have HS3 := Lib.hid hs3
        clear hw HW2 hs3
        go_wp2_with fail
        (refine (HW3.out.call (R := BR) (spec := px L n .expr bb r.2.2) (fun lv1 h1 => HE.out bb r.2.2 lv1 _ h1 (by omega))).mono ?_)
        rintro E w4 ⟨hr, hkb4⟩
        cases hs4 : px L n .expr bb r.2.2 with
        | error j =>
          rw [hs4] at hr
          obtain ⟨rfl, hk⟩ := hr
          refine ⟨rfl, ?_⟩
          rw [HS1.out, bnd_ok, HS2.out, bnd_ok, HS3.out, bnd_ok,hs4]
          exact ⟨rfl, hk⟩
        | ok ee =>
          have hb4 := ex_bound hs4 (by omega)
          rw [hs4] at hr
          obtain ⟨v, rfl, ⟨q1, rfl, hk1⟩, hw⟩ := hr
          have HW4 := Lib.hid hw
          have HS4 := Lib.hid hs4
          clear hw HW3 hs4
          have HK1 := Lib.hid hk1
          clear hk1
          go_wp2_with fail
          (refine (HW4.out.call (R := TokR L e ee.2.1) (spec := tokS (want L sIn ee.2.1) ee.2.2) (fun lv1 h1 => wants_any h1 sIn)).mono ?_)
          rintro E w5 ⟨hr, hkb5⟩
          cases hs5 : want L sIn ee.2.1 with
          | error j =>
            rw [hs5] at hr
            obtain ⟨rfl, hk⟩ := hr
            refine ⟨rfl, ?_⟩
            rw [HS1.out, bnd_ok, HS2.out, bnd_ok, HS3.out, bnd_ok, HS4.out, bnd_ok,hs5]
            exact ⟨rfl, hk⟩
          | ok cc =>
            have hb5 := want_inv hs5
            rw [hs5] at hr
            obtain ⟨v, rfl, -, hw⟩ := hr
            have HW5 := Lib.hid hw
            have HS5 := Lib.hid hs5
            clear hw HW4 hs5
            go_wp2_with fail
            have bx := HBX.out _ _ _ HW5.out
            have c0 := bx.cell (i := 0) rfl
            have c1 := bx.cell (i := 1) rfl
            clear bx
            refine wp_region_plan (S := fun w' => w'.cell? ⟨w.heap.size, 0, none⟩ = some (.int .i64 x) ∧ w'.cell? ⟨w.heap.size, 1, none⟩ = some (.int .i64 y)) [(0, true), (1, true), (2, true), (3, false), (4, false), (5, false), (6, true)] (by kernel_rfl) (by kernel_rfl) (by kernel_rfl) (fun _ _ _ _ _ h => h) ⟨c0, c1⟩ ?_
            intro HSc
            repeat (first | (apply wpPlan_look; rfl; rfl; (intro wq hq; (try dsimp only at hq); go_split_ands; go_simp; (try rw [if_neg (by omega)]); (try rw [if_pos (by omega)]); try with_reducible rfl); simp only [Act.put, List.setIfInBounds_toArray, List.set_cons_zero, List.set_cons_succ]) | (apply wpPlan_skip; rfl; rfl; simp only [Act.put, List.setIfInBounds_toArray, List.set_cons_zero, List.set_cons_succ]) | (apply wpPlan_pass; rfl; rfl; assumption; simp only [Act.put, List.setIfInBounds_toArray, List.set_cons_zero, List.set_cons_succ]))
            clear HSc c0 c1
            (apply wpPlan_callS; rfl; rfl; rfl; rfl; kernel_rfl; exact (HW5.out.later ((Below.refl _ _).drew)).call (R := BR) (spec := px L n .expr cc ee.2.2) (fun lv1 h1 => HE.out cc ee.2.2 lv1 _ h1 (by omega)); rfl; rintro E w6 ⟨hr, hkb6⟩)
            cases hs6 : px L n .expr cc ee.2.2 with
            | error j =>
              rw [hs6] at hr
              obtain ⟨rfl, hk⟩ := hr
              refine .inr ⟨_, rfl, rfl, ?_⟩
              rw [HS1.out, bnd_ok, HS2.out, bnd_ok, HS3.out, bnd_ok, HS4.out, bnd_ok, HS5.out, bnd_ok,hs6]
              exact ⟨rfl, hk⟩
            | ok q =>
              have hbr : BrL w6 [.pointer (some ⟨q1, 0, none⟩)] ee.1 := BrL.kb _ (BrL.kb _ HK1.out hkb5) hkb6
              rw [hs6] at hr
              obtain ⟨v, rfl, ⟨q0, rfl, hbr6⟩, hw⟩ := hr
              have HW6 := Lib.hid hw
              have HS6 := Lib.hid hs6
              have bx := HBX.out _ _ _ hw
              have c0 := bx.cell (i := 0) rfl
              have c1 := bx.cell (i := 1) rfl
              clear bx hw HW5 hs6
              refine .inl ⟨_, rfl, _, fun _ h => h, ⟨c0, c1⟩, ?_⟩
              simp only [Act.put, List.setIfInBounds_toArray, List.set_cons_zero, List.set_cons_succ]
              repeat (first | (apply wpPlan_look; rfl; rfl; (intro wq hq; (try dsimp only at hq); go_split_ands; go_simp; (try rw [if_neg (by omega)]); (try rw [if_pos (by omega)]); try with_reducible rfl); simp only [Act.put, List.setIfInBounds_toArray, List.set_cons_zero, List.set_cons_succ]) | (apply wpPlan_skip; rfl; rfl; simp only [Act.put, List.setIfInBounds_toArray, List.set_cons_zero, List.set_cons_succ]) | (apply wpPlan_pass; rfl; rfl; assumption; simp only [Act.put, List.setIfInBounds_toArray, List.set_cons_zero, List.set_cons_succ]))
              have hbk : Below w6.heap.size w6 (w6.alloc (.cells #[.pointer (some ⟨q1, 0, none⟩), .pointer (some ⟨q0, 0, none⟩)] 55)) := (Below.refl _ _).alloc (Nat.le_refl _) _
              have d0 := cell_later hbk c0
              have d1 := cell_later hbk c1
              refine wpPlan_run rfl rfl (by simp [execOp, go_sem, build_p1, build_p2, build_p3] <;> (first | exact ⟨rfl, rfl⟩ | rfl)) _ (fun _ h => h) ⟨d0, d1⟩ ?_
              simp only [Act.put, List.setIfInBounds_toArray, List.set_cons_zero, List.set_cons_succ]
              repeat (first | (apply wpPlan_look; rfl; rfl; (intro wq hq; (try dsimp only at hq); go_split_ands; go_simp; (try rw [if_neg (by omega)]); (try rw [if_pos (by omega)]); try with_reducible rfl); simp only [Act.put, List.setIfInBounds_toArray, List.set_cons_zero, List.set_cons_succ]) | (apply wpPlan_skip; rfl; rfl; simp only [Act.put, List.setIfInBounds_toArray, List.set_cons_zero, List.set_cons_succ]) | (apply wpPlan_pass; rfl; rfl; assumption; simp only [Act.put, List.setIfInBounds_toArray, List.set_cons_zero, List.set_cons_succ]))
              have HBK := Lib.hid hbk
              clear c0 c1 hbk
              (apply wpPlan_call; rfl; rfl; rfl; rfl; kernel_rfl; exact node_any 8 x y (some ⟨w6.heap.size, 0, none⟩) 2 2 _; rfl; rintro E wn ⟨b, rfl, hle, hbn, hkn⟩)
              have HBN := Lib.hid hbn
              have HKN := Lib.hid hkn
              refine ⟨_, rfl, as_S ⟨cell_later hbn d0, cell_later hbn d1⟩ ?_⟩
              intro HSc
              simp only [Act.put, List.setIfInBounds_toArray, List.set_cons_zero, List.set_cons_succ]
              repeat (first | (apply wpPlan_look; rfl; rfl; (intro wq hq; (try dsimp only at hq); go_split_ands; go_simp; (try rw [if_neg (by omega)]); (try rw [if_pos (by omega)]); try with_reducible rfl); simp only [Act.put, List.setIfInBounds_toArray, List.set_cons_zero, List.set_cons_succ]) | (apply wpPlan_skip; rfl; rfl; simp only [Act.put, List.setIfInBounds_toArray, List.set_cons_zero, List.set_cons_succ]) | (apply wpPlan_pass; rfl; rfl; assumption; simp only [Act.put, List.setIfInBounds_toArray, List.set_cons_zero, List.set_cons_succ]))
              apply wpPlan_done
              clear HSc d0 d1 hbn hkn
              have g3 := HKN.out.cell (i := 3) rfl
              have g4 := HKN.out.cell (i := 4) rfl
              have g5 := HKN.out.cell (i := 5) rfl
              have f3 := HKN.out.free 3
              have f4 := HKN.out.free 4
              have f5 := HKN.out.free 5
              have hk : Blk b #[.int .i8 8, .int .i64 (2 : Nat), .int .i64 0, .string (by_ (txt L i)), .string (by_ r.1), .string (by_ []), .int .i64 x, .int .i64 y, .slice (some ⟨w6.heap.size, 0, none⟩) 2 2] 88 ((wn.setCell ⟨b, 3, none⟩ (.string (by_ (txt L i)))).setCell ⟨b, 4, none⟩ (.string (by_ r.1))) := blk_set (blk_set HKN.out 3 _) 4 _
              have hbe : Below (w6.alloc (.cells #[.pointer (some ⟨q1, 0, none⟩), .pointer (some ⟨q0, 0, none⟩)] 55)).heap.size (w6.alloc (.cells #[.pointer (some ⟨q1, 0, none⟩), .pointer (some ⟨q0, 0, none⟩)] 55)) ((wn.setCell ⟨b, 3, none⟩ (.string (by_ (txt L i)))).setCell ⟨b, 4, none⟩ (.string (by_ r.1))) := below_set (below_set HBN.out hle) hle
              have HR : Hid (PRes BR ((bnd (name L i) fun a => bnd (note L a lg) fun r => bnd (want L [61] r.2.1) fun b => bnd (px L n .expr b r.2.2) fun e => bnd (want L sIn e.2.1) fun c => bnd (px L n .expr c e.2.2) fun g => .ok (mk 8 (x, y) (cat e.1 g.1) 0 (txt L i) r.1 [], g.2))) pb B L tv e lv (w.alloc (.cells #[.int .i64 x, .int .i64 y] 25)) (.returned (.pointer (some ⟨b, 0, none⟩))) ((wn.setCell ⟨b, 3, none⟩ (.string (by_ (txt L i)))).setCell ⟨b, 4, none⟩ (.string (by_ r.1)))) := Lib.hid (by
                rw [HS1.out, bnd_ok, HS2.out, bnd_ok, HS3.out, bnd_ok, HS4.out, bnd_ok, HS5.out, bnd_ok, HS6.out, bnd_ok]
                exact ⟨_, rfl, made (ps := [.pointer (some ⟨q1, 0, none⟩), .pointer (some ⟨q0, 0, none⟩)]) (kind := 8) (N := 0) (p := (x, y)) (BrL.cat _ _ hbr hbr6) rfl hbe hk, HW6.out.later (below_later hbe ((Below.refl _ _).alloc (Nat.le_refl _) _))⟩)
              clear hk hbe HBN HKN HS1 HS2 HS3 HS4 HS5 HS6 HW6 hbr hbr6
              go_wp2_with fail
              go_ret
              exact HR.out
set_option maxRecDepth 100000 in
set_option maxHeartbeats 3200000 in
theorem choice_step {n : Nat} (hE : ExC pb B L tv e n) {i : Nat} {lg : List Nat} {lv : Value} {w : World} (h : PS pb B L tv e i lg lv w) (hn : 8 * (L.length - i) + 7 < n) (x y : Nat) :
    Calls Tryd.prog 50 #[.pointer (some ⟨pb, 0, none⟩), .agg #[.int .i64 x, .int .i64 y]] w (PRes BR (bnd (px L n .expr i lg) fun e => bnd (want L sThen e.2.1) fun a => bnd (px L n .expr a e.2.2) fun g => bnd (want L sElse g.2.1) fun b => bnd (px L n .expr b g.2.2) fun h => .ok (mk 9 (x, y) (cat e.1 (cat g.1 h.1)) 0 [] [] [], h.2)) pb B L tv e lv w) := by
  have hle0 := h.le
  have hbb : Below w.heap.size w (w.alloc (.cells #[.int .i64 x, .int .i64 y] 25)) := (Below.refl _ _).alloc (Nat.le_refl _) _
  have HBX : Hid (∀ (k : Nat) (lg' : List Nat) (w' : World), Went pb B L tv e lv k lg' (w.alloc (.cells #[.int .i64 x, .int .i64 y] 25)) w' → Blk w.heap.size #[.int .i64 x, .int .i64 y] 25 w') := Lib.hid fun k lg' w' hw => hw.boxed h (Blk.alloc _ _ _)
  have HW0 := Lib.hid (Went.refl (h.later hbb))
  have hsm := h.small
  have HE := Lib.hid hE
  refine (show Calls Tryd.prog _ _ w (PRes BR _ pb B L tv e lv (w.alloc (.cells #[.int .i64 x, .int .i64 y] 25))) from ?_).mono (fun E w' hr => hr.up hbb)
  clear h hbb hE
  go_enter Tryd.func50, Tryd.ntmps50
  go_wp2_with fail
  (refine (HW0.out.call (R := BR) (spec := px L n .expr i lg) (fun lv1 h1 => HE.out i lg lv1 _ h1 (by omega))).mono ?_)
  rintro E w1 ⟨hr, hkb1⟩
  cases hs1 : px L n .expr i lg with
  | error j =>
    rw [hs1] at hr
    obtain ⟨rfl, hk⟩ := hr
    refine ⟨rfl, ?_⟩
    rw [hs1]
    exact ⟨rfl, hk⟩
  | ok ee =>
    have hb1 := ex_bound hs1 hle0
    rw [hs1] at hr
    obtain ⟨v, rfl, ⟨q1, rfl, hk1⟩, hw⟩ := hr
    have HW1 := Lib.hid hw
    have HS1 := Lib.hid hs1
    clear hw HW0 hs1
    have HK1 := Lib.hid hk1
    clear hk1
    go_wp2_with fail
    (refine (HW1.out.call (R := TokR L e ee.2.1) (spec := tokS (want L sThen ee.2.1) ee.2.2) (fun lv1 h1 => wants_any h1 sThen)).mono ?_)
    rintro E w2 ⟨hr, hkb2⟩
    cases hs2 : want L sThen ee.2.1 with
    | error j =>
      rw [hs2] at hr
      obtain ⟨rfl, hk⟩ := hr
      refine ⟨rfl, ?_⟩
      rw [HS1.out, bnd_ok,hs2]
      exact ⟨rfl, hk⟩
    | ok a =>
      have hb2 := want_inv hs2
      rw [hs2] at hr
      obtain ⟨v, rfl, -, hw⟩ := hr
      have HW2 := Lib.hid hw
      have HS2 := Lib.hid hs2
      clear hw HW1 hs2
      go_wp2_with fail
      (refine (HW2.out.call (R := BR) (spec := px L n .expr a ee.2.2) (fun lv1 h1 => HE.out a ee.2.2 lv1 _ h1 (by omega))).mono ?_)
      rintro E w3 ⟨hr, hkb3⟩
      cases hs3 : px L n .expr a ee.2.2 with
      | error j =>
        rw [hs3] at hr
        obtain ⟨rfl, hk⟩ := hr
        refine ⟨rfl, ?_⟩
        rw [HS1.out, bnd_ok, HS2.out, bnd_ok,hs3]
        exact ⟨rfl, hk⟩
      | ok gg =>
        have hb3 := ex_bound hs3 (by omega)
        rw [hs3] at hr
        obtain ⟨v, rfl, ⟨q2, rfl, hk2⟩, hw⟩ := hr
        have HW3 := Lib.hid hw
        have HS3 := Lib.hid hs3
        clear hw HW2 hs3
        have HK2 := Lib.hid (And.intro (BrL.kb _ (BrL.kb _ HK1.out hkb2) hkb3) hk2)
        clear hk2 HK1
        go_wp2_with fail
        (refine (HW3.out.call (R := TokR L e gg.2.1) (spec := tokS (want L sElse gg.2.1) gg.2.2) (fun lv1 h1 => wants_any h1 sElse)).mono ?_)
        rintro E w4 ⟨hr, hkb4⟩
        cases hs4 : want L sElse gg.2.1 with
        | error j =>
          rw [hs4] at hr
          obtain ⟨rfl, hk⟩ := hr
          refine ⟨rfl, ?_⟩
          rw [HS1.out, bnd_ok, HS2.out, bnd_ok, HS3.out, bnd_ok,hs4]
          exact ⟨rfl, hk⟩
        | ok cc =>
          have hb4 := want_inv hs4
          rw [hs4] at hr
          obtain ⟨v, rfl, -, hw⟩ := hr
          have HW4 := Lib.hid hw
          have HS4 := Lib.hid hs4
          clear hw HW3 hs4
          go_wp2_with fail
          have bx := HBX.out _ _ _ HW4.out
          have c0 := bx.cell (i := 0) rfl
          have c1 := bx.cell (i := 1) rfl
          clear bx
          refine wp_region_plan (S := fun w' => w'.cell? ⟨w.heap.size, 0, none⟩ = some (.int .i64 x) ∧ w'.cell? ⟨w.heap.size, 1, none⟩ = some (.int .i64 y)) [(0, true), (1, true), (2, true), (3, true), (4, false), (5, false), (6, false), (7, true)] (by kernel_rfl) (by kernel_rfl) (by kernel_rfl) (fun _ _ _ _ _ h => h) ⟨c0, c1⟩ ?_
          intro HSc
          repeat (first | (apply wpPlan_look; rfl; rfl; (intro wq hq; (try dsimp only at hq); go_split_ands; go_simp; (try rw [if_neg (by omega)]); (try rw [if_pos (by omega)]); try with_reducible rfl); simp only [Act.put, List.setIfInBounds_toArray, List.set_cons_zero, List.set_cons_succ]) | (apply wpPlan_skip; rfl; rfl; simp only [Act.put, List.setIfInBounds_toArray, List.set_cons_zero, List.set_cons_succ]) | (apply wpPlan_pass; rfl; rfl; assumption; simp only [Act.put, List.setIfInBounds_toArray, List.set_cons_zero, List.set_cons_succ]))
          clear HSc c0 c1
          (apply wpPlan_callS; rfl; rfl; rfl; rfl; kernel_rfl; exact (HW4.out.later ((Below.refl _ _).drew)).call (R := BR) (spec := px L n .expr cc gg.2.2) (fun lv1 h1 => HE.out cc gg.2.2 lv1 _ h1 (by omega)); rfl; rintro E w5 ⟨hr, hkb5⟩)
          cases hs5 : px L n .expr cc gg.2.2 with
          | error j =>
            rw [hs5] at hr
            obtain ⟨rfl, hk⟩ := hr
            refine .inr ⟨_, rfl, rfl, ?_⟩
            rw [HS1.out, bnd_ok, HS2.out, bnd_ok, HS3.out, bnd_ok, HS4.out, bnd_ok,hs5]
            exact ⟨rfl, hk⟩
          | ok q =>
            have hbra : BrL w5 [.pointer (some ⟨q1, 0, none⟩)] ee.1 := BrL.kb _ (BrL.kb _ HK2.out.1 hkb4) hkb5
            have hbrb : BrL w5 [.pointer (some ⟨q2, 0, none⟩)] gg.1 := BrL.kb _ (BrL.kb _ HK2.out.2 hkb4) hkb5
            rw [hs5] at hr
            obtain ⟨v, rfl, ⟨q0, rfl, hbr5⟩, hw⟩ := hr
            have HW5 := Lib.hid hw
            have HS5 := Lib.hid hs5
            have bx := HBX.out _ _ _ hw
            have c0 := bx.cell (i := 0) rfl
            have c1 := bx.cell (i := 1) rfl
            clear bx hw HW4 hs5
            refine .inl ⟨_, rfl, _, fun _ h => h, ⟨c0, c1⟩, ?_⟩
            simp only [Act.put, List.setIfInBounds_toArray, List.set_cons_zero, List.set_cons_succ]
            repeat (first | (apply wpPlan_look; rfl; rfl; (intro wq hq; (try dsimp only at hq); go_split_ands; go_simp; (try rw [if_neg (by omega)]); (try rw [if_pos (by omega)]); try with_reducible rfl); simp only [Act.put, List.setIfInBounds_toArray, List.set_cons_zero, List.set_cons_succ]) | (apply wpPlan_skip; rfl; rfl; simp only [Act.put, List.setIfInBounds_toArray, List.set_cons_zero, List.set_cons_succ]) | (apply wpPlan_pass; rfl; rfl; assumption; simp only [Act.put, List.setIfInBounds_toArray, List.set_cons_zero, List.set_cons_succ]))
            have hbk : Below w5.heap.size w5 (w5.alloc (.cells #[.pointer (some ⟨q1, 0, none⟩), .pointer (some ⟨q2, 0, none⟩), .pointer (some ⟨q0, 0, none⟩)] 55)) := (Below.refl _ _).alloc (Nat.le_refl _) _
            have d0 := cell_later hbk c0
            have d1 := cell_later hbk c1
            refine wpPlan_run rfl rfl (by simp [execOp, go_sem, build_p1, build_p2, build_p3] <;> (first | exact ⟨rfl, rfl⟩ | rfl)) _ (fun _ h => h) ⟨d0, d1⟩ ?_
            simp only [Act.put, List.setIfInBounds_toArray, List.set_cons_zero, List.set_cons_succ]
            repeat (first | (apply wpPlan_look; rfl; rfl; (intro wq hq; (try dsimp only at hq); go_split_ands; go_simp; (try rw [if_neg (by omega)]); (try rw [if_pos (by omega)]); try with_reducible rfl); simp only [Act.put, List.setIfInBounds_toArray, List.set_cons_zero, List.set_cons_succ]) | (apply wpPlan_skip; rfl; rfl; simp only [Act.put, List.setIfInBounds_toArray, List.set_cons_zero, List.set_cons_succ]) | (apply wpPlan_pass; rfl; rfl; assumption; simp only [Act.put, List.setIfInBounds_toArray, List.set_cons_zero, List.set_cons_succ]))
            have HBK := Lib.hid hbk
            clear c0 c1 hbk
            (apply wpPlan_call; rfl; rfl; rfl; rfl; kernel_rfl; exact node_any 9 x y (some ⟨w5.heap.size, 0, none⟩) 3 3 _; rfl; rintro E wn ⟨b, rfl, hle, hbn, hkn⟩)
            have HBN := Lib.hid hbn
            have HKN := Lib.hid hkn
            refine ⟨_, rfl, as_S ⟨cell_later hbn d0, cell_later hbn d1⟩ ?_⟩
            intro HSc
            simp only [Act.put, List.setIfInBounds_toArray, List.set_cons_zero, List.set_cons_succ]
            repeat (first | (apply wpPlan_look; rfl; rfl; (intro wq hq; (try dsimp only at hq); go_split_ands; go_simp; (try rw [if_neg (by omega)]); (try rw [if_pos (by omega)]); try with_reducible rfl); simp only [Act.put, List.setIfInBounds_toArray, List.set_cons_zero, List.set_cons_succ]) | (apply wpPlan_skip; rfl; rfl; simp only [Act.put, List.setIfInBounds_toArray, List.set_cons_zero, List.set_cons_succ]) | (apply wpPlan_pass; rfl; rfl; assumption; simp only [Act.put, List.setIfInBounds_toArray, List.set_cons_zero, List.set_cons_succ]))
            apply wpPlan_done
            clear HSc d0 d1 hbn hkn
            have hk : Blk b #[.int .i8 9, .int .i64 (3 : Nat), .int .i64 0, .string (by_ []), .string (by_ []), .string (by_ []), .int .i64 x, .int .i64 y, .slice (some ⟨w5.heap.size, 0, none⟩) 3 3] 88 wn := HKN.out
            have hbe : Below (w5.alloc (.cells #[.pointer (some ⟨q1, 0, none⟩), .pointer (some ⟨q2, 0, none⟩), .pointer (some ⟨q0, 0, none⟩)] 55)).heap.size (w5.alloc (.cells #[.pointer (some ⟨q1, 0, none⟩), .pointer (some ⟨q2, 0, none⟩), .pointer (some ⟨q0, 0, none⟩)] 55)) wn := HBN.out
            have HR : Hid (PRes BR ((bnd (px L n .expr i lg) fun e => bnd (want L sThen e.2.1) fun a => bnd (px L n .expr a e.2.2) fun g => bnd (want L sElse g.2.1) fun b => bnd (px L n .expr b g.2.2) fun h => .ok (mk 9 (x, y) (cat e.1 (cat g.1 h.1)) 0 [] [] [], h.2))) pb B L tv e lv (w.alloc (.cells #[.int .i64 x, .int .i64 y] 25)) (.returned (.pointer (some ⟨b, 0, none⟩))) wn) := Lib.hid (by
              rw [HS1.out, bnd_ok, HS2.out, bnd_ok, HS3.out, bnd_ok, HS4.out, bnd_ok, HS5.out, bnd_ok]
              exact ⟨_, rfl, made (ps := [.pointer (some ⟨q1, 0, none⟩), .pointer (some ⟨q2, 0, none⟩), .pointer (some ⟨q0, 0, none⟩)]) (kind := 9) (N := 0) (p := (x, y)) (BrL.cat _ _ hbra (BrL.cat _ _ hbrb hbr5)) rfl hbe hk, HW5.out.later (below_later hbe ((Below.refl _ _).alloc (Nat.le_refl _) _))⟩)
            clear hk hbe HBN HKN HS1 HS2 HS3 HS4 HS5 HW5 hbra hbrb hbr5
            go_wp2_with fail
            go_ret
            exact HR.out
end
end Go.Proofs.YtnhdbjhdmdefmaaDoor

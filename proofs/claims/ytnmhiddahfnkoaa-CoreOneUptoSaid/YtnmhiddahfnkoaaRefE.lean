/- Walks of the document's answer for layer 10: Shape, Types, Check. -/
import Derived.Test.YtnmhiddahfnkoaaRefC
import Derived.Test.YtnmhiddahfnkoaaCoreH
import Derived.OwnWalk
namespace Go.Proofs.Ytnmhiddahfnkoaa
set_option linter.unusedSimpArgs false
set_option linter.unusedVariables false
open Go.RowKit Culp

theorem shapeAll_err {T : List Nd} {e : Int} {p : Nat} (h : shapeAll T = some (e, p)) : e ≠ 0 := by
  unfold shapeAll at h
  split at h
  · cases h; decide
  · split at h
    · rename_i x hx; cases h; exact shapeM_err _ _ _ _ _ hx
    · split at h
      · cases h
      · cases h; decide
theorem below_keep {B g : Nat} {w w0 w1 : World} (h : Below B w w0) (k : Keep g w0 w1) (hg : B ≤ g) (hB : B ≤ w0.heap.size) : Below B w w1 :=
  ⟨k.os.trans h.os, k.tape.trans h.tape, k.output.trans h.output, Nat.le_trans h.size k.size, fun i hi => (k.block i (by omega) (by omega)).trans (h.block i hi)⟩
theorem below_keep2 {B g a : Nat} {w w0 w1 : World} (h : Below B w w0) (k : Keep2 g a w0 w1) (hg : B ≤ g) (ha : B ≤ a) (hB : B ≤ w0.heap.size) : Below B w w1 :=
  ⟨k.os.trans h.os, k.tape.trans h.tape, k.output.trans h.output, Nat.le_trans h.size k.size, fun i hi => (k.block i (by omega) (by omega) (by omega)).trans (h.block i hi)⟩
theorem nodesX_new {T : List Nd} {tv : Value} {w w' : World} {g : Nat} (h : Nodes w tv T) (hb : Below w.heap.size w w') (hg : w.heap.size ≤ g) : NodesX g w' tv T := by
  refine ⟨h.later hb, fun h0 b off n c hv => ?_⟩
  obtain ⟨A, c', rfl, _, hN⟩ := h
  obtain ⟨b', off', rfl, hM⟩ := hN h0
  simp only [Value.slice.injEq, Option.some.injEq, Addr.mk.injEq] at hv
  obtain ⟨⟨rfl, _⟩, _⟩ := hv
  have := World.block_lt_of_cell? w _ (hM 0 T[0] (List.getElem?_eq_getElem h0) 0 _ rfl)
  simp only at this
  omega

set_option maxHeartbeats 1600000 in
theorem rShape_any (T : List Nd) (tv : Value) (w : World) (hn : Nodes w tv T) (hT : T.length ≤ 100000000) : Calls Try.prog 48 #[tv] w (Makes (errV (shapeAll T)) w) := by
  have HN := Lib.hid hn
  obtain ⟨A, c, rfl, hlc, hN⟩ := hn
  clear hN
  by_cases hm : 16384 < T.length
  · have X : Hid (shapeAll T = some (17, 0)) := by rw [Hid, shapeAll, if_pos hm]
    have i1 : (16384 : Int) < (T.length : Int) := by omega
    go_enter Try.func48, Try.ntmps48
    go_wp2_with fail
    go_ret2
    rw [X.out]
    exact Makes.mk rfl (Below.refl _ _)
  · have hT' : T.length ≤ 16384 := by omega
    have X : Hid (shapeAll T = match shapeM T 1024 0 with | .error x => some x | .ok q => if q = T.length then none else some (18, q)) := by rw [Hid, shapeAll, if_neg hm]; rfl
    have i1 : ¬ (16384 : Int) < (T.length : Int) := by omega
    have hB0 : Below w.heap.size w (w.alloc (.cells #[.slice A T.length c, .int .i64 0, .int .i64 0, .int .i64 0, .slice none 0 0] 79)) := (Below.refl _ _).alloc (Nat.le_refl _) _
    have hW0 : Wk w.heap.size (.slice A T.length c) (0 : Nat) 0 0 (.slice none 0 0) (w.alloc (.cells #[.slice A T.length c, .int .i64 0, .int .i64 0, .int .i64 0, .slice none 0 0] 79)) := heap_alloc_new w _
    have HB0 := Lib.hid hB0
    have HW0 := Lib.hid hW0
    have HX0 := Lib.hid (nodesX_new HN.out hB0 (Nat.le_refl _))
    clear hB0 hW0
    go_enter Try.func48, Try.ntmps48
    go_wp2_with fail
    refine (rshape_any hT' 1024 w.heap.size (.slice A T.length c) (.slice none 0 0) 0 1 _ rfl HW0.out HX0.out (by omega)).mono ?_
    cases hs : shapeM T 1024 0 with
    | error fl =>
      obtain ⟨e0, p0⟩ := fl
      rintro e w1 ⟨rfl, hk, q, hw⟩
      have c2 := hw.c2
      have c3 := hw.c3
      have e0' : (e0 == 0) = false := beq_eq_false_iff_ne.2 (shapeM_err T _ _ _ _ hs)
      have HS := Lib.hid hs
      have HB := Lib.hid (below_keep HB0.out hk (Nat.le_refl _) (by simp))
      clear hk hw hs
      go_wp2_with fail
      refine wp_region_plan (S := fun w' => w'.cell? ⟨w.heap.size, 2, none⟩ = some (.int .i64 e0) ∧ w'.cell? ⟨w.heap.size, 3, none⟩ = some (.int .i64 p0))
        [(0, true), (1, true), (2, true), (3, true), (4, true), (5, true), (6, true), (7, true), (8, true), (9, true)] (by kernel_rfl) (by kernel_rfl) (by kernel_rfl) (fun _ _ _ _ _ h => h) ⟨c2, c3⟩ ?_
      intro HSt
      repeat (first | (apply wpPlan_look; rfl; rfl; (intro wq hq; (try dsimp only at hq); go_split_ands; go_simp; (try rw [if_neg (by omega)]); try with_reducible rfl); simp only [Act.put, List.setIfInBounds_toArray, List.set_cons_zero, List.set_cons_succ]) | (apply wpPlan_skip; rfl; rfl; simp only [Act.put, List.setIfInBounds_toArray, List.set_cons_zero, List.set_cons_succ]) | (apply wpPlan_pass; rfl; rfl; assumption; simp only [Act.put, List.setIfInBounds_toArray, List.set_cons_zero, List.set_cons_succ]))
      apply wpPlan_done
      go_wp2
      go_ret2
      rw [X.out, HS.out]
      exact Makes.mk rfl HB.out.drew
    | ok q =>
      have hq := shapeM_le T _ _ _ hs
      rintro e w1 ⟨rfl, hk, hw⟩
      have c1 := Wk.c1 hw
      have c2 := Wk.c2 hw
      have c3 := Wk.c3 hw
      have HS := Lib.hid hs
      have HB := Lib.hid (below_keep HB0.out hk (Nat.le_refl _) (by simp))
      have HW := Lib.hid (show WkS w.heap.size (.slice A T.length c) q none (.slice none 0 0) w1 from hw)
      have hsz1 : w.heap.size ≤ w1.heap.size := by have := hk.size; simp at this; omega
      clear hk hw hs
      by_cases hql : q = T.length
      · have i2 : ¬ (q : Int) < (T.length : Int) := by omega
        have HQ := Lib.hid hql
        clear hql hq
        go_wp2_with fail
        refine wp_region_plan (S := fun w' => w'.cell? ⟨w.heap.size, 2, none⟩ = some (.int .i64 0) ∧ w'.cell? ⟨w.heap.size, 3, none⟩ = some (.int .i64 0))
          [(0, true), (1, true), (2, true), (3, true), (4, true), (5, true), (6, true), (7, true), (8, true), (9, true)] (by kernel_rfl) (by kernel_rfl) (by kernel_rfl) (fun _ _ _ _ _ h => h) ⟨c2, c3⟩ ?_
        intro HSt
        repeat (first | (apply wpPlan_look; rfl; rfl; (intro wq hq; (try dsimp only at hq); go_split_ands; go_simp; (try rw [if_neg (by omega)]); try with_reducible rfl); simp only [Act.put, List.setIfInBounds_toArray, List.set_cons_zero, List.set_cons_succ]) | (apply wpPlan_skip; rfl; rfl; simp only [Act.put, List.setIfInBounds_toArray, List.set_cons_zero, List.set_cons_succ]) | (apply wpPlan_pass; rfl; rfl; assumption; simp only [Act.put, List.setIfInBounds_toArray, List.set_cons_zero, List.set_cons_succ]))
        apply wpPlan_done
        go_wp2
        go_ret2
        rw [X.out, HS.out]
        simp only [if_pos HQ.out]
        exact Makes.mk rfl HB.out.drew
      · have i2 : (q : Int) < (T.length : Int) := by omega
        have HQ := Lib.hid hql
        clear hql hq c3
        go_wp2_with fail
        refine (rfailS_any _ _ _ none _ 18 q (by decide) _ HW.out).mono ?_
        rintro e w2 ⟨rfl, hk2, hw2⟩
        have c2' := hw2.2.c2
        have c3 := hw2.2.c3
        have HB2 := Lib.hid (below_keep HB.out hk2 (Nat.le_refl _) hsz1)
        clear hk2 hw2 c1 c2
        have c2 := c2'
        clear c2'
        go_wp2_with fail
        refine wp_region_plan (S := fun w' => w'.cell? ⟨w.heap.size, 2, none⟩ = some (.int .i64 18) ∧ w'.cell? ⟨w.heap.size, 3, none⟩ = some (.int .i64 q))
          [(0, true), (1, true), (2, true), (3, true), (4, true), (5, true), (6, true), (7, true), (8, true), (9, true)] (by kernel_rfl) (by kernel_rfl) (by kernel_rfl) (fun _ _ _ _ _ h => h) ⟨c2, c3⟩ ?_
        intro HSt
        repeat (first | (apply wpPlan_look; rfl; rfl; (intro wq hq; (try dsimp only at hq); go_split_ands; go_simp; (try rw [if_neg (by omega)]); try with_reducible rfl); simp only [Act.put, List.setIfInBounds_toArray, List.set_cons_zero, List.set_cons_succ]) | (apply wpPlan_skip; rfl; rfl; simp only [Act.put, List.setIfInBounds_toArray, List.set_cons_zero, List.set_cons_succ]) | (apply wpPlan_pass; rfl; rfl; assumption; simp only [Act.put, List.setIfInBounds_toArray, List.set_cons_zero, List.set_cons_succ]))
        apply wpPlan_done
        go_wp2
        go_ret2
        rw [X.out, HS.out]
        simp only [if_neg HQ.out]
        exact Makes.mk rfl HB2.out.drew

/-- What Types answers. -/
def TypesRes (T : List Nd) (w : World) (en : Ending) (w' : World) : Prop := Below w.heap.size w w' ∧ match checkM T with
  | .error (e, p) => e ≠ 0 ∧ en = .returned (.tuple #[.slice none 0 0, .int .i64 e, .int .i64 p])
  | .ok t => 0 < T.length ∧ ∃ a, en = .returned (.tuple #[.slice (some ⟨a, 0, none⟩) T.length T.length, .int .i64 0, .int .i64 0]) ∧ w'.cell? ⟨a, 0, none⟩ = some (.string t.str)
theorem checkM_some {T : List Nd} {f : Flt} (h : shapeAll T = some f) : checkM T = .error f := by
  unfold shapeAll at h
  unfold checkM
  split at h
  · rename_i h0; rw [if_pos h0]; cases h; rfl
  · rename_i h0
    rw [if_neg h0]
    split at h
    · rename_i x hx; rw [hx]; cases h; rfl
    · rename_i q hq
      rw [hq]
      split at h
      · cases h
      · rename_i hl; simp only [if_neg hl]; cases h; rfl
theorem checkM_none {T : List Nd} (h : shapeAll T = none) : T.length ≤ 16384 ∧ shapeM T 1024 0 = .ok T.length ∧ checkM T = match typedM T 1024 [] 0 with | .error e => .error e | .ok (t, _) => .ok t := by
  unfold shapeAll at h
  unfold checkM
  split at h
  · cases h
  · rename_i h0
    rw [if_neg h0]
    split at h
    · cases h
    · rename_i q hq
      split at h
      · rename_i hl
        subst hl
        refine ⟨by omega, hq, ?_⟩
        rw [hq]
        simp only [if_true]
        rfl
      · cases h

set_option maxHeartbeats 1600000 in
theorem rTypes_bad (T : List Nd) (tv : Value) (w : World) (hn : Nodes w tv T) (hT : T.length ≤ 100000000) (e : Int) (p : Nat) (hs : shapeAll T = some (e, p)) : Calls Try.prog 29 #[tv] w (TypesRes T w) := by
  have X := Lib.hid (checkM_some hs)
  have HC := Lib.hid (rShape_any T tv w hn hT)
  have HS := Lib.hid hs
  have he := Lib.hid (shapeAll_err hs)
  have e0' : (e != 0) = true := by simpa [bne] using he.out
  clear hn hs
  go_enter Try.func29, Try.ntmps29
  go_wp2_with fail
  refine HC.out.mono ?_
  rw [HS.out]
  rintro en w1 ⟨rfl, hb⟩
  have HB := Lib.hid hb
  clear hb
  unfold errV
  go_wp2_with fail
  refine bodyPost_ret (v := .tuple #[.slice none 0 0, .int .i64 e, .int .i64 p]) (by simp [results, Try.results29, go_sem]) rfl ?_
  unfold TypesRes
  rw [X.out]
  exact ⟨HB.out, he.out, rfl⟩

set_option maxHeartbeats 3200000 in
theorem rTypes_good (T : List Nd) (tv : Value) (w : World) (hn : Nodes w tv T) (hsz : ∀ x ∈ T, szOk x) (hs : shapeAll T = none) : Calls Try.prog 29 #[tv] w (TypesRes T w) := by
  obtain ⟨hT, hsh, hcm⟩ := checkM_none hs
  have hpos : 0 < T.length := by have := shapeM_lt T _ _ _ hsh; omega
  have HC := Lib.hid (rShape_any T tv w hn (by omega))
  have HN := Lib.hid hn
  have HS := Lib.hid hs
  have HSH := Lib.hid hsh
  have X := Lib.hid hcm
  obtain ⟨A, c, rfl, hlc, hN⟩ := hn
  obtain ⟨b, off, rfl, hM⟩ := hN hpos
  have hbw : b < w.heap.size := by
    have := World.block_lt_of_cell? w _ (hM 0 T[0] (List.getElem?_eq_getElem hpos) 0 _ rfl)
    simpa using this
  obtain ⟨i0, hi, hz0, hz1, hz2⟩ := info_parts string_info
  clear hN hM hs hsh hcm
  go_enter Try.func29, Try.ntmps29
  go_wp2_with fail
  refine HC.out.mono ?_
  rw [HS.out]
  rintro en w1 ⟨rfl, hb⟩
  have HB1 := Lib.hid hb
  have hsz1 := hb.size
  clear hb
  unfold errV
  go_wp2_with (refine wpList_make_full _ rfl (.tmp 19) (.tmp 19) 61 rfl w1.heap.size 9 i0 _ 1 Try.underlying61 hi hz0 hz1 .i64 .i64 (T.length : Int) (T.length : Int) T.length rfl rfl rfl rfl (by rw [hz2]; omega) (by unfold maxLen; omega) (Nat.le_refl _) ?_)
  intro w2 hown hgr
  have hall : AllAt w1.heap.size T.length w2 := by
    rcases hown.2 with ⟨h1, _⟩ | ⟨g, cap, cur, h1, _, h2, _, _, h3, _⟩
    · cases h1
    · simp only [Value.slice.injEq, Option.some.injEq, Addr.mk.injEq] at h1
      obtain ⟨⟨rfl, _⟩, _, rfl⟩ := h1
      exact ⟨cur, h2, by omega⟩
  have hb2 : Below w1.heap.size w1 w2 := (Below.refl _ _).grown hgr (Nat.le_refl _) fun k hk => by cases hk
  have hsz2 : w1.heap.size < w2.heap.size := hall.lt
  have HB2 := Lib.hid (HB1.out.trans (hb2.mono hsz1))
  have HA2 := Lib.hid hall
  clear hown hgr hall hb2
  go_wp2_with fail
  have hB3 : Below w2.heap.size w2 (w2.alloc (.cells #[.slice (some ⟨b, off, none⟩) T.length c, .int .i64 0, .int .i64 0, .int .i64 0, .slice (some ⟨w1.heap.size, 0, none⟩) T.length T.length] 79)) := (Below.refl _ _).alloc (Nat.le_refl _) _
  have hI : RInv T w2.heap.size w1.heap.size (.slice (some ⟨b, off, none⟩) T.length c) (.slice (some ⟨w1.heap.size, 0, none⟩) T.length T.length) (w2.alloc (.cells #[.slice (some ⟨b, off, none⟩) T.length c, .int .i64 0, .int .i64 0, .int .i64 0, .slice (some ⟨w1.heap.size, 0, none⟩) T.length T.length] 79)) :=
    ⟨(HN.out.later HB2.out).later hB3, fun b' o' n' c' h => by simp only [Value.slice.injEq, Option.some.injEq, Addr.mk.injEq] at h; obtain ⟨⟨rfl, _⟩, _⟩ := h; omega, rfl, by omega, HA2.out.later hB3, by simp⟩
  have hW : WkS w2.heap.size (.slice (some ⟨b, off, none⟩) T.length c) (0 : Nat) none (.slice (some ⟨w1.heap.size, 0, none⟩) T.length T.length) (w2.alloc (.cells #[.slice (some ⟨b, off, none⟩) T.length c, .int .i64 0, .int .i64 0, .int .i64 0, .slice (some ⟨w1.heap.size, 0, none⟩) T.length T.length] 79)) := heap_alloc_new w2 _
  have hBall := HB2.out.trans (hB3.mono (by omega))
  refine (rtyped_any hT 1024 w2.heap.size w1.heap.size _ _ (.slice none 0 0) [] 0 T.length _ ⟨hI, hW, ⟨.inl ⟨rfl, rfl⟩, fun _ _ _ h => by cases h⟩, by simp, by simp, hsz, HSH.out⟩).mono ?_
  unfold TypedRr TyRes
  cases hr : typedM T 1024 [] 0 with
  | error fl =>
    obtain ⟨e0, p0⟩ := fl
    rintro e w3 ⟨⟨us, rfl, hk3, ha3, q3, hw3⟩, _⟩
    have c2 := hw3.2.c2
    have c3 := hw3.2.c3
    have e0' : (e0 != 0) = true := by simpa [bne] using hw3.1
    have he := Lib.hid hw3.1
    have HB3 := Lib.hid (below_keep2 hBall hk3 (by omega) (by omega) (by simp; omega))
    have HR := Lib.hid hr
    clear hk3 ha3 hw3 hr hI hW hB3 hBall
    go_wp2_with fail
    refine wp_region_plan (S := fun w' => w'.cell? ⟨w2.heap.size, 2, none⟩ = some (.int .i64 e0) ∧ w'.cell? ⟨w2.heap.size, 3, none⟩ = some (.int .i64 p0))
      [(0, true), (1, true), (2, true), (3, true), (4, true), (5, true), (6, true), (7, true), (8, true), (9, true), (10, true)] (by kernel_rfl) (by kernel_rfl) (by kernel_rfl) (fun _ _ _ _ _ h => h) ⟨c2, c3⟩ ?_
    intro HSt
    repeat (first | (apply wpPlan_look; rfl; rfl; (intro wq hq; (try dsimp only at hq); go_split_ands; go_simp; (try rw [if_neg (by omega)]); try with_reducible rfl); simp only [Act.put, List.setIfInBounds_toArray, List.set_cons_zero, List.set_cons_succ]) | (apply wpPlan_skip; rfl; rfl; simp only [Act.put, List.setIfInBounds_toArray, List.set_cons_zero, List.set_cons_succ]) | (apply wpPlan_pass; rfl; rfl; assumption; simp only [Act.put, List.setIfInBounds_toArray, List.set_cons_zero, List.set_cons_succ]))
    apply wpPlan_done
    go_wp2
    refine bodyPost_ret (v := .tuple #[.slice none 0 0, .int .i64 e0, .int .i64 p0]) (by simp [results, Try.results29, go_sem]) rfl ?_
    unfold TypesRes
    rw [X.out, HR.out]
    exact ⟨HB3.out.drew, he.out, rfl⟩
  | ok bq =>
    obtain ⟨t0, q0⟩ := bq
    rintro e w3 ⟨⟨us, rfl, hk3, ha3, rfl, hw3⟩, hcell⟩
    have c2 := Wk.c2 (show Wk w2.heap.size _ _ 0 0 _ w3 from hw3)
    have c4 := Wk.c4 (show Wk w2.heap.size _ _ 0 0 _ w3 from hw3)
    have HB3 := Lib.hid (below_keep2 hBall hk3 (by omega) (by omega) (by simp; omega))
    have HR := Lib.hid hr
    have HCe := Lib.hid (hcell t0 q0 rfl)
    clear hk3 ha3 hw3 hr hcell hI hW hB3 hBall
    go_wp2_with fail
    refine bodyPost_ret (v := .tuple #[.slice (some ⟨w1.heap.size, 0, none⟩) T.length T.length, .int .i64 0, .int .i64 0]) (by simp [results, Try.results29, go_sem]) rfl ?_
    unfold TypesRes
    rw [X.out, HR.out]
    exact ⟨HB3.out, hpos, _, rfl, HCe.out⟩
theorem rTypes_any (T : List Nd) (tv : Value) (w : World) (hn : Nodes w tv T) (hT : T.length ≤ 100000000) (hsz : ∀ x ∈ T, szOk x) : Calls Try.prog 29 #[tv] w (TypesRes T w) := by
  cases hs : shapeAll T with
  | none => exact rTypes_good T tv w hn hsz hs
  | some f => exact rTypes_bad T tv w hn hT f.1 f.2 hs

set_option maxHeartbeats 800000 in
theorem rCheck_any (T : List Nd) (tv : Value) (w : World) (hn : Nodes w tv T) (hT : T.length ≤ 100000000) (hsz : ∀ x ∈ T, szOk x) : Calls Try.prog 10 #[tv] w (Makes (checkV (checkM T)) w) := by
  have HC := Lib.hid (rTypes_any T tv w hn hT hsz)
  clear hn hsz
  go_enter Try.func10, Try.ntmps10
  go_wp2_with fail
  refine HC.out.mono ?_
  unfold TypesRes
  cases hc : checkM T with
  | error fl =>
    obtain ⟨e0, p0⟩ := fl
    rintro en w1 ⟨hb, he, rfl⟩
    have HB := Lib.hid hb
    have e0' : (e0 != 0) = true := by simpa [bne] using he
    have HX := Lib.hid hc
    clear hb he hc
    go_wp2_with fail
    refine bodyPost_ret (v := .tuple #[.string ⟨#[]⟩, .int .i64 e0, .int .i64 p0]) (by simp [results, Try.results10, go_sem]) rfl ?_
    rw [HX.out]
    exact ⟨rfl, HB.out⟩
  | ok t =>
    rintro en w1 ⟨hb, hp, a, rfl, hcell⟩
    have HB := Lib.hid hb
    have HX := Lib.hid hc
    clear hb hc
    have hp' : (0 : Int) < (T.length : Int) := by omega
    go_wp2_with fail
    refine bodyPost_ret (v := .tuple #[.string t.str, .int .i64 0, .int .i64 0]) (by simp [results, Try.results10, go_sem]) rfl ?_
    rw [HX.out]
    exact ⟨rfl, HB.out⟩
end Go.Proofs.Ytnmhiddahfnkoaa

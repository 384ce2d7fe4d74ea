
/- Walks of parse: factors. -/
import Derived.Test.YtnhdbjhdmdefmaaDoorZk
namespace Culp.Gr
set_option linter.unusedSimpArgs false
set_option linter.unusedVariables false
open Go Go.RowKit Culp Culp.Tr Go.Proofs.YtnhdbjhdmdefmaaDoor
section
variable {L : List Tok} {i j m n x y : Nat} {lg : List Nat} {f : F}
theorem px_neg (h : isM L [45] i = true) (hp : pl L i = (x, y)) : px L (n + 1) .factor i lg = bnd (px L n .factor (i + 1) lg) fun e => .ok (mk 16 (x, y) e.1 0 [] [] [], e.2) := by
  rw [px, if_pos h, hp]
theorem px_get (h0 : isM L [45] i = false) (h : isM L [33] i = true) (hp : pl L i = (x, y)) : px L (n + 1) .factor i lg = bnd (px L n .factor (i + 1) lg) fun e => .ok (mk 27 (x, y) e.1 0 [] [] [], e.2) := by
  rw [px, if_neg (no_true h0), if_pos h, hp]
theorem px_fac (h0 : isM L [45] i = false) (h : isM L [33] i = false) : px L (n + 1) .factor i lg = bnd (px L n .atom i lg) fun e => px L n (.calls e.1) e.2.1 e.2.2 := by
  rw [px, if_neg (no_true h0), if_neg (no_true h)]
theorem px_calls (h : isM L [40] j = true) (hp : pl L j = (x, y)) : px L (m + 1) (.calls f) j lg = bnd (px L m .expr (j + 1) lg) fun e => bnd (want L [41] e.2.1) fun a => px L m (.calls (mk 7 (x, y) (cat f e.1) 0 [] [] [])) a e.2.2 := by
  rw [px, if_pos h, hp]
theorem px_calls_no (h : isM L [40] j = false) : px L (m + 1) (.calls f) j lg = .ok (f, j, lg) := by
  rw [px, if_neg (no_true h)]
theorem want_yes {s : List UInt8} (h : isM L s j = true) : want L s j = .ok (j + 1) := by
  unfold want
  rw [if_pos h]
end
end Culp.Gr
namespace Go.Proofs.YtnhdbjhdmdefmaaDoor
set_option linter.unusedSimpArgs false
set_option linter.unusedVariables false
open Go.RowKit Culp Culp.Tr Culp.Gr
section
variable {pb B : Nat} {L : List Tok} {tv : Value} {e : Nat × Nat}
/-- Atoms, with so much fuel. -/
def AtC (pb B : Nat) (L : List Tok) (tv : Value) (e : Nat × Nat) (n : Nat) : Prop := ∀ (i : Nat) (lg : List Nat) (lv : Value) (w : World), PS pb B L tv e i lg lv w → 8 * (L.length - i) < n → Calls Tryd.prog 66 #[.pointer (some ⟨pb, 0, none⟩)] w (PRes BR (px L n .atom i lg) pb B L tv e lv w)
set_option maxRecDepth 100000 in
set_option maxHeartbeats 6400000 in
theorem factor_step {n : Nat} (hE : ∀ m, m ≤ n → ExC pb B L tv e m) (hF : FaC pb B L tv e n) (hA : AtC pb B L tv e n) : FaC pb B L tv e (n + 1) := by
  intro i lg lv w h hn
  have hsm := h.small
  have hle := h.le
  have HH := Lib.hid (here_any h)
  have HWa := Lib.hid (Went.refl h)
  have HUPa : Hid (∀ spec E w', PRes BR spec pb B L tv e lv w E w' → PRes BR spec pb B L tv e lv w E w') := Lib.hid fun _ _ _ h => h
  have HE := Lib.hid hE
  have HF := Lib.hid hF
  have HA := Lib.hid hA
  clear h hE hF hA
  go_enter Tryd.func51, Tryd.ntmps51
  go_wp2_with fail
  refine HH.out.mono ?_
  rintro E w1 ⟨rfl, hb1⟩
  have HW1 := Lib.hid (HWa.out.later hb1)
  clear HH hb1
  obtain ⟨kk, mm, x, y, hC, -, -, hxy⟩ := tokC_lit3 L e i
  rw [hC]
  have HPL : Hid (∀ s, isM L s i = true → pl L i = (x, y)) := Lib.hid fun s hs => by rw [← here_pl e (isM_lt hs), hxy]
  clear hC hxy
  obtain ⟨lvb, k1, k2, k3⟩ := HW1.out
  have hbb : Below w1.heap.size w1 (w1.alloc (.cells #[.int .i8 kk, .int .i64 mm, .string (by_ (txt L i)), .int .i64 x, .int .i64 y] 60)) := (Below.refl _ _).alloc (Nat.le_refl _) _
  have HUPb : Hid (∀ spec E w', PRes BR spec pb B L tv e lvb (w1.alloc (.cells #[.int .i8 kk, .int .i64 mm, .string (by_ (txt L i)), .int .i64 x, .int .i64 y] 60)) E w' → PRes BR spec pb B L tv e lv w E w') := Lib.hid fun spec E w' hr => hr.from_ k1 k3 hbb
  have HUWb : Hid (∀ (k : Nat) (lg' : List Nat) (w' : World), Went pb B L tv e lvb k lg' (w1.alloc (.cells #[.int .i8 kk, .int .i64 mm, .string (by_ (txt L i)), .int .i64 x, .int .i64 y] 60)) w' → Went pb B L tv e lv k lg' w w') := Lib.hid fun k lg' w' hr => Went.trans k1 k3 (Went.trans (KeepN.of pb _ hbb) (.inl rfl) hr)
  have HBXb : Hid (∀ (k : Nat) (lg' : List Nat) (w' : World), Went pb B L tv e lvb k lg' (w1.alloc (.cells #[.int .i8 kk, .int .i64 mm, .string (by_ (txt L i)), .int .i64 x, .int .i64 y] 60)) w' → Blk w1.heap.size #[.int .i8 kk, .int .i64 mm, .string (by_ (txt L i)), .int .i64 x, .int .i64 y] 60 w') := Lib.hid fun k lg' w' hw => hw.boxed k2 (Blk.alloc _ _ _)
  have HWb := Lib.hid (Went.refl (k2.later hbb))
  clear k1 k2 k3 hbb HW1
  clear HUPa HWa
  have HT := Lib.hid (went_takes HWb.out [45])
  simp only [by_] at HT
  clear HWb
  go_wp2_with fail
  refine HT.out.mono ?_
  rintro E w2 ⟨rfl, hw2, -⟩
  have HW2 := Lib.hid hw2
  clear HT hw2
  cases hm : isM L [45] i with
  | true =>
    have hlt := isM_lt hm
    have HS : Hid (px L (n + 1) .factor i lg = bnd (px L n .factor (i + 1) lg) fun e => .ok (mk 16 (x, y) e.1 0 [] [] [], e.2)) := Lib.hid (px_neg hm (HPL.out _ hm))
    have HW3 : Hid (Went pb B L tv e lvb (i + 1) lg (w1.alloc (.cells #[.int .i8 kk, .int .i64 mm, .string (by_ (txt L i)), .int .i64 x, .int .i64 y] 60)) w2) := Lib.hid (by have := HW2.out; rwa [adv_yes hm] at this)
    clear hm HW2
    go_wp2_with fail
    have bx := HBXb.out _ _ _ HW3.out
    have c0 := bx.cell (i := 3) rfl
    have c1 := bx.cell (i := 4) rfl
    clear bx
    refine wp_region_plan (S := fun w' => w'.cell? ⟨w1.heap.size, 3, none⟩ = some (.int .i64 x) ∧ w'.cell? ⟨w1.heap.size, 4, none⟩ = some (.int .i64 y)) [(0, true), (1, true), (2, true), (3, false), (4, false), (5, false), (6, true)] (by kernel_rfl) (by kernel_rfl) (by kernel_rfl) (fun _ _ _ _ _ h => h) ⟨c0, c1⟩ ?_
    intro HSc
    repeat (first | (apply wpPlan_look; rfl; rfl; (intro wq hq; (try dsimp only at hq); go_split_ands; go_simp; (try rw [if_neg (by omega)]); (try rw [if_pos (by omega)]); try with_reducible rfl); simp only [Act.put, List.setIfInBounds_toArray, List.set_cons_zero, List.set_cons_succ]) | (apply wpPlan_skip; rfl; rfl; simp only [Act.put, List.setIfInBounds_toArray, List.set_cons_zero, List.set_cons_succ]) | (apply wpPlan_pass; rfl; rfl; assumption; simp only [Act.put, List.setIfInBounds_toArray, List.set_cons_zero, List.set_cons_succ]))
    clear HSc c0 c1
    (apply wpPlan_callS; rfl; rfl; rfl; rfl; kernel_rfl; exact (HW3.out.later ((Below.refl _ _).drew)).call (R := BR) (spec := px L n .factor (i + 1) lg) (fun lv1 h1 => HF.out (i + 1) lg lv1 _ h1 (by omega)); rfl; rintro E w4 ⟨hr, hkb4⟩)
    cases hs4 : px L n .factor (i + 1) lg with
    | error j =>
      rw [hs4] at hr
      obtain ⟨rfl, hk⟩ := hr
      refine .inr ⟨_, rfl, rfl, HUPb.out _ _ _ ?_⟩
      rw [HS.out,hs4]
      exact ⟨rfl, hk⟩
    | ok q =>
      rw [hs4] at hr
      obtain ⟨v, rfl, ⟨q0, rfl, hbr4⟩, hw⟩ := hr
      have HW4 := Lib.hid hw
      have HS4 := Lib.hid hs4
      have bx := HBXb.out _ _ _ hw
      have c0 := bx.cell (i := 3) rfl
      have c1 := bx.cell (i := 4) rfl
      clear bx hw HW3 hs4
      refine .inl ⟨_, rfl, _, fun _ h => h, ⟨c0, c1⟩, ?_⟩
      simp only [Act.put, List.setIfInBounds_toArray, List.set_cons_zero, List.set_cons_succ]
      repeat (first | (apply wpPlan_look; rfl; rfl; (intro wq hq; (try dsimp only at hq); go_split_ands; go_simp; (try rw [if_neg (by omega)]); (try rw [if_pos (by omega)]); try with_reducible rfl); simp only [Act.put, List.setIfInBounds_toArray, List.set_cons_zero, List.set_cons_succ]) | (apply wpPlan_skip; rfl; rfl; simp only [Act.put, List.setIfInBounds_toArray, List.set_cons_zero, List.set_cons_succ]) | (apply wpPlan_pass; rfl; rfl; assumption; simp only [Act.put, List.setIfInBounds_toArray, List.set_cons_zero, List.set_cons_succ]))
      have hbk : Below w4.heap.size w4 (w4.alloc (.cells #[.pointer (some ⟨q0, 0, none⟩)] 55)) := (Below.refl _ _).alloc (Nat.le_refl _) _
      have d0 := cell_later hbk c0
      have d1 := cell_later hbk c1
      refine wpPlan_run rfl rfl (by simp [execOp, go_sem, build_p1, build_p2, build_p3] <;> (first | exact ⟨rfl, rfl⟩ | rfl)) _ (fun _ h => h) ⟨d0, d1⟩ ?_
      simp only [Act.put, List.setIfInBounds_toArray, List.set_cons_zero, List.set_cons_succ]
      repeat (first | (apply wpPlan_look; rfl; rfl; (intro wq hq; (try dsimp only at hq); go_split_ands; go_simp; (try rw [if_neg (by omega)]); (try rw [if_pos (by omega)]); try with_reducible rfl); simp only [Act.put, List.setIfInBounds_toArray, List.set_cons_zero, List.set_cons_succ]) | (apply wpPlan_skip; rfl; rfl; simp only [Act.put, List.setIfInBounds_toArray, List.set_cons_zero, List.set_cons_succ]) | (apply wpPlan_pass; rfl; rfl; assumption; simp only [Act.put, List.setIfInBounds_toArray, List.set_cons_zero, List.set_cons_succ]))
      have HBK := Lib.hid hbk
      clear c0 c1 hbk
      (apply wpPlan_call; rfl; rfl; rfl; rfl; kernel_rfl; exact node_any 16 x y (some ⟨w4.heap.size, 0, none⟩) 1 1 _; rfl; rintro E wn ⟨b, rfl, hle, hbn, hkn⟩)
      have HBN := Lib.hid hbn
      have HKN := Lib.hid hkn
      refine ⟨_, rfl, as_S ⟨cell_later hbn d0, cell_later hbn d1⟩ ?_⟩
      intro HSc
      simp only [Act.put, List.setIfInBounds_toArray, List.set_cons_zero, List.set_cons_succ]
      repeat (first | (apply wpPlan_look; rfl; rfl; (intro wq hq; (try dsimp only at hq); go_split_ands; go_simp; (try rw [if_neg (by omega)]); (try rw [if_pos (by omega)]); try with_reducible rfl); simp only [Act.put, List.setIfInBounds_toArray, List.set_cons_zero, List.set_cons_succ]) | (apply wpPlan_skip; rfl; rfl; simp only [Act.put, List.setIfInBounds_toArray, List.set_cons_zero, List.set_cons_succ]) | (apply wpPlan_pass; rfl; rfl; assumption; simp only [Act.put, List.setIfInBounds_toArray, List.set_cons_zero, List.set_cons_succ]))
      apply wpPlan_done
      clear HSc d0 d1 hbn hkn
      have HR : Hid (PRes BR (px L (n + 1) .factor i lg) pb B L tv e lv w (.returned (.pointer (some ⟨b, 0, none⟩))) wn) := Lib.hid (HUPb.out _ _ _ (by
        rw [HS.out, HS4.out, bnd_ok]
        exact ⟨_, rfl, made (ps := [.pointer (some ⟨q0, 0, none⟩)]) (kind := 16) (N := 0) (p := (x, y)) (s := []) (t := []) (x := []) hbr4 rfl HBN.out HKN.out, HW4.out.later (below_later HBN.out ((Below.refl _ _).alloc (Nat.le_refl _) _))⟩))
      clear HBN HKN HS HS4 HW4 hbr4 HUPb HBXb
      go_wp2_with fail
      go_ret
      exact HR.out
  | false =>
    have HM := Lib.hid hm
    have HT := Lib.hid (went_takes HW2.out [33])
    rw [adv_no hm] at HT
    simp only [by_] at HT
    clear HW2 hm
    go_wp2_with fail
    refine HT.out.mono ?_
    clear HT
    rintro E w2 ⟨rfl, hw2, -⟩
    have HW2 := Lib.hid hw2
    clear hw2
    cases hm : isM L [33] i with
    | true =>
      have hlt := isM_lt hm
      have HS : Hid (px L (n + 1) .factor i lg = bnd (px L n .factor (i + 1) lg) fun e => .ok (mk 27 (x, y) e.1 0 [] [] [], e.2)) := Lib.hid (px_get HM.out hm (HPL.out _ hm))
      have HW3 : Hid (Went pb B L tv e lvb (i + 1) lg (w1.alloc (.cells #[.int .i8 kk, .int .i64 mm, .string (by_ (txt L i)), .int .i64 x, .int .i64 y] 60)) w2) := Lib.hid (by have := HW2.out; rwa [adv_yes hm] at this)
      clear hm HW2
      go_wp2_with fail
      have bx := HBXb.out _ _ _ HW3.out
      have c0 := bx.cell (i := 3) rfl
      have c1 := bx.cell (i := 4) rfl
      clear bx
      refine wp_region_plan (S := fun w' => w'.cell? ⟨w1.heap.size, 3, none⟩ = some (.int .i64 x) ∧ w'.cell? ⟨w1.heap.size, 4, none⟩ = some (.int .i64 y)) [(0, true), (1, true), (2, true), (3, false), (4, false), (5, false), (6, true)] (by kernel_rfl) (by kernel_rfl) (by kernel_rfl) (fun _ _ _ _ _ h => h) ⟨c0, c1⟩ ?_
      intro HSc
      repeat (first | (apply wpPlan_look; rfl; rfl; (intro wq hq; (try dsimp only at hq); go_split_ands; go_simp; (try rw [if_neg (by omega)]); (try rw [if_pos (by omega)]); try with_reducible rfl); simp only [Act.put, List.setIfInBounds_toArray, List.set_cons_zero, List.set_cons_succ]) | (apply wpPlan_skip; rfl; rfl; simp only [Act.put, List.setIfInBounds_toArray, List.set_cons_zero, List.set_cons_succ]) | (apply wpPlan_pass; rfl; rfl; assumption; simp only [Act.put, List.setIfInBounds_toArray, List.set_cons_zero, List.set_cons_succ]))
      clear HSc c0 c1
      (apply wpPlan_callS; rfl; rfl; rfl; rfl; kernel_rfl; exact (HW3.out.later ((Below.refl _ _).drew)).call (R := BR) (spec := px L n .factor (i + 1) lg) (fun lv1 h1 => HF.out (i + 1) lg lv1 _ h1 (by omega)); rfl; rintro E w4 ⟨hr, hkb4⟩)
      cases hs4 : px L n .factor (i + 1) lg with
      | error j =>
        rw [hs4] at hr
        obtain ⟨rfl, hk⟩ := hr
        refine .inr ⟨_, rfl, rfl, HUPb.out _ _ _ ?_⟩
        rw [HS.out,hs4]
        exact ⟨rfl, hk⟩
      | ok q =>
        rw [hs4] at hr
        obtain ⟨v, rfl, ⟨q0, rfl, hbr4⟩, hw⟩ := hr
        have HW4 := Lib.hid hw
        have HS4 := Lib.hid hs4
        have bx := HBXb.out _ _ _ hw
        have c0 := bx.cell (i := 3) rfl
        have c1 := bx.cell (i := 4) rfl
        clear bx hw HW3 hs4
        refine .inl ⟨_, rfl, _, fun _ h => h, ⟨c0, c1⟩, ?_⟩
        simp only [Act.put, List.setIfInBounds_toArray, List.set_cons_zero, List.set_cons_succ]
        repeat (first | (apply wpPlan_look; rfl; rfl; (intro wq hq; (try dsimp only at hq); go_split_ands; go_simp; (try rw [if_neg (by omega)]); (try rw [if_pos (by omega)]); try with_reducible rfl); simp only [Act.put, List.setIfInBounds_toArray, List.set_cons_zero, List.set_cons_succ]) | (apply wpPlan_skip; rfl; rfl; simp only [Act.put, List.setIfInBounds_toArray, List.set_cons_zero, List.set_cons_succ]) | (apply wpPlan_pass; rfl; rfl; assumption; simp only [Act.put, List.setIfInBounds_toArray, List.set_cons_zero, List.set_cons_succ]))
        have hbk : Below w4.heap.size w4 (w4.alloc (.cells #[.pointer (some ⟨q0, 0, none⟩)] 55)) := (Below.refl _ _).alloc (Nat.le_refl _) _
        have d0 := cell_later hbk c0
        have d1 := cell_later hbk c1
        refine wpPlan_run rfl rfl (by simp [execOp, go_sem, build_p1, build_p2, build_p3] <;> (first | exact ⟨rfl, rfl⟩ | rfl)) _ (fun _ h => h) ⟨d0, d1⟩ ?_
        simp only [Act.put, List.setIfInBounds_toArray, List.set_cons_zero, List.set_cons_succ]
        repeat (first | (apply wpPlan_look; rfl; rfl; (intro wq hq; (try dsimp only at hq); go_split_ands; go_simp; (try rw [if_neg (by omega)]); (try rw [if_pos (by omega)]); try with_reducible rfl); simp only [Act.put, List.setIfInBounds_toArray, List.set_cons_zero, List.set_cons_succ]) | (apply wpPlan_skip; rfl; rfl; simp only [Act.put, List.setIfInBounds_toArray, List.set_cons_zero, List.set_cons_succ]) | (apply wpPlan_pass; rfl; rfl; assumption; simp only [Act.put, List.setIfInBounds_toArray, List.set_cons_zero, List.set_cons_succ]))
        have HBK := Lib.hid hbk
        clear c0 c1 hbk
        (apply wpPlan_call; rfl; rfl; rfl; rfl; kernel_rfl; exact node_any 27 x y (some ⟨w4.heap.size, 0, none⟩) 1 1 _; rfl; rintro E wn ⟨b, rfl, hle, hbn, hkn⟩)
        have HBN := Lib.hid hbn
        have HKN := Lib.hid hkn
        refine ⟨_, rfl, as_S ⟨cell_later hbn d0, cell_later hbn d1⟩ ?_⟩
        intro HSc
        simp only [Act.put, List.setIfInBounds_toArray, List.set_cons_zero, List.set_cons_succ]
        repeat (first | (apply wpPlan_look; rfl; rfl; (intro wq hq; (try dsimp only at hq); go_split_ands; go_simp; (try rw [if_neg (by omega)]); (try rw [if_pos (by omega)]); try with_reducible rfl); simp only [Act.put, List.setIfInBounds_toArray, List.set_cons_zero, List.set_cons_succ]) | (apply wpPlan_skip; rfl; rfl; simp only [Act.put, List.setIfInBounds_toArray, List.set_cons_zero, List.set_cons_succ]) | (apply wpPlan_pass; rfl; rfl; assumption; simp only [Act.put, List.setIfInBounds_toArray, List.set_cons_zero, List.set_cons_succ]))
        apply wpPlan_done
        clear HSc d0 d1 hbn hkn
        have HR : Hid (PRes BR (px L (n + 1) .factor i lg) pb B L tv e lv w (.returned (.pointer (some ⟨b, 0, none⟩))) wn) := Lib.hid (HUPb.out _ _ _ (by
          rw [HS.out, HS4.out, bnd_ok]
          exact ⟨_, rfl, made (ps := [.pointer (some ⟨q0, 0, none⟩)]) (kind := 27) (N := 0) (p := (x, y)) (s := []) (t := []) (x := []) hbr4 rfl HBN.out HKN.out, HW4.out.later (below_later HBN.out ((Below.refl _ _).alloc (Nat.le_refl _) _))⟩))
        clear HBN HKN HS HS4 HW4 hbr4 HUPb HBXb
        go_wp2_with fail
        go_ret
        exact HR.out
    | false =>
      have HS := Lib.hid (px_fac (n := n) (lg := lg) HM.out hm)
      have HW3 := Lib.hid (HUWb.out _ _ _ HW2.out)
      rw [adv_no hm] at HW3
      clear HM hm HW2 HPL HUWb HUPb HBXb
      have HUPa : Hid (∀ spec E w', PRes BR spec pb B L tv e lv w E w' → PRes BR spec pb B L tv e lv w E w') := Lib.hid fun _ _ _ h => h
      go_wp2_with fail
      (refine (HW3.out.call (R := BR) (spec := px L n .atom i lg) (fun lv1 h1 => HA.out i lg lv1 _ h1 (by omega))).mono ?_)
      rintro E w4 ⟨hr, hkb4⟩
      cases hs4 : px L n .atom i lg with
      | error j =>
        rw [hs4] at hr
        obtain ⟨rfl, hk⟩ := hr
        refine ⟨rfl, HUPa.out _ _ _ ?_⟩
        rw [HS.out,hs4]
        exact ⟨rfl, hk⟩
      | ok ee =>
        have hb4 := nt_bound hs4 hle trivial rfl
        rw [hs4] at hr
        obtain ⟨v, rfl, ⟨q1, rfl, hk1⟩, hw⟩ := hr
        have HW4 := Lib.hid hw
        have HS4 := Lib.hid hs4
        clear hw HW3 hs4
        have HSP : Hid (px L (n + 1) .factor i lg = px L n (.calls ee.1) ee.2.1 ee.2.2) := Lib.hid (by rw [HS.out, HS4.out, bnd_ok])
        have HK1 := Lib.hid hk1
        clear hk1 HS HS4 HF HA
        go_wp2_with fail
        go_loopg [4] (L.length - ee.2.1) (fun g v wx => ∃ (m j : Nat) (lg2 : List Nat) (f : F) (q : Nat), g = L.length - j ∧ v = .pointer (some ⟨q, 0, none⟩) ∧ j ≤ L.length ∧ 8 * (L.length - j) + 8 ≤ m ∧ m ≤ n ∧ Hid (BrL wx [.pointer (some ⟨q, 0, none⟩)] f) ∧ Hid (Went pb B L tv e lv j lg2 w wx) ∧ Hid (px L (n + 1) .factor i lg = px L m (.calls f) j lg2))
        case atStart => exact ⟨n, ee.2.1, ee.2.2, ee.1, q1, rfl, rfl, by omega, by omega, Nat.le_refl _, HK1, HW4, HSP⟩
        case round =>
          clear HSP HK1 HW4
          obtain ⟨m, j, lg2, f, q, rfl, rfl, hj, hm, hmn, HKq, HWq, HSP⟩ := hrel
          obtain ⟨m2, rfl⟩ : ∃ m2, m = m2 + 1 := ⟨m - 1, by omega⟩
          obtain ⟨lv3, hp3⟩ := HWq.out.at_
          have HH2 := Lib.hid (sees_any hp3 [40])
          simp only [by_] at HH2
          clear hp3
          go_wp2_with fail
          refine HH2.out.mono ?_
          rintro E w5 ⟨rfl, hb5⟩
          have HW5 := Lib.hid (HWq.out.later hb5)
          have HK5 := Lib.hid (BrL.kb _ HKq.out (KB.below hb5))
          clear HH2 hb5 HWq HKq
          cases hs : isM L [40] j with
          | false =>
            have HR : Hid (PRes BR (px L (n + 1) .factor i lg) pb B L tv e lv w (.returned (.pointer (some ⟨q, 0, none⟩))) w5) := Lib.hid (by
              rw [HSP.out, px_calls_no hs]
              exact ⟨_, rfl, ⟨q, rfl, HK5.out⟩, HW5.out⟩)
            clear hs HSP HW5 HK5
            go_wp2_with fail
            go_ret
            exact HR.out
          | true =>
            have hlt := isM_lt hs
            have HWT := Lib.hid (HW5.out.call (R := TokR L e j) (spec := tokS (want L [40] j) lg2) (fun lv1 h1 => wants_any h1 [40]))
            have HBL := Lib.hid (fun (x y : Nat) (hp : pl L j = (x, y)) => px_calls (m := m2) (f := f) (lg := lg2) hs hp)
            rw [want_yes hs] at HWT
            simp only [by_] at HWT
            clear hs HW5
            go_wp2_with fail
            refine HWT.out.mono ?_
            rintro E w6 ⟨⟨v, rfl, hv, hw6⟩, hkb6⟩
            obtain rfl : v = _ := hv
            have HW6 := Lib.hid hw6
            have HK6 := Lib.hid (BrL.kb _ HK5.out hkb6)
            clear HWT hw6 hkb6 HK5
            obtain ⟨kk2, mm2, x2, y2, hC, -, -, hxy⟩ := tokC_lit3 L e j
            rw [hC]
            have HBL2 := Lib.hid (HBL.out x2 y2 (by rw [← here_pl e hlt, hxy]))
            clear hC hxy HBL
            obtain ⟨lvc, k1, k2, k3⟩ := HW6.out
            have hbb : Below w6.heap.size w6 (w6.alloc (.cells #[.int .i64 x2, .int .i64 y2] 25)) := (Below.refl _ _).alloc (Nat.le_refl _) _
            have HUPc : Hid (∀ spec E w', PRes BR spec pb B L tv e lvc (w6.alloc (.cells #[.int .i64 x2, .int .i64 y2] 25)) E w' → PRes BR spec pb B L tv e lv w E w') := Lib.hid fun spec E w' hr => hr.from_ k1 k3 hbb
            have HUWc : Hid (∀ (k : Nat) (lg' : List Nat) (w' : World), Went pb B L tv e lvc k lg' (w6.alloc (.cells #[.int .i64 x2, .int .i64 y2] 25)) w' → Went pb B L tv e lv k lg' w w') := Lib.hid fun k lg' w' hr => Went.trans k1 k3 (Went.trans (KeepN.of pb _ hbb) (.inl rfl) hr)
            have HBXc : Hid (∀ (k : Nat) (lg' : List Nat) (w' : World), Went pb B L tv e lvc k lg' (w6.alloc (.cells #[.int .i64 x2, .int .i64 y2] 25)) w' → Blk w6.heap.size #[.int .i64 x2, .int .i64 y2] 25 w') := Lib.hid fun k lg' w' hw => hw.boxed k2 (Blk.alloc _ _ _)
            have HWc := Lib.hid (Went.refl (k2.later hbb))
            clear k1 k2 k3 hbb HW6
            have HKc : Hid (BrL (w6.alloc (.cells #[.int .i64 x2, .int .i64 y2] 25)) [.pointer (some ⟨q, 0, none⟩)] f) := Lib.hid (BrL.kb _ HK6.out (KB.below ((Below.refl _ _).alloc (Nat.le_refl _) _)))
            have hf3 := @field_at
            go_wp2_with fail
            clear hf3 HK6
            have bx := HBXc.out _ _ _ HWc.out
            have c0 := bx.cell (i := 0) rfl
            have c1 := bx.cell (i := 1) rfl
            clear bx
            refine wp_region_plan (S := fun w' => w'.cell? ⟨w6.heap.size, 0, none⟩ = some (.int .i64 x2) ∧ w'.cell? ⟨w6.heap.size, 1, none⟩ = some (.int .i64 y2)) [(0, true), (1, true), (2, true), (3, false), (4, false), (5, false), (6, true)] (by kernel_rfl) (by kernel_rfl) (by kernel_rfl) (fun _ _ _ _ _ h => h) ⟨c0, c1⟩ ?_
            intro HSc
            repeat (first | (apply wpPlan_look; rfl; rfl; (intro wq hq; (try dsimp only at hq); go_split_ands; go_simp; (try rw [if_neg (by omega)]); (try rw [if_pos (by omega)]); try with_reducible rfl); simp only [Act.put, List.setIfInBounds_toArray, List.set_cons_zero, List.set_cons_succ]) | (apply wpPlan_skip; rfl; rfl; simp only [Act.put, List.setIfInBounds_toArray, List.set_cons_zero, List.set_cons_succ]) | (apply wpPlan_pass; rfl; rfl; assumption; simp only [Act.put, List.setIfInBounds_toArray, List.set_cons_zero, List.set_cons_succ]))
            clear HSc c0 c1
            (apply wpPlan_callS; rfl; rfl; rfl; rfl; kernel_rfl; exact (HWc.out.later ((Below.refl _ _).drew)).call (R := BR) (spec := px L m2 .expr (j + 1) lg2) (fun lv1 h1 => HE.out m2 (by omega) (j + 1) lg2 lv1 _ h1 (by omega)); rfl; rintro E w7 ⟨hr, hkb7⟩)
            cases hs7 : px L m2 .expr (j + 1) lg2 with
            | error j =>
              rw [hs7] at hr
              obtain ⟨rfl, hk⟩ := hr
              refine .inr ⟨_, rfl, rfl, HUPc.out _ _ _ ?_⟩
              rw [HSP.out, HBL2.out,hs7]
              exact ⟨rfl, hk⟩
            | ok q2 =>
              have hb7 := nt_bound hs7 hlt trivial rfl
              have hbr : BrL w7 [.pointer (some ⟨q, 0, none⟩)] f := BrL.kb _ HKc.out hkb7
              rw [hs7] at hr
              obtain ⟨v, rfl, ⟨q0, rfl, hbr7⟩, hw⟩ := hr
              have HW7 := Lib.hid hw
              have HS7 := Lib.hid hs7
              have bx := HBXc.out _ _ _ hw
              have c0 := bx.cell (i := 0) rfl
              have c1 := bx.cell (i := 1) rfl
              clear bx hw HWc hs7
              refine .inl ⟨_, rfl, _, fun _ h => h, ⟨c0, c1⟩, ?_⟩
              simp only [Act.put, List.setIfInBounds_toArray, List.set_cons_zero, List.set_cons_succ]
              repeat (first | (apply wpPlan_look; rfl; rfl; (intro wq hq; (try dsimp only at hq); go_split_ands; go_simp; (try rw [if_neg (by omega)]); (try rw [if_pos (by omega)]); try with_reducible rfl); simp only [Act.put, List.setIfInBounds_toArray, List.set_cons_zero, List.set_cons_succ]) | (apply wpPlan_skip; rfl; rfl; simp only [Act.put, List.setIfInBounds_toArray, List.set_cons_zero, List.set_cons_succ]) | (apply wpPlan_pass; rfl; rfl; assumption; simp only [Act.put, List.setIfInBounds_toArray, List.set_cons_zero, List.set_cons_succ]))
              have hbk : Below w7.heap.size w7 (w7.alloc (.cells #[.pointer (some ⟨q, 0, none⟩), .pointer (some ⟨q0, 0, none⟩)] 55)) := (Below.refl _ _).alloc (Nat.le_refl _) _
              have d0 := cell_later hbk c0
              have d1 := cell_later hbk c1
              refine wpPlan_run rfl rfl (by simp [execOp, go_sem, build_p1, build_p2, build_p3] <;> (first | exact ⟨rfl, rfl⟩ | rfl)) _ (fun _ h => h) ⟨d0, d1⟩ ?_
              simp only [Act.put, List.setIfInBounds_toArray, List.set_cons_zero, List.set_cons_succ]
              repeat (first | (apply wpPlan_look; rfl; rfl; (intro wq hq; (try dsimp only at hq); go_split_ands; go_simp; (try rw [if_neg (by omega)]); (try rw [if_pos (by omega)]); try with_reducible rfl); simp only [Act.put, List.setIfInBounds_toArray, List.set_cons_zero, List.set_cons_succ]) | (apply wpPlan_skip; rfl; rfl; simp only [Act.put, List.setIfInBounds_toArray, List.set_cons_zero, List.set_cons_succ]) | (apply wpPlan_pass; rfl; rfl; assumption; simp only [Act.put, List.setIfInBounds_toArray, List.set_cons_zero, List.set_cons_succ]))
              have HBK := Lib.hid hbk
              clear c0 c1 hbk
              (apply wpPlan_call; rfl; rfl; rfl; rfl; kernel_rfl; exact node_any 7 x2 y2 (some ⟨w7.heap.size, 0, none⟩) 2 2 _; rfl; rintro E wn ⟨b, rfl, hle, hbn, hkn⟩)
              have HBN := Lib.hid hbn
              have HKN := Lib.hid hkn
              refine ⟨_, rfl, as_S ⟨cell_later hbn d0, cell_later hbn d1⟩ ?_⟩
              intro HSc
              simp only [Act.put, List.setIfInBounds_toArray, List.set_cons_zero, List.set_cons_succ]
              repeat (first | (apply wpPlan_look; rfl; rfl; (intro wq hq; (try dsimp only at hq); go_split_ands; go_simp; (try rw [if_neg (by omega)]); (try rw [if_pos (by omega)]); try with_reducible rfl); simp only [Act.put, List.setIfInBounds_toArray, List.set_cons_zero, List.set_cons_succ]) | (apply wpPlan_skip; rfl; rfl; simp only [Act.put, List.setIfInBounds_toArray, List.set_cons_zero, List.set_cons_succ]) | (apply wpPlan_pass; rfl; rfl; assumption; simp only [Act.put, List.setIfInBounds_toArray, List.set_cons_zero, List.set_cons_succ]))
              apply wpPlan_done
              clear HSc d0 d1 hbn hkn
              have HMD := Lib.hid (made (ps := [.pointer (some ⟨q, 0, none⟩), .pointer (some ⟨q0, 0, none⟩)]) (kind := 7) (N := 0) (p := (x2, y2)) (s := []) (t := []) (x := []) (BrL.cat _ _ hbr hbr7) rfl HBN.out HKN.out)
              have HW8 := Lib.hid (HW7.out.later (below_later HBN.out ((Below.refl _ _).alloc (Nat.le_refl _) _)))
              clear HBN HKN HW7 hbr hbr7 HKc hkb7
              have HWT := Lib.hid (HW8.out.call (R := TokR L e q2.2.1) (spec := tokS (want L [41] q2.2.1) q2.2.2) (fun lv1 h1 => wants_any h1 [41]))
              simp only [by_] at HWT
              clear HW8
              go_wp2_with fail
              refine HWT.out.mono ?_
              clear HWT
              rintro E w9 ⟨hr, hkb9⟩
              cases hs9 : want L [41] q2.2.1 with
              | error jj =>
                rw [hs9] at hr
                obtain ⟨rfl, hk⟩ := hr
                refine ⟨rfl, HUPc.out _ _ _ ?_⟩
                rw [HSP.out, HBL2.out, HS7.out, bnd_ok, hs9]
                exact ⟨rfl, hk⟩
              | ok a =>
                rw [hs9] at hr
                obtain ⟨v, rfl, -, hw9⟩ := hr
                have hb9 := want_inv hs9
                have HSP2 : Hid (px L (n + 1) .factor i lg = px L m2 (.calls (mk 7 (x2, y2) (cat f q2.1) 0 [] [] [])) a q2.2.2) := Lib.hid (by rw [HSP.out, HBL2.out, HS7.out, bnd_ok, hs9, bnd_ok])
                have HW9 := Lib.hid (HUWc.out _ _ _ hw9)
                have HM9 := Lib.hid (HMD.out.kb hkb9)
                clear hw9 hkb9 HMD hs9 HS7 HBL2 HSP HUPc HUWc HBXc
                go_wp2_with fail
                go_roundg (L.length - a)
                case rel =>
                  obtain ⟨b', hb', hm'⟩ := HM9.out
                  injection hb' with hb'
                  injection hb' with hb'
                  injection hb' with hb'
                  subst hb'
                  exact ⟨m2, a, q2.2.2, _, b, rfl, rfl, by omega, by omega, by omega, Lib.hid hm', HW9, HSP2⟩
                case measure => omega
end
end Go.Proofs.YtnhdbjhdmdefmaaDoor

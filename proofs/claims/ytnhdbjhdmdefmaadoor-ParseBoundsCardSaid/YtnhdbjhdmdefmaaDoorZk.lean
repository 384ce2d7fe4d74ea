
/- Walks of parse: marks of two sides. -/
import Derived.Test.YtnhdbjhdmdefmaaDoorZj
namespace Culp.Gr
set_option linter.unusedSimpArgs false
set_option linter.unusedVariables false
open Go Go.RowKit Culp Culp.Tr Go.Proofs.YtnhdbjhdmdefmaaDoor
section
variable {L : List Tok} {i j m n r : Nat} {lg : List Nat} {f : F}
theorem px_bin3 : px L (n + 1) (.bin 3) i lg = px L n .factor i lg := by rw [px, if_pos rfl]
theorem px_bin (h : r ≠ 3) : px L (n + 1) (.bin r) i lg = bnd (px L n (.bin (r + 1)) i lg) fun e => px L n (.binl r e.1) e.2.1 e.2.2 := by rw [px, if_neg h]
theorem px_binl_no (h : ¬ (kd L j = 5 ∧ (ranked (txt L j)).2 = r + 1)) : px L (m + 1) (.binl r f) j lg = .ok (f, j, lg) := by
  rw [px, if_neg]
  rw [isK_kd L j (by decide), Bool.and_eq_true, beq_iff_eq, beq_iff_eq]
  exact h
theorem px_binl_y (h : kd L j = 5 ∧ (ranked (txt L j)).2 = r + 1) : px L (m + 1) (.binl r f) j lg = bnd (px L m (.bin (r + 1)) (j + 1) lg) fun e => if r = 0 then .ok (mk (ranked (txt L j)).1 (pl L j) (cat f e.1) 0 [] [] [], e.2) else px L m (.binl r (mk (ranked (txt L j)).1 (pl L j) (cat f e.1) 0 [] [] [])) e.2.1 e.2.2 := by
  rw [px, if_pos (by rw [isK_kd L j (by decide), Bool.and_eq_true, beq_iff_eq, beq_iff_eq]; exact h)]
theorem kd_lt (h : kd L j = 5) : j < L.length := by
  have : isK L 5 j = true := by rw [isK_kd L j (by decide), h]; rfl
  exact isK_lt this
theorem Went.kbs {pb B : Nat} {tv lv u : Value} {e : Nat × Nat} {w w1 : World} (h : Went pb B L tv e lv i lg w w1) : KB w1 (w1.setCell ⟨pb, 1, none⟩ u) := by
  obtain ⟨lv2, k1, k2, k3⟩ := h
  exact k2.kb (keepN_cell _ _ _ _ _)
end
end Culp.Gr
namespace Go.Proofs.YtnhdbjhdmdefmaaDoor
set_option linter.unusedSimpArgs false
set_option linter.unusedVariables false
open Go.RowKit Culp Culp.Tr Culp.Gr
section
variable {pb B : Nat} {L : List Tok} {tv : Value} {e : Nat × Nat}
/-- Factors, with so much fuel. -/
def FaC (pb B : Nat) (L : List Tok) (tv : Value) (e : Nat × Nat) (n : Nat) : Prop := ∀ (i : Nat) (lg : List Nat) (lv : Value) (w : World), PS pb B L tv e i lg lv w → 8 * (L.length - i) + 1 < n → Calls Tryd.prog 51 #[.pointer (some ⟨pb, 0, none⟩)] w (PRes BR (px L n .factor i lg) pb B L tv e lv w)
theorem BinC.next {n r i : Nat} {lg : List Nat} {lv : Value} {w : World} (h : BinC pb B L tv e n) (hr : r + 1 ≤ 3) (hp : PS pb B L tv e i lg lv w) (hn : 8 * (L.length - i) + (4 - r) < n) : Calls Tryd.prog 31 #[.pointer (some ⟨pb, 0, none⟩), .int .i64 ((r : Int) + 1)] w (PRes BR (px L n (.bin (r + 1)) i lg) pb B L tv e lv w) :=
  h (r + 1) i lg lv w hr hp (by omega)
set_option maxRecDepth 100000 in
set_option maxHeartbeats 6400000 in
theorem bin_step {n : Nat} (hB : ∀ m, m ≤ n → BinC pb B L tv e m) (hF : FaC pb B L tv e n) : BinC pb B L tv e (n + 1) := by
  intro r i lg lv w hr3 h hn
  have hsm := h.small
  have hle := h.le
  have HWa := Lib.hid (Went.refl h)
  have HUPa : Hid (∀ spec E w', PRes BR spec pb B L tv e lv w E w' → PRes BR spec pb B L tv e lv w E w') := Lib.hid fun _ _ _ h => h
  have HB := Lib.hid hB
  have HF := Lib.hid hF
  clear h hB hF
  by_cases hr : r = 3
  · subst hr
    have HS : Hid (px L (n + 1) (.bin 3) i lg = px L n .factor i lg) := Lib.hid px_bin3
    show Calls _ _ #[_, .int .i64 3] _ _
    go_enter Tryd.func31, Tryd.ntmps31
    go_wp2_with fail
    (refine (HWa.out.call (R := BR) (spec := px L n .factor i lg) (fun lv1 h1 => HF.out i lg lv1 _ h1 (by omega))).mono ?_)
    rintro E w1 ⟨hr, hkb1⟩
    cases hs1 : px L n .factor i lg with
    | error j =>
      rw [hs1] at hr
      obtain ⟨rfl, hk⟩ := hr
      refine ⟨rfl, HUPa.out _ _ _ ?_⟩
      rw [HS.out,hs1]
      exact ⟨rfl, hk⟩
    | ok q =>
      rw [hs1] at hr
      obtain ⟨v, rfl, ⟨b, rfl, hbr⟩, hw⟩ := hr
      have HR : Hid (PRes BR (px L (n + 1) (.bin 3) i lg) pb B L tv e lv w (.returned (.pointer (some ⟨b, 0, none⟩))) w1) := Lib.hid (HUPa.out _ _ _ (by rw [HS.out,hs1]; exact ⟨_, rfl, ⟨b, rfl, hbr⟩, hw⟩))
      clear hw hbr hs1 HUPa
      go_wp2_with fail
      go_ret
      exact HR.out
  · have hr2 : r ≤ 2 := by omega
    have e3 : (((r : Nat) : Int) == 3) = false := beq_eq_false_iff_ne.2 (by omega)
    have HS := Lib.hid (px_bin (L := L) (n := n) (i := i) (lg := lg) hr)
    clear hr hr3
    go_enter Tryd.func31, Tryd.ntmps31
    go_wp2_with fail
    (refine (HWa.out.call (R := BR) (spec := px L n (.bin (r + 1)) i lg) (fun lv1 h1 => (HB.out n (Nat.le_refl _)).next (by omega) h1 (by omega))).mono ?_)
    rintro E w1 ⟨hr, hkb1⟩
    cases hs1 : px L n (.bin (r + 1)) i lg with
    | error j =>
      rw [hs1] at hr
      obtain ⟨rfl, hk⟩ := hr
      refine ⟨rfl, HUPa.out _ _ _ ?_⟩
      rw [HS.out,hs1]
      exact ⟨rfl, hk⟩
    | ok ee =>
      have hb1 := nt_bound hs1 hle trivial rfl
      rw [hs1] at hr
      obtain ⟨v, rfl, ⟨q1, rfl, hk1⟩, hw⟩ := hr
      have HW1 := Lib.hid hw
      have HS1 := Lib.hid hs1
      clear hw HWa hs1
      have HSP : Hid (px L (n + 1) (.bin r) i lg = px L n (.binl r ee.1) ee.2.1 ee.2.2) := Lib.hid (by rw [HS.out, HS1.out, bnd_ok])
      have HK1 := Lib.hid hk1
      clear hk1 HS HS1 e3
      go_wp2_with fail
      go_loopg [5] (L.length - ee.2.1) (fun g v wx => ∃ (m j : Nat) (lg2 : List Nat) (f : F) (q : Nat), g = L.length - j ∧ v = .pointer (some ⟨q, 0, none⟩) ∧ j ≤ L.length ∧ 8 * (L.length - j) + 8 ≤ m ∧ m ≤ n ∧ Hid (BrL wx [.pointer (some ⟨q, 0, none⟩)] f) ∧ Hid (Went pb B L tv e lv j lg2 w wx) ∧ Hid (px L (n + 1) (.bin r) i lg = px L m (.binl r f) j lg2))
      case atStart => exact ⟨n, ee.2.1, ee.2.2, ee.1, q1, rfl, rfl, by omega, by omega, Nat.le_refl _, HK1, HW1, HSP⟩
      case round =>
        clear HSP HK1 HW1
        obtain ⟨m, j, lg2, f, q, rfl, rfl, hj, hm, hmn, HKq, HWq, HSP⟩ := hrel
        obtain ⟨m2, rfl⟩ : ∃ m2, m = m2 + 1 := ⟨m - 1, by omega⟩
        obtain ⟨lv3, hp3⟩ := HWq.out.at_
        have HH2 := Lib.hid (here_any hp3)
        clear hp3
        go_wp2_with fail
        refine HH2.out.mono ?_
        rintro E w4 ⟨rfl, hb4⟩
        have HW4 := Lib.hid (HWq.out.later hb4)
        have HK4 := Lib.hid (BrL.kb _ HKq.out (KB.below hb4))
        clear HH2 hb4 HWq HKq
        obtain ⟨kk, mm, x, y, hC, hkk, -, hxy⟩ := tokC_lit3 L e j
        rw [hC]
        have HXY := Lib.hid hxy
        clear hC hxy
        obtain ⟨k0, r0, hR⟩ : ∃ k0 r0, ranked (txt L j) = (k0, r0) := ⟨_, _, rfl⟩
        by_cases h5 : kk = 5
        · subst h5
          obtain ⟨lvc, k1, k2, k3⟩ := HW4.out
          have hbb : Below w4.heap.size w4 (w4.alloc (.cells #[.int .i8 5, .int .i64 mm, .string (by_ (txt L j)), .int .i64 x, .int .i64 y] 60)) := (Below.refl _ _).alloc (Nat.le_refl _) _
          have HUPc : Hid (∀ spec E w', PRes BR spec pb B L tv e lvc (w4.alloc (.cells #[.int .i8 5, .int .i64 mm, .string (by_ (txt L j)), .int .i64 x, .int .i64 y] 60)) E w' → PRes BR spec pb B L tv e lv w E w') := Lib.hid fun spec E w' hr => hr.from_ k1 k3 hbb
          have HUWc : Hid (∀ (k : Nat) (lg' : List Nat) (w' : World), Went pb B L tv e lvc k lg' (w4.alloc (.cells #[.int .i8 5, .int .i64 mm, .string (by_ (txt L j)), .int .i64 x, .int .i64 y] 60)) w' → Went pb B L tv e lv k lg' w w') := Lib.hid fun k lg' w' hr => Went.trans k1 k3 (Went.trans (KeepN.of pb _ hbb) (.inl rfl) hr)
          have HBXc : Hid (∀ (k : Nat) (lg' : List Nat) (w' : World), Went pb B L tv e lvc k lg' (w4.alloc (.cells #[.int .i8 5, .int .i64 mm, .string (by_ (txt L j)), .int .i64 x, .int .i64 y] 60)) w' → Blk w4.heap.size #[.int .i8 5, .int .i64 mm, .string (by_ (txt L j)), .int .i64 x, .int .i64 y] 60 w') := Lib.hid fun k lg' w' hw => hw.boxed k2 (Blk.alloc _ _ _)
          have HWc := Lib.hid (Went.refl (k2.later hbb))
          clear k1 k2 k3 hbb HW4
          have HKc : Hid (BrL (w4.alloc (.cells #[.int .i8 5, .int .i64 mm, .string (by_ (txt L j)), .int .i64 x, .int .i64 y] 60)) [.pointer (some ⟨q, 0, none⟩)] f) := Lib.hid (BrL.kb _ HK4.out (KB.below ((Below.refl _ _).alloc (Nat.le_refl _) _)))
          clear HK4
          by_cases hr0 : r0 = r + 1
          · subst hr0
            have hlt := kd_lt hkk.symm
            have HBL : Hid (px L (m2 + 1) (.binl r f) j lg2 = bnd (px L m2 (.bin (r + 1)) (j + 1) lg2) fun e => if r = 0 then .ok (mk k0 (x, y) (cat f e.1) 0 [] [] [], e.2) else px L m2 (.binl r (mk k0 (x, y) (cat f e.1) 0 [] [] [])) e.2.1 e.2.2) := Lib.hid (by
              rw [px_binl_y ⟨hkk.symm, by rw [hR]⟩, hR, ← here_pl e hlt, ← HXY.out])
            have HRK : Hid (∀ w, Calls Tryd.prog 52 #[.string (by_ (txt L j))] w (fun E w' => E = .returned (.tuple #[.int .i8 k0, .int .i64 r]) ∧ w' = w)) := Lib.hid fun w => by
              have := ranked_any (txt L j) w
              rw [hR] at this
              simp only at this
              rwa [show ((r + 1 : Nat) : Int) - 1 = (r : Int) by omega] at this
            clear hkk hR HXY
            go_wp2_with fail
            generalize w4.alloc (.cells #[.int .i8 5, .int .i64 mm, .string (by_ (txt L j)), .int .i64 x, .int .i64 y] 60) = W4 at *
            generalize w4.heap.size = tb at *
            have g0 := (HBXc.out _ _ _ HWc.out).cell (i := 0) rfl
            have p1 := HWc.out.c1
            have f1 := HWc.out.f1
            refine (HRK.out _).mono ?_
            rintro E w5 ⟨rfl, rfl⟩
            clear HRK
            go_wp2_with fail
            clear g0 p1 f1
            have HW6 := Lib.hid (HWc.out.step hlt)
            have HK6 := Lib.hid (BrL.kb _ HKc.out (HWc.out.kbs (u := .int .i64 ((j : Int) + 1))))
            have hwr : IntKind.i64.wrap ((r : Int) + 1) = (r : Int) + 1 := IntWalk.i64_in _ (by omega)
            clear HWc HKc
            have bx := HBXc.out _ _ _ HW6.out
            have c0 := bx.cell (i := 3) rfl
            have c1 := bx.cell (i := 4) rfl
            clear bx
            refine wp_region_plan (S := fun w' => w'.cell? ⟨tb, 3, none⟩ = some (.int .i64 x) ∧ w'.cell? ⟨tb, 4, none⟩ = some (.int .i64 y)) [(0, true), (1, true), (2, true), (3, true), (4, true), (5, true), (6, true), (7, false), (8, false), (9, false), (10, true)] (by kernel_rfl) (by kernel_rfl) (by kernel_rfl) (fun _ _ _ _ _ h => h) ⟨c0, c1⟩ ?_
            intro HSc
            repeat (first | (apply wpPlan_look; rfl; rfl; (intro wq hq; (try dsimp only at hq); go_split_ands; go_simp; (try rw [if_neg (by omega)]); (try rw [if_pos (by omega)]); try with_reducible rfl); simp only [Act.put, List.setIfInBounds_toArray, List.set_cons_zero, List.set_cons_succ]) | (apply wpPlan_skip; rfl; rfl; simp only [Act.put, List.setIfInBounds_toArray, List.set_cons_zero, List.set_cons_succ]) | (apply wpPlan_pass; rfl; rfl; assumption; simp only [Act.put, List.setIfInBounds_toArray, List.set_cons_zero, List.set_cons_succ]))
            clear HSc c0 c1
            (apply wpPlan_callS; rfl; rfl; rfl; rfl; kernel_rfl; exact (HW6.out.later ((Below.refl _ _).drew)).call (R := BR) (spec := px L m2 (.bin (r + 1)) (j + 1) lg2) (fun lv1 h1 => (HB.out m2 (by omega)).next (by omega) h1 (by omega)); rfl; rintro E w7 ⟨hr, hkb7⟩)
            cases hs7 : px L m2 (.bin (r + 1)) (j + 1) lg2 with
            | error j =>
              rw [hs7] at hr
              obtain ⟨rfl, hk⟩ := hr
              refine .inr ⟨_, rfl, rfl, HUPc.out _ _ _ ?_⟩
              rw [HSP.out, HBL.out,hs7]
              exact ⟨rfl, hk⟩
            | ok q2 =>
              have hb7 := nt_bound hs7 hlt trivial rfl
              have hbr : BrL w7 [.pointer (some ⟨q, 0, none⟩)] f := BrL.kb _ HK6.out hkb7
              rw [hs7] at hr
              obtain ⟨v, rfl, ⟨q0, rfl, hbr7⟩, hw⟩ := hr
              have HW7 := Lib.hid hw
              have HS7 := Lib.hid hs7
              have bx := HBXc.out _ _ _ hw
              have c0 := bx.cell (i := 3) rfl
              have c1 := bx.cell (i := 4) rfl
              clear bx hw HW6 hs7
              refine .inl ⟨_, rfl, _, fun _ h => h, ⟨c0, c1⟩, ?_⟩
              simp only [Act.put, List.setIfInBounds_toArray, List.set_cons_zero, List.set_cons_succ]
              repeat (first | (apply wpPlan_look; rfl; rfl; (intro wq hq; (try dsimp only at hq); go_split_ands; go_simp; (try rw [if_neg (by omega)]); (try rw [if_pos (by omega)]); try with_reducible rfl); simp only [Act.put, List.setIfInBounds_toArray, List.set_cons_zero, List.set_cons_succ]) | (apply wpPlan_skip; rfl; rfl; simp only [Act.put, List.setIfInBounds_toArray, List.set_cons_zero, List.set_cons_succ]) | (apply wpPlan_pass; rfl; rfl; assumption; simp only [Act.put, List.setIfInBounds_toArray, List.set_cons_zero, List.set_cons_succ]))
              have hbk : Below w7.heap.size w7 (w7.alloc (.cells #[.pointer (some ⟨q, 0, none⟩), .pointer (some ⟨q0, 0, none⟩)] 55)) := (Below.refl _ _).alloc (Nat.le_refl _) _
              have d0 := cell_later hbk c0
              have d1 := cell_later hbk c1
              refine wpPlan_run rfl rfl (by simp [execOp, go_sem, build_p1, build_p2, build_p3] <;> (first | exact ⟨rfl, rfl⟩ | rfl)) _ (fun _ h => h) ⟨d0, d1⟩ ?_
              simp only [Act.put, List.setIfInBounds_toArray, List.set_cons_zero, List.set_cons_succ]
              repeat (first | (apply wpPlan_look; rfl; rfl; (intro wq hq; (try dsimp only at hq); go_split_ands; go_simp; (try rw [if_neg (by omega)]); (try rw [if_pos (by omega)]); try with_reducible rfl); simp only [Act.put, List.setIfInBounds_toArray, List.set_cons_zero, List.set_cons_succ]) | (apply wpPlan_skip; rfl; rfl; simp only [Act.put, List.setIfInBounds_toArray, List.set_cons_zero, List.set_cons_succ]) | (apply wpPlan_pass; rfl; rfl; assumption; simp only [Act.put, List.setIfInBounds_toArray, List.set_cons_zero, List.set_cons_succ]))
              have HBK := Lib.hid hbk
              clear c0 c1 hbk
              (apply wpPlan_call; rfl; rfl; rfl; rfl; kernel_rfl; exact node_any k0 x y (some ⟨w7.heap.size, 0, none⟩) 2 2 _; rfl; rintro E wn ⟨b, rfl, hle, hbn, hkn⟩)
              have HBN := Lib.hid hbn
              have HKN := Lib.hid hkn
              refine ⟨_, rfl, as_S ⟨cell_later hbn d0, cell_later hbn d1⟩ ?_⟩
              intro HSc
              simp only [Act.put, List.setIfInBounds_toArray, List.set_cons_zero, List.set_cons_succ]
              repeat (first | (apply wpPlan_look; rfl; rfl; (intro wq hq; (try dsimp only at hq); go_split_ands; go_simp; (try rw [if_neg (by omega)]); (try rw [if_pos (by omega)]); try with_reducible rfl); simp only [Act.put, List.setIfInBounds_toArray, List.set_cons_zero, List.set_cons_succ]) | (apply wpPlan_skip; rfl; rfl; simp only [Act.put, List.setIfInBounds_toArray, List.set_cons_zero, List.set_cons_succ]) | (apply wpPlan_pass; rfl; rfl; assumption; simp only [Act.put, List.setIfInBounds_toArray, List.set_cons_zero, List.set_cons_succ]))
              apply wpPlan_done
              clear HSc d0 d1 hbn hkn
              clear hwr
              have HMD := Lib.hid (made (ps := [.pointer (some ⟨q, 0, none⟩), .pointer (some ⟨q0, 0, none⟩)]) (kind := k0) (N := 0) (p := (x, y)) (s := []) (t := []) (x := []) (BrL.cat _ _ hbr hbr7) rfl HBN.out HKN.out)
              have HW8 := Lib.hid (HW7.out.later (below_later HBN.out ((Below.refl _ _).alloc (Nat.le_refl _) _)))
              clear HBN HKN HW7 hbr hbr7 HK6 hkb7
              by_cases h0 : r = 0
              · have e0 : (((r : Nat) : Int) == 0) = true := beq_iff_eq.2 (by omega)
                have HR : Hid (PRes BR (px L (n + 1) (.bin r) i lg) pb B L tv e lv w (.returned (.pointer (some ⟨b, 0, none⟩))) wn) := Lib.hid (HUPc.out _ _ _ (by
                  rw [HSP.out, HBL.out, HS7.out, bnd_ok, if_pos h0]
                  exact ⟨_, rfl, HMD.out, HW8.out⟩))
                clear h0 HMD HW8 HS7 HBL HSP HUPc HUWc HBXc
                go_wp2_with fail
                go_ret
                exact HR.out
              · have e0 : (((r : Nat) : Int) == 0) = false := beq_eq_false_iff_ne.2 (by omega)
                have HSP2 : Hid (px L (n + 1) (.bin r) i lg = px L m2 (.binl r (mk k0 (x, y) (cat f q2.1) 0 [] [] [])) q2.2.1 q2.2.2) := Lib.hid (by rw [HSP.out, HBL.out, HS7.out, bnd_ok, if_neg h0])
                have HW9 := Lib.hid (HUWc.out _ _ _ HW8.out)
                clear HW8 HS7 HBL HSP HUPc HUWc HBXc
                go_wp2_with fail
                go_roundg (L.length - q2.2.1)
                case rel =>
                  obtain ⟨b', hb', hm'⟩ := HMD.out
                  injection hb' with hb'
                  injection hb' with hb'
                  injection hb' with hb'
                  subst hb'
                  exact ⟨m2, q2.2.1, q2.2.2, _, b, rfl, rfl, by omega, by omega, by omega, Lib.hid hm', HW9, HSP2⟩
                case measure => omega
          · have en : ((((r0 : Nat) : Int) - 1) != ((r : Nat) : Int)) = true := bne_iff_ne.2 (by omega)
            have HRK : Hid (∀ w, Calls Tryd.prog 52 #[.string (by_ (txt L j))] w (fun E w' => E = .returned (.tuple #[.int .i8 k0, .int .i64 ((r0 : Int) - 1)]) ∧ w' = w)) := Lib.hid fun w => by have := ranked_any (txt L j) w; rwa [hR] at this
            have HR : Hid (PRes BR (px L (n + 1) (.bin r) i lg) pb B L tv e lv w (.returned (.pointer (some ⟨q, 0, none⟩))) (w4.alloc (.cells #[.int .i8 5, .int .i64 mm, .string (by_ (txt L j)), .int .i64 x, .int .i64 y] 60))) := Lib.hid (HUPc.out _ _ _ (by
              rw [HSP.out, px_binl_no (fun hh => hr0 ((congrArg Prod.snd hR).symm.trans hh.2))]
              exact ⟨_, rfl, ⟨q, rfl, HKc.out⟩, HWc.out⟩))
            clear hR HSP HUPc HUWc HBXc HWc HKc hkk
            go_wp2_with fail
            refine (HRK.out _).mono ?_
            rintro E w5 ⟨rfl, rfl⟩
            clear HRK
            go_wp2_with fail
            go_ret
            exact HR.out
        · have e5 : (((kk : Nat) : Int) != 5) = true := bne_iff_ne.2 (by omega)
          obtain ⟨lvc, k1, k2, k3⟩ := HW4.out
          have hbb : Below w4.heap.size w4 (w4.alloc (.cells #[.int .i8 kk, .int .i64 mm, .string (by_ (txt L j)), .int .i64 x, .int .i64 y] 60)) := (Below.refl _ _).alloc (Nat.le_refl _) _
          have HUPc : Hid (∀ spec E w', PRes BR spec pb B L tv e lvc (w4.alloc (.cells #[.int .i8 kk, .int .i64 mm, .string (by_ (txt L j)), .int .i64 x, .int .i64 y] 60)) E w' → PRes BR spec pb B L tv e lv w E w') := Lib.hid fun spec E w' hr => hr.from_ k1 k3 hbb
          have HUWc : Hid (∀ (k : Nat) (lg' : List Nat) (w' : World), Went pb B L tv e lvc k lg' (w4.alloc (.cells #[.int .i8 kk, .int .i64 mm, .string (by_ (txt L j)), .int .i64 x, .int .i64 y] 60)) w' → Went pb B L tv e lv k lg' w w') := Lib.hid fun k lg' w' hr => Went.trans k1 k3 (Went.trans (KeepN.of pb _ hbb) (.inl rfl) hr)
          have HBXc : Hid (∀ (k : Nat) (lg' : List Nat) (w' : World), Went pb B L tv e lvc k lg' (w4.alloc (.cells #[.int .i8 kk, .int .i64 mm, .string (by_ (txt L j)), .int .i64 x, .int .i64 y] 60)) w' → Blk w4.heap.size #[.int .i8 kk, .int .i64 mm, .string (by_ (txt L j)), .int .i64 x, .int .i64 y] 60 w') := Lib.hid fun k lg' w' hw => hw.boxed k2 (Blk.alloc _ _ _)
          have HWc := Lib.hid (Went.refl (k2.later hbb))
          clear k1 k2 k3 hbb HW4
          have HKc : Hid (BrL (w4.alloc (.cells #[.int .i8 kk, .int .i64 mm, .string (by_ (txt L j)), .int .i64 x, .int .i64 y] 60)) [.pointer (some ⟨q, 0, none⟩)] f) := Lib.hid (BrL.kb _ HK4.out (KB.below ((Below.refl _ _).alloc (Nat.le_refl _) _)))
          clear HK4
          have HRK : Hid (∀ w, Calls Tryd.prog 52 #[.string (by_ (txt L j))] w (fun E w' => E = .returned (.tuple #[.int .i8 k0, .int .i64 ((r0 : Int) - 1)]) ∧ w' = w)) := Lib.hid fun w => by have := ranked_any (txt L j) w; rwa [hR] at this
          have HR : Hid (PRes BR (px L (n + 1) (.bin r) i lg) pb B L tv e lv w (.returned (.pointer (some ⟨q, 0, none⟩))) (w4.alloc (.cells #[.int .i8 kk, .int .i64 mm, .string (by_ (txt L j)), .int .i64 x, .int .i64 y] 60))) := Lib.hid (HUPc.out _ _ _ (by
            rw [HSP.out, px_binl_no (fun hh => h5 (hkk.trans hh.1))]
            exact ⟨_, rfl, ⟨q, rfl, HKc.out⟩, HWc.out⟩))
          clear hR HSP HUPc HUWc HBXc HWc HKc hkk
          go_wp2_with fail
          refine (HRK.out _).mono ?_
          rintro E w5 ⟨rfl, rfl⟩
          clear HRK
          go_wp2_with fail
          go_ret
          exact HR.out
end
end Go.Proofs.YtnhdbjhdmdefmaaDoor

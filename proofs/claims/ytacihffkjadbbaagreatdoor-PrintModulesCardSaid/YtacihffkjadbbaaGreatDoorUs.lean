
/- Walks of the document's chapter 7: modules. -/
import Derived.Test.YtacihffkjadbbaaGreatDoorUr
import Derived.Test.YtacihffkjadbbaaGreatDoorVf
namespace Go.Proofs.YtacihffkjadbbaaGreatDoor
set_option linter.unusedSimpArgs false
set_option linter.unusedVariables false
open Go.RowKit Go.Maps Culp
set_option maxRecDepth 100000 in
theorem rpModules_bad (L : List Md) (v : Value) (w : World) (hL : Mods w v L) (hl : L.length ≤ 1000000000000000) (hz : ∀ m ∈ L, MdSz m) (hc : Mo.mods L ≠ 0) :
    Calls Tryz.prog 20 #[v] w (Makes (badV (Mo.mods L)) w) := by
  have HCK := Lib.hid (rModules_any L v w hL hl hz)
  have e0 := neq_lit (z := 0) (show (Mo.mods L : Int) ≠ 0 by omega)
  generalize Mo.mods L = c at *
  clear hc hz hL hl
  go_enter Tryz.func20, Tryz.ntmps20
  go_wp2_with fail
  refine HCK.out.mono ?_
  rintro e w1 ⟨rfl, hb1⟩
  go_wp2_with fail
  refine bodyPost_ret (v := badV c) (by simp [results, Tryz.results20, go_sem, badV]) rfl ?_
  exact ⟨rfl, hb1⟩
theorem app_at (a b c : List UInt8) (h : a ++ b = c) : bs a ++ bs b = bs c := by rw [bs_app, h]
set_option maxRecDepth 100000 in
set_option maxHeartbeats 25600000 in
theorem rpModules_ok (g : List Nd → List UInt8) (L : List Md) (v : Value) (w : World) (hL : Mods w v L) (hl : L.length ≤ 1000000000000000) (hz : ∀ m ∈ L, MdSz m) (hc : Mo.mods L = 0) (h8 : L.length ≤ 8) (hG : ∀ m ∈ L, Pt.GoodM g m) :
    Calls Tryz.prog 20 #[v] w (Makes (outV (Pt.modsT g L)) w) := by
  have HCK := Lib.hid (rModules_any L v w hL hl hz)
  rw [hc] at HCK
  have HL := Lib.hid hL
  have HZ := Lib.hid hz
  have HG := Lib.hid hG
  have HLEN := Lib.hid (Pt.modsT_len hG h8)
  obtain ⟨A, C, rfl⟩ := hL.form
  clear hL hz hG hl hc
  go_enter Tryz.func20, Tryz.ntmps20
  go_wp2_with fail
  refine HCK.out.mono ?_
  rintro E w1 ⟨rfl, hb1⟩
  have HB1 := Lib.hid hb1
  clear hb1 HCK
  go_wp2_with fail
  go_loopw [5, 6] (fun sv iv wr => ∃ k : Nat, k ≤ L.length ∧ iv = .int .i64 k ∧ sv = .string (bs (Pt.modsT g (L.take k))) ∧ Hid (Below w.heap.size w wr)) (fun _ i _ => L.length - (intOf i).toNat)
  case atStart => exact ⟨0, Nat.zero_le _, rfl, rfl, HB1⟩
  case round =>
    clear HB1
    obtain ⟨k, hk, rfl, rfl, HB⟩ := hrel
    by_cases hlt : k < L.length
    · obtain ⟨b1, off1, iv, dv, rfl, ⟨n0, n1, n2, n3, n4⟩, hi0, hd0⟩ := HL.out.at_ hlt
      have hmL : L[k] ∈ L := List.getElem_mem hlt
      have hx : L[k]? = some L[k] := List.getElem?_eq_getElem hlt
      obtain ⟨Ai, ci, rfl⟩ := hi0.form
      obtain ⟨Ad, cd, rfl⟩ := hd0.form
      have HX := Lib.hid hx
      have HMZ := Lib.hid (HZ.out _ hmL)
      have HMG := Lib.hid (HG.out _ hmL)
      have HPRE := Lib.hid (Pt.flat_pre (f := Pt.modT g) hx)
      generalize L[k] = m at *
      have HI := Lib.hid hi0
      have HD := Lib.hid hd0
      have HN1 := Lib.hid n1
      have HN2 := Lib.hid n2
      have n0' := cell_later HB.out n0
      have hli : m.imps.length ≤ 64 := HMG.out.2.1
      have hld : m.defs.length ≤ 64 := HMG.out.2.2.1
      have hnm : m.name.size ≤ 32 := HMG.out.1
      have HTOT : Hid ((Pt.modsT g (L.take k)).length + ((Pt.headT m).length + (m.imps.flatMap Pt.impT).length + (m.defs.flatMap (Pt.defT g)).length + 2) ≤ 3200000000) := Lib.hid (by
        have h1 := HPRE.out
        have h2 := HLEN.out
        rw [Pt.modT_head] at h1
        simp only [List.length_append, List.length_cons, List.length_nil] at h1
        unfold Pt.modsT at h2 ⊢
        omega)
      have hpre : (bs (Pt.modsT g (L.take k))).size ≤ 3200000000 := by have := HTOT.out; rw [bs_size]; omega
      clear hx hmL hi0 hd0 n0 n1 n2 n3 n4
      go_wp2_with fail
      obtain ⟨wo, rfl⟩ : ∃ w0, w0 = wr := ⟨_, rfl⟩
      go_loopw [5, 7] (fun sv jv wr2 => ∃ j : Nat, j ≤ m.imps.length ∧ jv = .int .i64 j ∧ sv = .string (bs (Pt.modsT g (L.take k) ++ Pt.headT m ++ (m.imps.take j).flatMap Pt.impT)) ∧ Hid (Below w.heap.size w wr2)) (fun _ jv _ => m.imps.length - (intOf jv).toNat)
      case atStart => exact ⟨0, Nat.zero_le _, rfl, by apply str_congr; apply str_inj'; simp [bs, Pt.headT], HB⟩
      case round =>
        clear hpre HB n0'
        obtain ⟨j, hj, rfl, rfl, HB⟩ := hrel
        have n1 := cell_later HB.out HN1.out
        by_cases hlt2 : j < m.imps.length
        · obtain ⟨b2, off2, rfl, ⟨q0, q1, q2, q3, q4⟩⟩ := HI.out.at_ hlt2
          replace q0 := cell_later HB.out q0
          replace q1 := cell_later HB.out q1
          replace q2 := cell_later HB.out q2
          replace q3 := cell_later HB.out q3
          replace q4 := cell_later HB.out q4
          have hx2 : m.imps[j]? = some m.imps[j] := List.getElem?_eq_getElem hlt2
          have HX2 := Lib.hid hx2
          have HIG := Lib.hid (HMG.out.2.2.2.1 _ (List.getElem_mem hlt2))
          have HPI := Lib.hid (Pt.flat_pre (f := Pt.impT) hx2)
          generalize m.imps[j] = x at *
          have hs1 : x.src.size ≤ 32 := HIG.out.1
          have hs2 : x.name.size ≤ 32 := HIG.out.2.1
          have hs3 : (bs (Pt.note x.t)).size ≤ 400 := by rw [bs_size]; exact note_len _ HIG.out.2.2
          have hsa : (bs (Pt.modsT g (L.take k) ++ Pt.headT m ++ (m.imps.take j).flatMap Pt.impT)).size ≤ 3200000000 := by have := HTOT.out; have := HPI.out; rw [bs_size]; simp only [List.length_append]; omega
          have HNX : Hid (bs (Pt.modsT g (L.take k) ++ Pt.headT m ++ (m.imps.take j).flatMap Pt.impT) ++ { data := #[32, 32, 105, 109, 112, 111, 114, 116, 32] } ++ x.src ++ { data := #[46] } ++ x.name ++ bs (Pt.note x.t) ++ { data := #[59, 10] } = bs (Pt.modsT g (L.take k) ++ Pt.headT m ++ (m.imps.take (j + 1)).flatMap Pt.impT)) := Lib.hid (by
            rw [Pt.flat_take hx2]
            apply str_inj'
            simp [bs, Pt.impT])
          generalize bs (Pt.modsT g (L.take k) ++ Pt.headT m ++ (m.imps.take j).flatMap Pt.impT) = sa at *
          have hb2 : Below wr.heap.size wr (wr.alloc (.cells #[.string x.src, .string x.name, .string x.t, .int .i64 x.line, .int .i64 x.col] 57)) := (Below.refl _ _).alloc (Nat.le_refl _) _
          have HB2 := Lib.hid (below_later hb2 HB.out)
          have z0 := box_cell wr #[.string x.src, .string x.name, .string x.t, .int .i64 x.line, .int .i64 x.col] 57 0 (.string x.src) rfl
          have z1 := box_cell wr #[.string x.src, .string x.name, .string x.t, .int .i64 x.line, .int .i64 x.col] 57 1 (.string x.name) rfl
          have z2 := box_cell wr #[.string x.src, .string x.name, .string x.t, .int .i64 x.line, .int .i64 x.col] 57 2 (.string x.t) rfl
          clear hx2 hb2
          go_wp2_with fail
          generalize wr.heap.size = ib at *
          generalize hwy : wr.alloc (.cells #[.string x.src, .string x.name, .string x.t, .int .i64 x.line, .int .i64 x.col] 57) = wy at *
          clear hwy q0 q1 q2 q3 q4 n1
          have hbd : Below wy.heap.size wy wy.drew := (Below.refl _ _).drew
          refine wp_region_plan (S := fun w' => w'.cell? ⟨ib, 0, none⟩ = some (.string x.src) ∧ w'.cell? ⟨ib, 1, none⟩ = some (.string x.name) ∧ w'.cell? ⟨ib, 2, none⟩ = some (.string x.t))
            [(0, true), (1, true), (2, true), (3, true), (4, true), (5, true), (6, true), (7, true), (8, true), (9, true), (10, true), (11, false), (12, true), (13, true), (14, true)] (by kernel_rfl) (by kernel_rfl) (by kernel_rfl) (fun _ _ _ _ _ h => h) ⟨z0, z1, z2⟩ ?_
          intro HS
          repeat (first | (apply wpPlan_look; rfl; rfl; (intro wq hq; (try dsimp only at hq); go_split_ands; go_simp; (try rw [if_neg (by omega)]); (try rw [if_pos (by omega)]); try with_reducible rfl); simp only [Act.put, List.setIfInBounds_toArray, List.set_cons_zero, List.set_cons_succ]) | (apply wpPlan_skip; rfl; rfl; simp only [Act.put, List.setIfInBounds_toArray, List.set_cons_zero, List.set_cons_succ]) | (apply wpPlan_pass; rfl; rfl; assumption; simp only [Act.put, List.setIfInBounds_toArray, List.set_cons_zero, List.set_cons_succ]))
          apply wpPlan_call; rfl; rfl; rfl; rfl; kernel_rfl; exact r7Note_any x.t HIG.out.2.2 _; rfl; rintro e w3 ⟨rfl, hb3⟩
          have hb3' : Below wy.heap.size wy w3 := hbd.trans (hb3.mono (Nat.le_refl _))
          refine ⟨_, rfl, as_S ⟨cell_later hb3' z0, cell_later hb3' z1, cell_later hb3' z2⟩ ?_⟩
          clear HS
          intro HS
          simp only [Act.put, List.setIfInBounds_toArray, List.set_cons_zero, List.set_cons_succ]
          repeat (first | (apply wpPlan_look; rfl; rfl; (intro wq hq; (try dsimp only at hq); go_split_ands; go_simp; (try rw [if_neg (by omega)]); (try rw [if_pos (by omega)]); try with_reducible rfl); simp only [Act.put, List.setIfInBounds_toArray, List.set_cons_zero, List.set_cons_succ]) | (apply wpPlan_skip; rfl; rfl; simp only [Act.put, List.setIfInBounds_toArray, List.set_cons_zero, List.set_cons_succ]) | (apply wpPlan_pass; rfl; rfl; assumption; simp only [Act.put, List.setIfInBounds_toArray, List.set_cons_zero, List.set_cons_succ]))
          apply wpPlan_done
          have HB3 := Lib.hid (below_later hb3' HB2.out)
          clear HS z0 z1 z2 hb3 hb3' hbd
          go_wp2_with fail
          go_roundw
          case rel => exact ⟨j + 1, by omega, by go_num, str_congr HNX.out, HB3⟩
          case measure => simp [intOf]; omega
        · have hje : j = m.imps.length := by omega
          subst hje
          rw [List.take_length]
          go_wp2_with fail
          obtain ⟨wo, rfl⟩ : ∃ w0, w0 = wr := ⟨_, rfl⟩
          go_loopw [5, 9] (fun sv jv wr3 => ∃ j : Nat, j ≤ m.defs.length ∧ jv = .int .i64 j ∧ sv = .string (bs (Pt.modsT g (L.take k) ++ Pt.headT m ++ m.imps.flatMap Pt.impT ++ (m.defs.take j).flatMap (Pt.defT g))) ∧ Hid (Below w.heap.size w wr3)) (fun _ jv _ => m.defs.length - (intOf jv).toNat)
          case atStart => exact ⟨0, Nat.zero_le _, rfl, by simp, HB⟩
          case round =>
            clear HB n1
            obtain ⟨j, hj, rfl, rfl, HB⟩ := hrel
            have n2 := cell_later HB.out HN2.out
            by_cases hlt3 : j < m.defs.length
            · obtain ⟨b3, off3, tv, rfl, ⟨q0, q1, q2, q3, q4, q5⟩, ht⟩ := HD.out.at_ hlt3
              replace q0 := cell_later HB.out q0
              replace q1 := cell_later HB.out q1
              replace q2 := cell_later HB.out q2
              replace q3 := cell_later HB.out q3
              replace q4 := cell_later HB.out q4
              replace q5 := cell_later HB.out q5
              obtain ⟨At, ct, rfl⟩ := ht.form
              have hx3 : m.defs[j]? = some m.defs[j] := List.getElem?_eq_getElem hlt3
              have HDG := Lib.hid (HMG.out.2.2.2.2 _ (List.getElem_mem hlt3))
              have HDZ := Lib.hid (HMZ.out.2.2.2 _ (List.getElem_mem hlt3))
              have HPD := Lib.hid (Pt.flat_pre (f := Pt.defT g) hx3)
              have HX3 := Lib.hid hx3
              generalize m.defs[j] = d at *
              obtain ⟨hd1, hd2, hd3, hd4, x, ks, hd5, hd6, hd7⟩ := HDG.out
              have hks : ks.flat.length ≤ 4095 := by rw [hd5] at hd3; simp at hd3; omega
              have hpl : (Pt.part x ks).length ≤ 6144000 := by
                have := Pt.part_len (x := x) (ks := ks) (fun y hy => hd4 y (by rw [hd5]; exact hy))
                omega
              have hRP := (rall_parts d.tree _ w ht (by omega) (fun y hy => ⟨(HDZ.out.2.2.2.1 y hy).1, (HDZ.out.2.2.2.1 y hy).2.2.2⟩) (.cons x ks .nil) hd6 (fun y hy => hd4 y (by rw [hd5]; simpa [Tr.F.flat] using hy))).1
              have HRP := Lib.hid (fun w' hb => hRP 0 w' ⟨[], [], by rw [hd5]; simp, rfl⟩ hb (by omega))
              have HNT := Lib.hid hd2
              have hs1 : d.name.size ≤ 32 := hd1
              have hs2 : (bs (Pt.note d.t)).size ≤ 400 := by rw [bs_size]; exact note_len _ hd2
              have hs3 : (bs (Pt.part x ks)).size ≤ 6144000 := by rw [bs_size]; exact hpl
              have hsa : (bs (Pt.modsT g (L.take k) ++ Pt.headT m ++ m.imps.flatMap Pt.impT ++ (m.defs.take j).flatMap (Pt.defT g))).size ≤ 3200000000 := by have := HTOT.out; have := HPD.out; rw [bs_size]; simp only [List.length_append]; omega
              have hb2 : Below wr.heap.size wr (wr.alloc (.cells #[.string d.name, .bool d.out, .string d.t, .slice At d.tree.length ct, .int .i64 d.line, .int .i64 d.col] 60)) := (Below.refl _ _).alloc (Nat.le_refl _) _
              have HB2 := Lib.hid (below_later hb2 HB.out)
              have z0 := box_cell wr #[.string d.name, .bool d.out, .string d.t, .slice At d.tree.length ct, .int .i64 d.line, .int .i64 d.col] 60 0 (.string d.name) rfl
              have z1 := box_cell wr #[.string d.name, .bool d.out, .string d.t, .slice At d.tree.length ct, .int .i64 d.line, .int .i64 d.col] 60 1 (.bool d.out) rfl
              have z2 := box_cell wr #[.string d.name, .bool d.out, .string d.t, .slice At d.tree.length ct, .int .i64 d.line, .int .i64 d.col] 60 2 (.string d.t) rfl
              have z3 := box_cell wr #[.string d.name, .bool d.out, .string d.t, .slice At d.tree.length ct, .int .i64 d.line, .int .i64 d.col] 60 3 (.slice At d.tree.length ct) rfl
              clear hb2 ht hd1 hd2 hd3 hd4 hd5 hd6 hks hRP hpl hx3
              cases hout : d.out with
              | true =>
                rw [hout] at z0 z1 z2 z3 HB2 q1
                have HNX : Hid (bs (Pt.modsT g (L.take k) ++ Pt.headT m ++ m.imps.flatMap Pt.impT ++ (m.defs.take j).flatMap (Pt.defT g)) ++ { data := #[32, 32] } ++ ({ data := #[101, 120, 112, 111, 114, 116, 32] } : ByteArray) ++ { data := #[108, 101, 116, 32] } ++ d.name ++ bs (Pt.note d.t) ++ { data := #[32, 61, 32] } ++ bs (Pt.part x ks) ++ { data := #[59, 10] } = bs (Pt.modsT g (L.take k) ++ Pt.headT m ++ m.imps.flatMap Pt.impT ++ (m.defs.take (j + 1)).flatMap (Pt.defT g))) := Lib.hid (by
                  rw [Pt.flat_take HX3.out]
                  apply str_inj'
                  simp [bs, Pt.defT, Pt.expT, hout, hd7])
                have HOUT := Lib.hid hout
                clear hout hd7
                generalize bs (Pt.modsT g (L.take k) ++ Pt.headT m ++ m.imps.flatMap Pt.impT ++ (m.defs.take j).flatMap (Pt.defT g)) = sa at *
                go_wp2_with fail
                generalize wr.heap.size = ib at *
                generalize hwy : wr.alloc (.cells #[.string d.name, .bool true, .string d.t, .slice At d.tree.length ct, .int .i64 d.line, .int .i64 d.col] 60) = wy at *
                clear hwy q0 q1 q2 q3 q4 q5 n2
                have hbd : Below wy.heap.size wy wy.drew := (Below.refl _ _).drew
                refine wp_region_plan (S := fun w' => w'.cell? ⟨ib, 0, none⟩ = some (.string d.name) ∧ w'.cell? ⟨ib, 2, none⟩ = some (.string d.t) ∧ w'.cell? ⟨ib, 3, none⟩ = some (.slice At d.tree.length ct))
                  [(0, true), (1, true), (2, true), (3, true), (4, true), (5, true), (6, true), (10, true), (11, true), (7, false), (8, true), (9, true), (12, false), (13, true), (14, true), (15, true)] (by kernel_rfl) (by kernel_rfl) (by kernel_rfl) (fun _ _ _ _ _ h => h) ⟨z0, z2, z3⟩ ?_
                intro HS
                repeat (first | (apply wpPlan_look; rfl; rfl; (intro wq hq; (try dsimp only at hq); go_split_ands; go_simp; (try rw [if_neg (by omega)]); (try rw [if_pos (by omega)]); try with_reducible rfl); simp only [Act.put, List.setIfInBounds_toArray, List.set_cons_zero, List.set_cons_succ]) | (apply wpPlan_skip; rfl; rfl; simp only [Act.put, List.setIfInBounds_toArray, List.set_cons_zero, List.set_cons_succ]) | (apply wpPlan_pass; rfl; rfl; assumption; simp only [Act.put, List.setIfInBounds_toArray, List.set_cons_zero, List.set_cons_succ]))
                apply wpPlan_call; rfl; rfl; rfl; rfl; kernel_rfl; exact r7Note_any d.t HNT.out _; rfl; rintro e w3 ⟨rfl, hb3⟩
                have hb3' : Below wy.heap.size wy w3 := hbd.trans (hb3.mono (Nat.le_refl _))
                refine ⟨_, rfl, as_S ⟨cell_later hb3' z0, cell_later hb3' z2, cell_later hb3' z3⟩ ?_⟩
                clear HS
                intro HS
                simp only [Act.put, List.setIfInBounds_toArray, List.set_cons_zero, List.set_cons_succ]
                repeat (first | (apply wpPlan_look; rfl; rfl; (intro wq hq; (try dsimp only at hq); go_split_ands; go_simp; (try rw [if_neg (by omega)]); (try rw [if_pos (by omega)]); try with_reducible rfl); simp only [Act.put, List.setIfInBounds_toArray, List.set_cons_zero, List.set_cons_succ]) | (apply wpPlan_skip; rfl; rfl; simp only [Act.put, List.setIfInBounds_toArray, List.set_cons_zero, List.set_cons_succ]) | (apply wpPlan_pass; rfl; rfl; assumption; simp only [Act.put, List.setIfInBounds_toArray, List.set_cons_zero, List.set_cons_succ]))
                apply wpPlan_call; rfl; rfl; rfl; rfl; kernel_rfl; exact HRP.out _ (below_later hb3' HB2.out); rfl; rintro e w4 ⟨rfl, hb4⟩
                have hb4' : Below wy.heap.size wy w4 := hb3'.trans (hb4.mono hb3'.size)
                refine ⟨_, rfl, as_S ⟨cell_later hb4' z0, cell_later hb4' z2, cell_later hb4' z3⟩ ?_⟩
                clear HS
                intro HS
                simp only [Act.put, List.setIfInBounds_toArray, List.set_cons_zero, List.set_cons_succ]
                repeat (first | (apply wpPlan_look; rfl; rfl; (intro wq hq; (try dsimp only at hq); go_split_ands; go_simp; (try rw [if_neg (by omega)]); (try rw [if_pos (by omega)]); try with_reducible rfl); simp only [Act.put, List.setIfInBounds_toArray, List.set_cons_zero, List.set_cons_succ]) | (apply wpPlan_skip; rfl; rfl; simp only [Act.put, List.setIfInBounds_toArray, List.set_cons_zero, List.set_cons_succ]) | (apply wpPlan_pass; rfl; rfl; assumption; simp only [Act.put, List.setIfInBounds_toArray, List.set_cons_zero, List.set_cons_succ]))
                apply wpPlan_done
                have HB4 := Lib.hid (below_later hb4' HB2.out)
                clear HS z0 z1 z2 z3 hb3 hb3' hb4 hb4' hbd
                go_wp2_with fail
                go_roundw
                case rel => exact ⟨j + 1, by omega, by go_num, str_congr (by rw [← HNX.out]; try (apply str_inj'; simp)), HB4⟩
                case measure => simp [intOf]; omega
              | false =>
                rw [hout] at z0 z1 z2 z3 HB2 q1
                have HNX : Hid (bs (Pt.modsT g (L.take k) ++ Pt.headT m ++ m.imps.flatMap Pt.impT ++ (m.defs.take j).flatMap (Pt.defT g)) ++ { data := #[32, 32] } ++ ({ data := #[] } : ByteArray) ++ { data := #[108, 101, 116, 32] } ++ d.name ++ bs (Pt.note d.t) ++ { data := #[32, 61, 32] } ++ bs (Pt.part x ks) ++ { data := #[59, 10] } = bs (Pt.modsT g (L.take k) ++ Pt.headT m ++ m.imps.flatMap Pt.impT ++ (m.defs.take (j + 1)).flatMap (Pt.defT g))) := Lib.hid (by
                  rw [Pt.flat_take HX3.out]
                  apply str_inj'
                  simp [bs, Pt.defT, Pt.expT, hout, hd7])
                have HOUT := Lib.hid hout
                clear hout hd7
                generalize bs (Pt.modsT g (L.take k) ++ Pt.headT m ++ m.imps.flatMap Pt.impT ++ (m.defs.take j).flatMap (Pt.defT g)) = sa at *
                go_wp2_with fail
                generalize wr.heap.size = ib at *
                generalize hwy : wr.alloc (.cells #[.string d.name, .bool false, .string d.t, .slice At d.tree.length ct, .int .i64 d.line, .int .i64 d.col] 60) = wy at *
                clear hwy q0 q1 q2 q3 q4 q5 n2
                have hbd : Below wy.heap.size wy wy.drew := (Below.refl _ _).drew
                refine wp_region_plan (S := fun w' => w'.cell? ⟨ib, 0, none⟩ = some (.string d.name) ∧ w'.cell? ⟨ib, 2, none⟩ = some (.string d.t) ∧ w'.cell? ⟨ib, 3, none⟩ = some (.slice At d.tree.length ct))
                  [(0, true), (1, true), (2, true), (3, true), (4, true), (5, true), (6, true), (10, true), (11, true), (7, false), (8, true), (9, true), (12, false), (13, true), (14, true), (15, true)] (by kernel_rfl) (by kernel_rfl) (by kernel_rfl) (fun _ _ _ _ _ h => h) ⟨z0, z2, z3⟩ ?_
                intro HS
                repeat (first | (apply wpPlan_look; rfl; rfl; (intro wq hq; (try dsimp only at hq); go_split_ands; go_simp; (try rw [if_neg (by omega)]); (try rw [if_pos (by omega)]); try with_reducible rfl); simp only [Act.put, List.setIfInBounds_toArray, List.set_cons_zero, List.set_cons_succ]) | (apply wpPlan_skip; rfl; rfl; simp only [Act.put, List.setIfInBounds_toArray, List.set_cons_zero, List.set_cons_succ]) | (apply wpPlan_pass; rfl; rfl; assumption; simp only [Act.put, List.setIfInBounds_toArray, List.set_cons_zero, List.set_cons_succ]))
                apply wpPlan_call; rfl; rfl; rfl; rfl; kernel_rfl; exact r7Note_any d.t HNT.out _; rfl; rintro e w3 ⟨rfl, hb3⟩
                have hb3' : Below wy.heap.size wy w3 := hbd.trans (hb3.mono (Nat.le_refl _))
                refine ⟨_, rfl, as_S ⟨cell_later hb3' z0, cell_later hb3' z2, cell_later hb3' z3⟩ ?_⟩
                clear HS
                intro HS
                simp only [Act.put, List.setIfInBounds_toArray, List.set_cons_zero, List.set_cons_succ]
                repeat (first | (apply wpPlan_look; rfl; rfl; (intro wq hq; (try dsimp only at hq); go_split_ands; go_simp; (try rw [if_neg (by omega)]); (try rw [if_pos (by omega)]); try with_reducible rfl); simp only [Act.put, List.setIfInBounds_toArray, List.set_cons_zero, List.set_cons_succ]) | (apply wpPlan_skip; rfl; rfl; simp only [Act.put, List.setIfInBounds_toArray, List.set_cons_zero, List.set_cons_succ]) | (apply wpPlan_pass; rfl; rfl; assumption; simp only [Act.put, List.setIfInBounds_toArray, List.set_cons_zero, List.set_cons_succ]))
                apply wpPlan_call; rfl; rfl; rfl; rfl; kernel_rfl; exact HRP.out _ (below_later hb3' HB2.out); rfl; rintro e w4 ⟨rfl, hb4⟩
                have hb4' : Below wy.heap.size wy w4 := hb3'.trans (hb4.mono hb3'.size)
                refine ⟨_, rfl, as_S ⟨cell_later hb4' z0, cell_later hb4' z2, cell_later hb4' z3⟩ ?_⟩
                clear HS
                intro HS
                simp only [Act.put, List.setIfInBounds_toArray, List.set_cons_zero, List.set_cons_succ]
                repeat (first | (apply wpPlan_look; rfl; rfl; (intro wq hq; (try dsimp only at hq); go_split_ands; go_simp; (try rw [if_neg (by omega)]); (try rw [if_pos (by omega)]); try with_reducible rfl); simp only [Act.put, List.setIfInBounds_toArray, List.set_cons_zero, List.set_cons_succ]) | (apply wpPlan_skip; rfl; rfl; simp only [Act.put, List.setIfInBounds_toArray, List.set_cons_zero, List.set_cons_succ]) | (apply wpPlan_pass; rfl; rfl; assumption; simp only [Act.put, List.setIfInBounds_toArray, List.set_cons_zero, List.set_cons_succ]))
                apply wpPlan_done
                have HB4 := Lib.hid (below_later hb4' HB2.out)
                clear HS z0 z1 z2 z3 hb3 hb3' hb4 hb4' hbd
                go_wp2_with fail
                go_roundw
                case rel => exact ⟨j + 1, by omega, by go_num, str_congr (by rw [← HNX.out]; try (apply str_inj'; simp)), HB4⟩
                case measure => simp [intOf]; omega
            · have hje : j = m.defs.length := by omega
              subst hje
              rw [List.take_length]
              have hsa : (bs (Pt.modsT g (L.take k) ++ Pt.headT m ++ m.imps.flatMap Pt.impT ++ m.defs.flatMap (Pt.defT g))).size ≤ 3200000000 := by have := HTOT.out; rw [bs_size]; simp only [List.length_append]; omega
              have HNX : Hid (bs (Pt.modsT g (L.take k) ++ Pt.headT m ++ m.imps.flatMap Pt.impT ++ m.defs.flatMap (Pt.defT g)) ++ { data := #[125, 10] } = bs (Pt.modsT g (L.take (k + 1)))) := Lib.hid (by
                unfold Pt.modsT
                rw [Pt.flat_take HX.out, Pt.modT_head]
                apply str_inj'
                simp [bs])
              generalize bs (Pt.modsT g (L.take k) ++ Pt.headT m ++ m.imps.flatMap Pt.impT ++ m.defs.flatMap (Pt.defT g)) = sa at *
              go_wp2_with fail
              go_roundw
              case rel => exact ⟨k + 1, by omega, by go_num, str_congr HNX.out, HB⟩
              case measure => simp [intOf]; omega
    · have hkl : k = L.length := by omega
      subst hkl
      rw [List.take_length]
      have hlen := HLEN.out
      generalize hs : Pt.modsT g L = s at *
      have hss : (bs s).size = s.length := bs_size s
      clear hs
      by_cases h65 : 65536 < s.length
      · have HO : Hid (outV s = .tuple #[.string ⟨#[]⟩, .int .i64 10]) := Lib.hid (by unfold outV; rw [if_pos h65])
        go_wp2_with fail
        refine bodyPost_ret (v := .tuple #[.string ⟨#[]⟩, .int .i64 10]) (by simp [results, Tryz.results20, go_sem]) rfl ?_
        exact ⟨by rw [HO.out], HB.out⟩
      · have HO : Hid (outV s = .tuple #[.string (bs s), .int .i64 0]) := Lib.hid (by unfold outV; rw [if_neg h65])
        go_wp2_with fail
        refine bodyPost_ret (v := .tuple #[.string (bs s), .int .i64 0]) (by simp [results, Tryz.results20, go_sem]) rfl ?_
        exact ⟨by rw [HO.out], HB.out⟩
end Go.Proofs.YtacihffkjadbbaaGreatDoor

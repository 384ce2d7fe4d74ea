
/- Walks of print.Modules. -/
import Derived.Test.YtacihffkjadbbaaGreatDoorUq
import Derived.Test.YtacihffkjadbbaaGreatDoorVe
namespace Go.Proofs.YtacihffkjadbbaaGreatDoor
set_option linter.unusedSimpArgs false
set_option linter.unusedVariables false
open Go.RowKit Go.Maps Culp
/-- The printer turns to another list. -/
theorem PS.list {w0 w1 w : World} {lv p v : Value} {b i : Nat} {o : Option Nat} {bs : List Value} {l : List UInt8} (h : PS w0 lv b o bs w1 l i p v w) (u : Value) : PS w0 u b o bs w1 l i p v (w.setCell ⟨b, 2, none⟩ u) := by
  obtain ⟨h1, h2, h3, h4⟩ := h.pen
  refine ⟨⟨h1, ?_, ?_, h4⟩, h.self, h.keep.trans (keepN_set b v.ownBlock 2 _ w) h.own, h.own, h.below.setCell (p := ⟨b, 2, none⟩) h1 _⟩
  · simp [World.setCell, Array.getElem?_modify, h2]
  · exact h3.kept (row := some b) ⟨rfl, rfl, rfl, by simp [World.setCell], fun k _ hk => Below.heap_setCell _ _ _ _ (fun e => hk (by simp [e]))⟩ (Or.inr h4)
theorem PS.free {w0 w1 w : World} {lv p v : Value} {b i : Nat} {o : Option Nat} {bs : List Value} {l : List UInt8} (h : PS w0 lv b o bs w1 l i p v w) (k : Nat) : w.frozen? ⟨b, k, none⟩ = false := Lib.frozen_of_heap h.pen.2.1 k
/-- What is written behind it, be the list another one. -/
theorem PS.join2 {w0 w1 w w' : World} {lv lv2 p v p2 v2 : Value} {b i i2 : Nat} {o : Option Nat} {bs : List Value} {l l2 : List UInt8} (h : PS w0 lv b o bs w1 l i p v w) (h2 : PS w0 lv2 b v.ownBlock (bs ++ Lib.byteCells l) w l2 i2 p2 v2 w') : PS w0 lv2 b o bs w1 (l ++ l2) i2 p2 v2 w' := by
  refine ⟨?_, h2.self, h.keep.trans h2.keep h.own, ?_, h2.below⟩
  · have e : bs ++ Lib.byteCells (l ++ l2) = bs ++ Lib.byteCells l ++ Lib.byteCells l2 := by simp [Lib.byteCells]
    rw [e]; exact h2.pen
  · have hs := h.keep.size
    rcases h2.own with e | ⟨g, e, hg⟩
    · rw [e]; exact h.own
    · exact .inr ⟨g, e, by omega⟩
set_option maxRecDepth 100000 in
theorem pModules_bad (L : List Md) (v : Value) (w : World) (hL : Mods w v L) (hS : Sp w) (hl : L.length ≤ 1000000000000000) (hz : ∀ m ∈ L, MdSz m) (hc : Mo.mods L ≠ 0) :
    Calls Tryz.prog 19 #[v] w (Makes (badV (Mo.mods L)) w) := by
  have HCK := Lib.hid (tModules_any L v w hL hS hl hz)
  have e0 := neq_lit (z := 0) (show (Mo.mods L : Int) ≠ 0 by omega)
  generalize Mo.mods L = c at *
  clear hc hz hS hL hl
  go_enter Tryz.func19, Tryz.ntmps19
  go_wp2_with fail
  refine HCK.out.mono ?_
  rintro e w1 ⟨rfl, hb1⟩
  go_wp2_with fail
  refine bodyPost_ret (v := badV c) (by simp [results, Tryz.results19, go_sem, badV]) rfl ?_
  exact ⟨rfl, hb1⟩
set_option maxRecDepth 100000 in
set_option maxHeartbeats 25600000 in
theorem pModules_ok (g : List Nd → List UInt8) (L : List Md) (v : Value) (w : World) (hL : Mods w v L) (hS : Sp w) (hPw : Pw w) (hl : L.length ≤ 1000000000000000) (hz : ∀ m ∈ L, MdSz m) (hc : Mo.mods L = 0) (h8 : L.length ≤ 8) (hG : ∀ m ∈ L, Pt.GoodM g m) :
    Calls Tryz.prog 19 #[v] w (Makes (outV (Pt.modsT g L)) w) := by
  have HCK := Lib.hid (tModules_any L v w hL hS hl hz)
  rw [hc] at HCK
  have HL := Lib.hid hL
  have HZ := Lib.hid hz
  have HG := Lib.hid hG
  have HPW := Lib.hid hPw
  have HLEN := Lib.hid (Pt.modsT_len hG h8)
  obtain ⟨A, C, rfl⟩ := hL.form
  clear hL hz hG hPw hS hl hc
  go_enter Tryz.func19, Tryz.ntmps19
  go_wp2_with fail
  refine HCK.out.mono ?_
  rintro E w1 ⟨rfl, hb1⟩
  have HS0 := Lib.hid (ps_new w w1 (.slice none 0 0) hb1)
  clear hb1 HCK
  go_wp2_with fail
  have hbne : ∀ {k : Nat}, k < w1.heap.size → k ≠ w1.heap.size := fun h => by omega
  generalize hbb : w1.heap.size = b at *
  generalize hwb : w1.alloc (.cells #[.pointer none, .slice none 0 0, .slice none 0 0, .int .i64 0] 74) = wb at *
  clear hbb hwb hbne
  go_loopw [21] (fun iv wr => ∃ (k i : Nat) (p v lv : Value), k ≤ L.length ∧ iv = .int .i64 k ∧ Hid (PS w lv b none [] wb (Pt.modsT g (L.take k)) i p v wr) ∧ Hid ((p = .pointer (some ⟨b, 0, none⟩) ∧ 0 < k) ∨ (k = 0 ∧ v = .slice none 0 0))) (fun i _ => L.length - (intOf i).toNat)
  case atStart => exact ⟨0, 0, .pointer none, .slice none 0 0, .slice none 0 0, Nat.zero_le _, rfl, HS0, Lib.hid (.inr ⟨rfl, rfl⟩)⟩
  case round =>
    clear HS0
    obtain ⟨k, i, p, v, lv, hk, rfl, HP, HF⟩ := hrel
    by_cases hlt : k < L.length
    · obtain ⟨b1, off1, iv, dv, rfl, ⟨n0, n1, n2, n3, n4⟩, hi0, hd0⟩ := HL.out.at_ hlt
      have hmL : L[k] ∈ L := List.getElem_mem hlt
      have hx : L[k]? = some L[k] := List.getElem?_eq_getElem hlt
      replace n0 := cell_later HP.out.below n0
      replace n1 := cell_later HP.out.below n1
      replace n2 := cell_later HP.out.below n2
      replace n3 := cell_later HP.out.below n3
      replace n4 := cell_later HP.out.below n4
      obtain ⟨Ai, ci, rfl⟩ := hi0.form
      obtain ⟨Ad, cd, rfl⟩ := hd0.form
      have HX := Lib.hid hx
      have HMZ := Lib.hid (HZ.out _ hmL)
      have HMG := Lib.hid (HG.out _ hmL)
      have HPRE := Lib.hid (Pt.flat_pre (f := Pt.modT g) hx)
      generalize L[k] = m at *
      have HI := Lib.hid hi0
      have HD := Lib.hid hd0
      have hli : m.imps.length ≤ 64 := HMG.out.2.1
      have hld : m.defs.length ≤ 64 := HMG.out.2.2.1
      have hba : Below wr.heap.size wr (wr.alloc (.cells #[.string m.name, .slice Ai m.imps.length ci, .slice Ad m.defs.length cd, .int .i64 m.line, .int .i64 m.col] 55)) := (Below.refl _ _).alloc (Nat.le_refl _) _
      have HP1 := Lib.hid (HP.out.later hba)
      have HQ1 := Lib.hid (HP.out.later hba).rebase
      have hne : wr.heap.size ≠ b := by have := HP.out.blt; omega
      have hno : v.ownBlock ≠ some wr.heap.size := fun e => by have := HP.out.vlt e; omega
      have x1 := Lib.hid (box_cell wr #[.string m.name, .slice Ai m.imps.length ci, .slice Ad m.defs.length cd, .int .i64 m.line, .int .i64 m.col] 55 1 (.slice Ai m.imps.length ci) rfl)
      have x2 := Lib.hid (box_cell wr #[.string m.name, .slice Ai m.imps.length ci, .slice Ad m.defs.length cd, .int .i64 m.line, .int .i64 m.col] 55 2 (.slice Ad m.defs.length cd) rfl)
      have HTOT : Hid ((Pt.modsT g (L.take k)).length + ((Pt.headT m).length + (m.imps.flatMap Pt.impT).length + (m.defs.flatMap (Pt.defT g)).length + 2) ≤ 3200000000) := Lib.hid (by
        have h1 := HPRE.out
        have h2 := HLEN.out
        rw [Pt.modT_head] at h1
        simp only [List.length_append, List.length_cons, List.length_nil] at h1
        unfold Pt.modsT at h2 ⊢
        omega)
      have hms : (Pt.headT m).length = m.name.size + 10 := by unfold Pt.headT; simp only [List.length_append, List.length_cons, List.length_nil]; rw [Pt.tl]; omega
      have HMS := Lib.hid hms
      clear hx hmL hi0 hd0 hba HP hms
      go_wp2_with fail
      refine (put_at [⟨#[109, 111, 100, 117, 108, 101, 32]⟩, m.name, ⟨#[32, 123, 10]⟩] _ _ HQ1.out (by simp) (by have := HTOT.out; have := HMS.out; simp [cat, Lib.byteCells]; omega) (by simp) (by simp)).mono ?_
      rintro E w2 ⟨rfl, v2, h2⟩
      have HP2 : Hid (PS w lv b v.ownBlock ([] ++ Lib.byteCells (Pt.modsT g (L.take k))) (wr.alloc (.cells #[.string m.name, .slice Ai m.imps.length ci, .slice Ad m.defs.length cd, .int .i64 m.line, .int .i64 m.col] 55)) (Pt.headT m) i (.pointer (some ⟨b, 0, none⟩)) v2 w2) := Lib.hid (by simpa [cat, Pt.headT] using h2)
      have y1 := h2.kept x1.out hne hno
      clear h2 HQ1 n0 n1 n2 n3 n4
      generalize wr.heap.size = xb at *
      generalize wr.alloc (.cells #[.string m.name, .slice Ai m.imps.length ci, .slice Ad m.defs.length cd, .int .i64 m.line, .int .i64 m.col] 55) = wx at *
      go_wp2_with fail
      go_loopw [33] (fun jv wr2 => ∃ (j : Nat) (v3 : Value), j ≤ m.imps.length ∧ jv = .int .i64 j ∧ Hid (PS w lv b v.ownBlock ([] ++ Lib.byteCells (Pt.modsT g (L.take k))) wx (Pt.headT m ++ (m.imps.take j).flatMap Pt.impT) i (.pointer (some ⟨b, 0, none⟩)) v3 wr2)) (fun jv _ => m.imps.length - (intOf jv).toNat)
      case atStart => exact ⟨0, v2, Nat.zero_le _, rfl, Lib.hid (by simpa using HP2.out)⟩
      case round =>
        clear HP2 y1
        obtain ⟨j, v3, hj, rfl, HQ⟩ := hrel
        by_cases hlt2 : j < m.imps.length
        · obtain ⟨b2, off2, rfl, ⟨q0, q1, q2, q3, q4⟩⟩ := HI.out.at_ hlt2
          replace q0 := cell_later HQ.out.below q0
          replace q1 := cell_later HQ.out.below q1
          replace q2 := cell_later HQ.out.below q2
          replace q3 := cell_later HQ.out.below q3
          replace q4 := cell_later HQ.out.below q4
          have hx2 : m.imps[j]? = some m.imps[j] := List.getElem?_eq_getElem hlt2
          have HX2 := Lib.hid hx2
          have HIG := Lib.hid (HMG.out.2.2.2.1 _ (List.getElem_mem hlt2))
          have HPI := Lib.hid (Pt.flat_pre (f := Pt.impT) hx2)
          generalize m.imps[j] = x at *
          have HIL : Hid ((Pt.impT x).length = x.src.size + x.name.size + (Pt.note x.t).length + 12) := Lib.hid (by
            have a := Pt.tl x.src
            have b := Pt.tl x.name
            unfold Pt.impT
            simp only [List.length_append, List.length_cons, List.length_nil]
            omega)
          have hb2 : Below wr.heap.size wr (wr.alloc (.cells #[.string x.src, .string x.name, .string x.t, .int .i64 x.line, .int .i64 x.col] 57)) := (Below.refl _ _).alloc (Nat.le_refl _) _
          have HQ2 := Lib.hid (HQ.out.later hb2)
          have HR2 := Lib.hid (HQ.out.later hb2).rebase
          have hne2 : wr.heap.size ≠ b := by have := HQ.out.blt; omega
          have hno2 : v3.ownBlock ≠ some wr.heap.size := fun e => by have := HQ.out.vlt e; omega
          have z0 := box_cell wr #[.string x.src, .string x.name, .string x.t, .int .i64 x.line, .int .i64 x.col] 57 0 (.string x.src) rfl
          have z1 := box_cell wr #[.string x.src, .string x.name, .string x.t, .int .i64 x.line, .int .i64 x.col] 57 1 (.string x.name) rfl
          have z2 := box_cell wr #[.string x.src, .string x.name, .string x.t, .int .i64 x.line, .int .i64 x.col] 57 2 (.string x.t) rfl
          clear hx2 hb2 HQ
          go_wp2_with fail
          generalize wr.heap.size = ib at *
          generalize hwy : wr.alloc (.cells #[.string x.src, .string x.name, .string x.t, .int .i64 x.line, .int .i64 x.col] 57) = wy at *
          clear hwy q0 q1 q2 q3 q4
          have hbd : Below wy.heap.size wy wy.drew := (Below.refl _ _).drew
          refine wp_region_plan (S := fun w' => w'.cell? ⟨ib, 0, none⟩ = some (.string x.src) ∧ w'.cell? ⟨ib, 1, none⟩ = some (.string x.name) ∧ w'.cell? ⟨ib, 2, none⟩ = some (.string x.t))
            [(0, true), (1, true), (2, true), (3, true), (4, true), (5, true), (6, true), (7, false), (8, false), (9, false)] (by kernel_rfl) (by kernel_rfl) (by kernel_rfl) (fun _ _ _ _ _ h => h) ⟨z0, z1, z2⟩ ?_
          intro HS
          repeat (first | (apply wpPlan_look; rfl; rfl; (intro wq hq; (try dsimp only at hq); go_split_ands; go_simp; (try rw [if_neg (by omega)]); (try rw [if_pos (by omega)]); try with_reducible rfl); simp only [Act.put, List.setIfInBounds_toArray, List.set_cons_zero, List.set_cons_succ]) | (apply wpPlan_skip; rfl; rfl; simp only [Act.put, List.setIfInBounds_toArray, List.set_cons_zero, List.set_cons_succ]) | (apply wpPlan_pass; rfl; rfl; assumption; simp only [Act.put, List.setIfInBounds_toArray, List.set_cons_zero, List.set_cons_succ]))
          apply wpPlan_call; rfl; rfl; rfl; rfl; kernel_rfl; exact note_any x.t HIG.out.2.2 _; rfl; rintro e w3 ⟨rfl, hb3⟩
          have hb3' : Below wy.heap.size wy w3 := hbd.trans (hb3.mono (Nat.le_refl _))
          refine ⟨_, rfl, as_S ⟨cell_later hb3' z0, cell_later hb3' z1, cell_later hb3' z2⟩ ?_⟩
          clear HS
          intro HS
          simp only [Act.put, List.setIfInBounds_toArray, List.set_cons_zero, List.set_cons_succ]
          repeat (first | (apply wpPlan_look; rfl; rfl; (intro wq hq; (try dsimp only at hq); go_split_ands; go_simp; (try rw [if_neg (by omega)]); (try rw [if_pos (by omega)]); try with_reducible rfl); simp only [Act.put, List.setIfInBounds_toArray, List.set_cons_zero, List.set_cons_succ]) | (apply wpPlan_skip; rfl; rfl; simp only [Act.put, List.setIfInBounds_toArray, List.set_cons_zero, List.set_cons_succ]) | (apply wpPlan_pass; rfl; rfl; assumption; simp only [Act.put, List.setIfInBounds_toArray, List.set_cons_zero, List.set_cons_succ]))
          refine wpPlan_run rfl rfl (by simp [execOp, go_sem, build_s6]; exact ⟨rfl, rfl⟩) _ (fun _ h => h) ⟨cell_later ((Below.refl _ _).alloc (Nat.le_refl _) _) HS.1, cell_later ((Below.refl _ _).alloc (Nat.le_refl _) _) HS.2.1, cell_later ((Below.refl _ _).alloc (Nat.le_refl _) _) HS.2.2⟩ ?_
          simp only [Act.put, List.setIfInBounds_toArray, List.set_cons_zero, List.set_cons_succ]
          apply wpPlan_call; rfl; rfl; rfl; rfl; kernel_rfl; exact put_lit [⟨#[32, 32, 105, 109, 112, 111, 114, 116, 32]⟩, x.src, ⟨#[46]⟩, x.name, ⟨(Pt.note x.t).toArray⟩, ⟨#[59, 10]⟩] _ (HR2.out.later hb3') (by have := HTOT.out; have := HIL.out; have := HPI.out; simp [cat, Lib.byteCells, -List.length_flatMap]; omega) (by simp) (by simp); rfl; rintro e w4 ⟨rfl, v4, h4⟩
          refine ⟨_, rfl, as_S ⟨h4.kept z0 hne2 hno2, h4.kept z1 hne2 hno2, h4.kept z2 hne2 hno2⟩ ?_⟩
          clear HS
          intro HS
          simp only [Act.put, List.setIfInBounds_toArray, List.set_cons_zero, List.set_cons_succ]
          apply wpPlan_done
          have HQ3 := Lib.hid (HQ2.out.join h4)
          clear HS h4 z0 z1 z2 hb3 hb3' hbd HR2 HQ2
          go_wp2_with fail
          go_roundw
          case rel => exact ⟨j + 1, v4, by omega, by go_num, Lib.hid (by rw [Pt.flat_take HX2.out]; simpa [cat, Pt.impT] using HQ3.out)⟩
          case measure => simp [intOf]; omega
        · have hje : j = m.imps.length := by omega
          subst hje
          rw [List.take_length] at HQ
          have y2 := HQ.out.kept x2.out hne hno
          go_wp2_with fail
          go_loopw [51] (fun jv wr3 => ∃ (j i3 : Nat) (v3 lv3 : Value), j ≤ m.defs.length ∧ jv = .int .i64 j ∧ Hid (PS w lv3 b v.ownBlock ([] ++ Lib.byteCells (Pt.modsT g (L.take k))) wx (Pt.headT m ++ m.imps.flatMap Pt.impT ++ (m.defs.take j).flatMap (Pt.defT g)) i3 (.pointer (some ⟨b, 0, none⟩)) v3 wr3)) (fun jv _ => m.defs.length - (intOf jv).toNat)
          case atStart => exact ⟨0, i, v3, lv, Nat.zero_le _, rfl, Lib.hid (by simpa using HQ.out)⟩
          case round =>
            clear HQ y2
            obtain ⟨j, i3, v3, lv3, hj, rfl, HQ⟩ := hrel
            by_cases hlt3 : j < m.defs.length
            · obtain ⟨b3, off3, tv, rfl, ⟨q0, q1, q2, q3, q4, q5⟩, ht⟩ := HD.out.at_ hlt3
              replace q0 := cell_later HQ.out.below q0
              replace q1 := cell_later HQ.out.below q1
              replace q2 := cell_later HQ.out.below q2
              replace q3 := cell_later HQ.out.below q3
              replace q4 := cell_later HQ.out.below q4
              replace q5 := cell_later HQ.out.below q5
              obtain ⟨At, ct, rfl⟩ := ht.form
              have hx3 : m.defs[j]? = some m.defs[j] := List.getElem?_eq_getElem hlt3
              have HX3 := Lib.hid hx3
              have HDG := Lib.hid (HMG.out.2.2.2.2 _ (List.getElem_mem hlt3))
              have HDZ := Lib.hid (HMZ.out.2.2.2 _ (List.getElem_mem hlt3))
              have HPD := Lib.hid (Pt.flat_pre (f := Pt.defT g) hx3)
              generalize m.defs[j] = d at *
              obtain ⟨hd1, hd2, hd3, hd4, x, ks, hd5, hd6, hd7⟩ := HDG.out
              have hks : ks.flat.length ≤ 4095 := by rw [hd5] at hd3; simp at hd3; omega
              have hNP := (all_parts w _ d.tree ht (by omega) (fun y hy => ⟨(HDZ.out.2.2.2.1 y hy).1, (HDZ.out.2.2.2.1 y hy).2.2.2⟩) HPW.out (.cons x ks .nil) hd6 (fun y hy => hd4 y (by rw [hd5]; simpa [Tr.F.flat] using hy)) (by simp [Tr.F.flat]; omega)).1
              have HNP := Lib.hid hNP
              have HND : Hid (∃ R, d.tree.drop 0 = (x :: ks.flat) ++ R) := Lib.hid ⟨[], by rw [hd5]; simp⟩
              have HG7 := Lib.hid hd7
              have HNT := Lib.hid hd2
              have HDL : Hid ((Pt.defT g d).length = 2 + (Pt.expT d).length + (d.name.size + (Pt.note d.t).length + 7) + (Pt.part x ks).length + 2) := Lib.hid (by
                have a := Pt.tl d.name
                unfold Pt.defT
                rw [hd7]
                simp only [List.length_append, List.length_cons, List.length_nil]
                omega)
              have hb2 : Below wr.heap.size wr (wr.alloc (.cells #[.string d.name, .bool d.out, .string d.t, .slice At d.tree.length ct, .int .i64 d.line, .int .i64 d.col] 60)) := (Below.refl _ _).alloc (Nat.le_refl _) _
              have HQ2 := Lib.hid (HQ.out.later hb2)
              have HR2 := Lib.hid (HQ.out.later hb2).rebase
              have hne2 : wr.heap.size ≠ b := by have := HQ.out.blt; omega
              have hno2 : v3.ownBlock ≠ some wr.heap.size := fun e => by have := HQ.out.vlt e; omega
              have z0 := Lib.hid (box_cell wr #[.string d.name, .bool d.out, .string d.t, .slice At d.tree.length ct, .int .i64 d.line, .int .i64 d.col] 60 0 (.string d.name) rfl)
              have z1 := Lib.hid (box_cell wr #[.string d.name, .bool d.out, .string d.t, .slice At d.tree.length ct, .int .i64 d.line, .int .i64 d.col] 60 1 (.bool d.out) rfl)
              have z2 := Lib.hid (box_cell wr #[.string d.name, .bool d.out, .string d.t, .slice At d.tree.length ct, .int .i64 d.line, .int .i64 d.col] 60 2 (.string d.t) rfl)
              have z3 := Lib.hid (box_cell wr #[.string d.name, .bool d.out, .string d.t, .slice At d.tree.length ct, .int .i64 d.line, .int .i64 d.col] 60 3 (.slice At d.tree.length ct) rfl)
              have HALL : Hid ((Pt.modsT g (L.take k)).length + ((Pt.headT m).length + (m.imps.flatMap Pt.impT).length + ((m.defs.take j).flatMap (Pt.defT g)).length + (2 + (Pt.expT d).length + (d.name.size + (Pt.note d.t).length + 7) + (Pt.part x ks).length + 2)) ≤ 3200000000) := Lib.hid (by have := HTOT.out; have := HDL.out; have := HPD.out; omega)
              clear hx3 hb2 HQ ht hd1 hd2 hd3 hd4 hd5 hd6 hd7 hks hNP HPD
              go_wp2_with fail
              refine (put_at [⟨#[32, 32]⟩] _ _ HR2.out (by simp) (by have := HALL.out; simp [cat, Lib.byteCells, -List.length_flatMap]; omega) (by simp) (by simp)).mono ?_
              rintro E w3 ⟨rfl, v4, h4⟩
              have HP4 := Lib.hid h4
              have y1 := h4.kept z1.out hne2 hno2
              clear h4 HR2 q0 q1 q2 q3 q4 q5
              generalize wr.heap.size = ib at *
              generalize wr.alloc (.cells #[.string d.name, .bool d.out, .string d.t, .slice At d.tree.length ct, .int .i64 d.line, .int .i64 d.col] 60) = wd at *
              cases hout : d.out with
              | true =>
                rw [hout] at y1
                have HEX : Hid (Pt.expT d = [101, 120, 112, 111, 114, 116, 32]) := Lib.hid (by unfold Pt.expT; rw [if_pos hout])
                clear hout
                go_wp2_with fail
                refine (put_lit [⟨#[101, 120, 112, 111, 114, 116, 32]⟩] _ HP4.out (by have := HALL.out; rw [HEX.out] at this; simp [cat, Lib.byteCells, -List.length_flatMap] at this ⊢; omega) (by simp) (by simp)).mono ?_
                rintro E w4 ⟨rfl, v5, h5⟩
                have HP5 : Hid (PS w lv3 b v3.ownBlock (([] ++ Lib.byteCells (Pt.modsT g (L.take k))) ++ Lib.byteCells (Pt.headT m ++ m.imps.flatMap Pt.impT ++ (m.defs.take j).flatMap (Pt.defT g))) wd ([32, 32] ++ Pt.expT d) i3 (.pointer (some ⟨b, 0, none⟩)) v5 w4) := Lib.hid (by rw [HEX.out]; simpa [cat] using h5)
                clear h5 HP4 y1
                go_wp2_with fail
                have x0 := HP5.out.kept z0.out hne2 hno2
                have x2' := HP5.out.kept z2.out hne2 hno2
                have hbd : Below w4.heap.size w4 w4.drew := (Below.refl _ _).drew
                refine wp_region_plan (S := fun w' => w'.cell? ⟨ib, 0, none⟩ = some (.string d.name) ∧ w'.cell? ⟨ib, 2, none⟩ = some (.string d.t))
                  [(0, true), (1, true), (2, true), (3, true), (4, true), (5, false), (6, false), (7, false)] (by kernel_rfl) (by kernel_rfl) (by kernel_rfl) (fun _ _ _ _ _ h => h) ⟨x0, x2'⟩ ?_
                intro HS
                repeat (first | (apply wpPlan_look; rfl; rfl; (intro wq hq; (try dsimp only at hq); go_split_ands; go_simp; (try rw [if_neg (by omega)]); (try rw [if_pos (by omega)]); try with_reducible rfl); simp only [Act.put, List.setIfInBounds_toArray, List.set_cons_zero, List.set_cons_succ]) | (apply wpPlan_skip; rfl; rfl; simp only [Act.put, List.setIfInBounds_toArray, List.set_cons_zero, List.set_cons_succ]) | (apply wpPlan_pass; rfl; rfl; assumption; simp only [Act.put, List.setIfInBounds_toArray, List.set_cons_zero, List.set_cons_succ]))
                apply wpPlan_call; rfl; rfl; rfl; rfl; kernel_rfl; exact note_any d.t HNT.out _; rfl; rintro e w5 ⟨rfl, hb5⟩
                have hb5' : Below w4.heap.size w4 w5 := hbd.trans (hb5.mono (Nat.le_refl _))
                refine ⟨_, rfl, as_S ⟨cell_later hb5' x0, cell_later hb5' x2'⟩ ?_⟩
                clear HS
                intro HS
                simp only [Act.put, List.setIfInBounds_toArray, List.set_cons_zero, List.set_cons_succ]
                repeat (first | (apply wpPlan_look; rfl; rfl; (intro wq hq; (try dsimp only at hq); go_split_ands; go_simp; (try rw [if_neg (by omega)]); (try rw [if_pos (by omega)]); try with_reducible rfl); simp only [Act.put, List.setIfInBounds_toArray, List.set_cons_zero, List.set_cons_succ]) | (apply wpPlan_skip; rfl; rfl; simp only [Act.put, List.setIfInBounds_toArray, List.set_cons_zero, List.set_cons_succ]) | (apply wpPlan_pass; rfl; rfl; assumption; simp only [Act.put, List.setIfInBounds_toArray, List.set_cons_zero, List.set_cons_succ]))
                refine wpPlan_run rfl rfl (by simp [execOp, go_sem, build_s4]; exact ⟨rfl, rfl⟩) _ (fun _ h => h) ⟨cell_later ((Below.refl _ _).alloc (Nat.le_refl _) _) HS.1, cell_later ((Below.refl _ _).alloc (Nat.le_refl _) _) HS.2⟩ ?_
                simp only [Act.put, List.setIfInBounds_toArray, List.set_cons_zero, List.set_cons_succ]
                apply wpPlan_call; rfl; rfl; rfl; rfl; kernel_rfl; exact put_lit [⟨#[108, 101, 116, 32]⟩, d.name, ⟨(Pt.note d.t).toArray⟩, ⟨#[32, 61, 32]⟩] _ (HP5.out.later hb5') (by have := HALL.out; simp [cat, Lib.byteCells, -List.length_flatMap]; omega) (by simp) (by simp); rfl; rintro e w6 ⟨rfl, v6, h6⟩
                refine ⟨_, rfl, as_S ⟨h6.kept z0.out hne2 hno2, h6.kept z2.out hne2 hno2⟩ ?_⟩
                clear HS
                intro HS
                simp only [Act.put, List.setIfInBounds_toArray, List.set_cons_zero, List.set_cons_succ]
                apply wpPlan_done
                have HP6 := Lib.hid h6
                have x3 := h6.kept z3.out hne2 hno2
                have f2 := h6.free 2
                have f3 := h6.free 3
                have c2 := h6.cells.1
                have c3 := h6.cells.2
                have HP7 := Lib.hid ((h6.list (.slice At d.tree.length ct)).at_ 0)
                rw [show (((0 : Nat) : Int)) = 0 from rfl] at HP7
                clear HS h6 x0 x2' hb5 hb5' hbd HP5
                go_wp2_with fail
                generalize hw7 : (w6.setCell ⟨b, 2, none⟩ (.slice At d.tree.length ct)).setCell ⟨b, 3, none⟩ (.int .i64 0) = w7 at *
                clear hw7 HP6 x3 f2 f3 c2 c3
                refine (HNP.out _ _ _ _ _ _ _ _ _ HP7.out HND.out (by have := HALL.out; simp [cat, Lib.byteCells, -List.length_flatMap]; omega)).mono ?_
                rintro E w8 ⟨rfl, v8, h8'⟩
                have HP8 := Lib.hid h8'
                clear h8' HP7
                go_wp2_with fail
                refine (put_lit [⟨#[59, 10]⟩] _ HP8.out (by have := HALL.out; simp [cat, Lib.byteCells, -List.length_flatMap]; omega) (by simp) (by simp)).mono ?_
                rintro E w9 ⟨rfl, v9, h9⟩
                have HP9 := Lib.hid (HQ2.out.join2 h9)
                clear h9 HP8
                go_wp2_with fail
                go_roundw
                case rel => exact ⟨j + 1, _, v9, _, by omega, by go_num, Lib.hid (by rw [Pt.flat_take HX3.out, Pt.defT, HG7.out]; simpa [cat] using HP9.out)⟩
                case measure => simp [intOf]; omega
              | false =>
                rw [hout] at y1
                have HEX : Hid (Pt.expT d = []) := Lib.hid (by unfold Pt.expT; rw [if_neg (by rw [hout]; decide)])
                clear hout
                have HP5 : Hid (PS w lv3 b v3.ownBlock (([] ++ Lib.byteCells (Pt.modsT g (L.take k))) ++ Lib.byteCells (Pt.headT m ++ m.imps.flatMap Pt.impT ++ (m.defs.take j).flatMap (Pt.defT g))) wd ([32, 32] ++ Pt.expT d) i3 (.pointer (some ⟨b, 0, none⟩)) v4 w3) := Lib.hid (by rw [HEX.out]; simpa [cat] using HP4.out)
                clear HP4
                go_wp2_with fail
                have x0 := HP5.out.kept z0.out hne2 hno2
                have x2' := HP5.out.kept z2.out hne2 hno2
                have hbd : Below w3.heap.size w3 w3.drew := (Below.refl _ _).drew
                refine wp_region_plan (S := fun w' => w'.cell? ⟨ib, 0, none⟩ = some (.string d.name) ∧ w'.cell? ⟨ib, 2, none⟩ = some (.string d.t))
                  [(0, true), (1, true), (2, true), (3, true), (4, true), (5, false), (6, false), (7, false)] (by kernel_rfl) (by kernel_rfl) (by kernel_rfl) (fun _ _ _ _ _ h => h) ⟨x0, x2'⟩ ?_
                intro HS
                repeat (first | (apply wpPlan_look; rfl; rfl; (intro wq hq; (try dsimp only at hq); go_split_ands; go_simp; (try rw [if_neg (by omega)]); (try rw [if_pos (by omega)]); try with_reducible rfl); simp only [Act.put, List.setIfInBounds_toArray, List.set_cons_zero, List.set_cons_succ]) | (apply wpPlan_skip; rfl; rfl; simp only [Act.put, List.setIfInBounds_toArray, List.set_cons_zero, List.set_cons_succ]) | (apply wpPlan_pass; rfl; rfl; assumption; simp only [Act.put, List.setIfInBounds_toArray, List.set_cons_zero, List.set_cons_succ]))
                apply wpPlan_call; rfl; rfl; rfl; rfl; kernel_rfl; exact note_any d.t HNT.out _; rfl; rintro e w5 ⟨rfl, hb5⟩
                have hb5' : Below w3.heap.size w3 w5 := hbd.trans (hb5.mono (Nat.le_refl _))
                refine ⟨_, rfl, as_S ⟨cell_later hb5' x0, cell_later hb5' x2'⟩ ?_⟩
                clear HS
                intro HS
                simp only [Act.put, List.setIfInBounds_toArray, List.set_cons_zero, List.set_cons_succ]
                repeat (first | (apply wpPlan_look; rfl; rfl; (intro wq hq; (try dsimp only at hq); go_split_ands; go_simp; (try rw [if_neg (by omega)]); (try rw [if_pos (by omega)]); try with_reducible rfl); simp only [Act.put, List.setIfInBounds_toArray, List.set_cons_zero, List.set_cons_succ]) | (apply wpPlan_skip; rfl; rfl; simp only [Act.put, List.setIfInBounds_toArray, List.set_cons_zero, List.set_cons_succ]) | (apply wpPlan_pass; rfl; rfl; assumption; simp only [Act.put, List.setIfInBounds_toArray, List.set_cons_zero, List.set_cons_succ]))
                refine wpPlan_run rfl rfl (by simp [execOp, go_sem, build_s4]; exact ⟨rfl, rfl⟩) _ (fun _ h => h) ⟨cell_later ((Below.refl _ _).alloc (Nat.le_refl _) _) HS.1, cell_later ((Below.refl _ _).alloc (Nat.le_refl _) _) HS.2⟩ ?_
                simp only [Act.put, List.setIfInBounds_toArray, List.set_cons_zero, List.set_cons_succ]
                apply wpPlan_call; rfl; rfl; rfl; rfl; kernel_rfl; exact put_lit [⟨#[108, 101, 116, 32]⟩, d.name, ⟨(Pt.note d.t).toArray⟩, ⟨#[32, 61, 32]⟩] _ (HP5.out.later hb5') (by have := HALL.out; simp [cat, Lib.byteCells, -List.length_flatMap]; omega) (by simp) (by simp); rfl; rintro e w6 ⟨rfl, v6, h6⟩
                refine ⟨_, rfl, as_S ⟨h6.kept z0.out hne2 hno2, h6.kept z2.out hne2 hno2⟩ ?_⟩
                clear HS
                intro HS
                simp only [Act.put, List.setIfInBounds_toArray, List.set_cons_zero, List.set_cons_succ]
                apply wpPlan_done
                have HP6 := Lib.hid h6
                have x3 := h6.kept z3.out hne2 hno2
                have f2 := h6.free 2
                have f3 := h6.free 3
                have c2 := h6.cells.1
                have c3 := h6.cells.2
                have HP7 := Lib.hid ((h6.list (.slice At d.tree.length ct)).at_ 0)
                rw [show (((0 : Nat) : Int)) = 0 from rfl] at HP7
                clear HS h6 x0 x2' hb5 hb5' hbd HP5
                go_wp2_with fail
                generalize hw7 : (w6.setCell ⟨b, 2, none⟩ (.slice At d.tree.length ct)).setCell ⟨b, 3, none⟩ (.int .i64 0) = w7 at *
                clear hw7 HP6 x3 f2 f3 c2 c3
                refine (HNP.out _ _ _ _ _ _ _ _ _ HP7.out HND.out (by have := HALL.out; simp [cat, Lib.byteCells, -List.length_flatMap]; omega)).mono ?_
                rintro E w8 ⟨rfl, v8, h8'⟩
                have HP8 := Lib.hid h8'
                clear h8' HP7
                go_wp2_with fail
                refine (put_lit [⟨#[59, 10]⟩] _ HP8.out (by have := HALL.out; simp [cat, Lib.byteCells, -List.length_flatMap]; omega) (by simp) (by simp)).mono ?_
                rintro E w9 ⟨rfl, v9, h9⟩
                have HP9 := Lib.hid (HQ2.out.join2 h9)
                clear h9 HP8
                go_wp2_with fail
                go_roundw
                case rel => exact ⟨j + 1, _, v9, _, by omega, by go_num, Lib.hid (by rw [Pt.flat_take HX3.out, Pt.defT, HG7.out]; simpa [cat] using HP9.out)⟩
                case measure => simp [intOf]; omega
            · have hje : j = m.defs.length := by omega
              subst hje
              rw [List.take_length] at HQ
              go_wp2_with fail
              refine (put_lit [⟨#[125, 10]⟩] _ HQ.out (by have := HTOT.out; simp [cat, Lib.byteCells, -List.length_flatMap]; omega) (by simp) (by simp)).mono ?_
              rintro E w4 ⟨rfl, v5, h5⟩
              have HQ5 := Lib.hid (HP1.out.join2 h5)
              clear h5 HQ
              go_wp2_with fail
              go_roundw
              case rel => exact ⟨k + 1, i3, _, v5, lv3, by omega, by go_num, Lib.hid (by unfold Pt.modsT; rw [Pt.flat_take HX.out, Pt.modT_head]; simpa [cat, Pt.modsT] using HQ5.out), Lib.hid (.inl ⟨rfl, by omega⟩)⟩
              case measure => simp [intOf]; omega
    · have hkl : k = L.length := by omega
      subst hkl
      rw [List.take_length] at HP
      have HQ := Lib.hid (HP.out.pen.pen HP.out.self)
      have HB2 := Lib.hid HP.out.below
      rw [List.nil_append] at HQ
      generalize hs : Pt.modsT g L = s at *
      go_wp2_with fail
      refine (Len_pen HQ.out).mono ?_
      rintro e w' ⟨rfl, rfl⟩
      rw [Lib.byteCells_length]
      have hlen := HLEN.out
      by_cases h65 : 65536 < s.length
      · have HO : Hid (outV s = .tuple #[.string ⟨#[]⟩, .int .i64 10]) := Lib.hid (by unfold outV; rw [if_pos h65])
        go_wp2_with fail
        refine bodyPost_ret (v := .tuple #[.string ⟨#[]⟩, .int .i64 10]) (by simp [results, Tryz.results19, go_sem]) rfl ?_
        exact ⟨by rw [HO.out], HB2.out⟩
      · have HO : Hid (outV s = .tuple #[.string (bs s), .int .i64 0]) := Lib.hid (by unfold outV; rw [if_neg h65])
        by_cases h0 : L = []
        · have hs0 : s = [] := by rw [← hs, h0]; rfl
          have hv0 : v = .slice none 0 0 := by
            rcases HF.out with ⟨_, h⟩ | ⟨_, h⟩
            · rw [h0] at h; exact absurd h (by simp)
            · exact h
          have HB0 := Lib.hid HP.out.pen.2.1
          rw [hv0] at HB0
          clear hs h0
          go_wp2_with fail
          refine (String_pen0 (B := w.heap.size) HB0.out).mono ?_
          rintro e w3 ⟨rfl, hb3⟩
          have HB3 := Lib.hid (HB2.out.trans hb3)
          clear hb3
          go_wp2_with fail
          refine bodyPost_ret (v := .tuple #[.string ⟨#[]⟩, .int .i64 0]) (by simp [results, Tryz.results19, go_sem, bs]) rfl ?_
          exact ⟨by rw [HO.out, hs0]; rfl, HB3.out⟩
        · have HNE : Hid (s ≠ []) := Lib.hid (by
            rw [← hs]
            obtain ⟨m, r, rfl⟩ := List.exists_cons_of_ne_nil h0
            simp [Pt.modsT, Pt.modT])
          clear h0
          go_wp2_with fail
          refine (String_pen HQ.out HNE.out).mono ?_
          rintro e w3 ⟨rfl, hb3⟩
          have HB3 := Lib.hid (HB2.out.trans hb3)
          clear hb3
          go_wp2_with fail
          refine bodyPost_ret (v := .tuple #[.string (bs s), .int .i64 0]) (by simp [results, Tryz.results19, go_sem, bs]) rfl ?_
          exact ⟨by rw [HO.out], HB3.out⟩
end Go.Proofs.YtacihffkjadbbaaGreatDoor

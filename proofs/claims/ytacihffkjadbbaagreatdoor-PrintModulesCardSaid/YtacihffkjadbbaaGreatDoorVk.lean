
/- Walks of what statements lean on: the marks behind lists of modules stand yet. -/
import Derived.Test.YtacihffkjadbbaaGreatDoorVj
namespace Go.Proofs.YtacihffkjadbbaaGreatDoor
set_option linter.unusedSimpArgs false
set_option linter.unusedVariables false
open Go.RowKit Culp
theorem fill_at {α : Type} {sz g k n : Nat} {P : World → α → List Value → Prop} {w : World} {L : List α} {mc : Nat → List Value} {x : α} (h : Fill sz P w g L mc n) (hn : L.length ≤ n) (hx : L[k]? = some x) : ∃ cs, P w x cs ∧ ∀ j u, cs[j]? = some u → w.cell? ⟨g, k * sz + j, none⟩ = some u := by
  have := h.row
  rw [List.take_of_length_le hn] at this
  obtain ⟨cs, a, _, b⟩ := this k x hx
  exact ⟨cs, a, b⟩
set_option maxRecDepth 100000 in
set_option maxHeartbeats 6400000 in
theorem SpareImports_any (L : List Im) (g : Nat) (w : World) (hn : ImsW w g L) (hl : L.length ≤ 100000000000) (hP : Pw w) : Calls Tryz.prog 68 #[.slice (some ⟨g, 0, none⟩) L.length (L.length + 64 : Nat)] w (Makes (.bool true) w) := by
  have HN := Lib.hid hn
  have HP := Lib.hid hP
  clear hn hP
  go_enter Tryz.func68, Tryz.ntmps68
  go_wp2_with fail
  go_loopw [4] (fun i wr => ∃ k : Nat, L.length ≤ k ∧ k ≤ L.length + 64 ∧ i = .int .i64 k ∧ Hid (Below w.heap.size w wr)) (fun i _ => L.length + 64 - (intOf i).toNat)
  case atStart => exact ⟨L.length, by omega, by omega, rfl, Lib.hid (Below.refl _ _)⟩
  case round =>
    obtain ⟨k, hk0, hk, rfl, HB⟩ := hrel
    by_cases hlt : k < L.length + 64
    · have hm := Fill.mark (ImsW.later HN.out HB.out) k hk0 hlt
      have n0 : wr.cell? ⟨g, k * 5, none⟩ = some (.string (txt 9 k)) := hm 0 _ rfl
      have n1 : wr.cell? ⟨g, k * 5 + 1, none⟩ = some (.string { data := #[] }) := hm 1 _ rfl
      have n2 : wr.cell? ⟨g, k * 5 + 2, none⟩ = some (.string { data := #[] }) := hm 2 _ rfl
      have n3 : wr.cell? ⟨g, k * 5 + 3, none⟩ = some (.int .i64 0) := hm 3 _ rfl
      have n4 : wr.cell? ⟨g, k * 5 + 4, none⟩ = some (.int .i64 0) := hm 4 _ rfl
      clear hm
      have HTX := Lib.hid (fun w' (h : Below w.heap.size w w') => text_any 9 k (by decide) (by omega) w' (HP.out.later h HP.out.lt))
      unfold mkT at HTX
      generalize txt 9 k = tx at *
      go_wp2_with fail
      have hB0 : Below wr.heap.size wr (wr.alloc (.cells #[.string tx, .string { data := #[] }, .string { data := #[] }, .int .i64 0, .int .i64 0] 57)) := (Below.refl _ _).alloc (Nat.le_refl _) _
      have HB1 := Lib.hid (below_later hB0.drew HB.out)
      clear hB0
      refine wp_region_plan (S := fun w' => w'.cell? ⟨wr.heap.size, 0, none⟩ = some (.string tx) ∧ w'.cell? ⟨wr.heap.size, 1, none⟩ = some (.string { data := #[] }) ∧ w'.cell? ⟨wr.heap.size, 2, none⟩ = some (.string { data := #[] }) ∧ w'.cell? ⟨wr.heap.size, 3, none⟩ = some (.int .i64 0) ∧ w'.cell? ⟨wr.heap.size, 4, none⟩ = some (.int .i64 0))
        [(0, true), (1, true), (2, false), (3, true), (4, true), (5, true)] (by kernel_rfl) (by kernel_rfl) (by kernel_rfl) (fun _ _ _ _ _ h => h) (by refine ⟨?_, ?_, ?_, ?_, ?_⟩ <;> go_simp) ?_
      intro HS
      repeat (first | (apply wpPlan_look; rfl; rfl; (intro wq hq; (try dsimp only at hq); go_split_ands; go_simp; (try rw [if_neg (by omega)]); (try rw [if_pos (by omega)]); try with_reducible rfl); simp only [Act.put, List.setIfInBounds_toArray, List.set_cons_zero, List.set_cons_succ]) | (apply wpPlan_skip; rfl; rfl; simp only [Act.put, List.setIfInBounds_toArray, List.set_cons_zero, List.set_cons_succ]) | (apply wpPlan_pass; rfl; rfl; assumption; simp only [Act.put, List.setIfInBounds_toArray, List.set_cons_zero, List.set_cons_succ]))
      apply wpPlan_call; rfl; rfl; rfl; rfl; kernel_rfl; exact HTX.out _ HB1.out; rfl; rintro e w2 ⟨rfl, hb2⟩
      refine ⟨_, rfl, ⟨cell_later hb2 HS.1, cell_later hb2 HS.2.1, cell_later hb2 HS.2.2.1, cell_later hb2 HS.2.2.2.1, cell_later hb2 HS.2.2.2.2⟩, ?_⟩
      simp only [Act.put, List.setIfInBounds_toArray, List.set_cons_zero, List.set_cons_succ]
      repeat (first | (apply wpPlan_look; rfl; rfl; (intro wq hq; (try dsimp only at hq); go_split_ands; go_simp; (try rw [if_neg (by omega)]); (try rw [if_pos (by omega)]); try with_reducible rfl); simp only [Act.put, List.setIfInBounds_toArray, List.set_cons_zero, List.set_cons_succ]) | (apply wpPlan_skip; rfl; rfl; simp only [Act.put, List.setIfInBounds_toArray, List.set_cons_zero, List.set_cons_succ]) | (apply wpPlan_pass; rfl; rfl; assumption; simp only [Act.put, List.setIfInBounds_toArray, List.set_cons_zero, List.set_cons_succ]))
      have HB2 := Lib.hid (below_later hb2 HB1.out)
      clear hb2 HTX HB1
      apply wpPlan_done
      clear HS n0 n1 n2 n3 n4
      go_wp2_with fail
      go_roundw
      case rel => exact ⟨k + 1, by omega, by omega, by go_num, HB2⟩
      case measure => simp [intOf]; omega
    · go_wp2_with fail
      go_ret
      exact Makes.mk rfl HB.out
set_option maxRecDepth 100000 in
set_option maxHeartbeats 3200000 in
theorem SpareDef_any (x : Df) (gt : Nat) (w : World) (hn : NodesAt w gt 0 (x.tree ++ marks x.tree.length)) (hT : x.tree.length ≤ 100000000000) : Calls Tryz.prog 99 #[.agg #[.string x.name, .bool x.out, .string x.t, .slice (some ⟨gt, 0, none⟩) x.tree.length (x.tree.length + 64 : Nat), .int .i64 x.line, .int .i64 x.col]] w (Makes (.bool true) w) := by
  have HN := Lib.hid hn
  have HB0 : Hid (Below w.heap.size w (w.alloc (.cells #[.string x.name, .bool x.out, .string x.t, .slice (some ⟨gt, 0, none⟩) x.tree.length (x.tree.length + 64 : Nat), .int .i64 x.line, .int .i64 x.col] 60))) := Lib.hid ((Below.refl _ _).alloc (Nat.le_refl _) _)
  clear hn
  go_enter Tryz.func99, Tryz.ntmps99
  go_wp2_with fail
  refine (SpareNodes_any x.tree gt _ (HN.out.later HB0.out) hT).mono ?_
  rintro E w1 ⟨rfl, hb1⟩
  have HB1 := Lib.hid (below_later hb1 HB0.out)
  clear hb1
  go_wp2_with fail
  go_ret
  exact Makes.mk rfl HB1.out
set_option maxRecDepth 100000 in
set_option maxHeartbeats 6400000 in
theorem SpareDefs_any (L : List Df) (g : Nat) (w : World) (hn : DfsW w g L) (hl : L.length ≤ 100000000000) (hz : ∀ d ∈ L, d.tree.length ≤ 100000000000) (hP : Pw w) : Calls Tryz.prog 69 #[.slice (some ⟨g, 0, none⟩) L.length (L.length + 64 : Nat)] w (Makes (.bool true) w) := by
  have HN := Lib.hid hn
  have HP := Lib.hid hP
  have HZ := Lib.hid hz
  clear hz
  clear hn hP
  go_enter Tryz.func69, Tryz.ntmps69
  go_wp2_with fail
  go_loopw [4] (fun i wr => ∃ k : Nat, L.length ≤ k ∧ k ≤ L.length + 64 ∧ i = .int .i64 k ∧ Hid (Below w.heap.size w wr)) (fun i _ => L.length + 64 - (intOf i).toNat)
  case atStart => exact ⟨L.length, by omega, by omega, rfl, Lib.hid (Below.refl _ _)⟩
  case round =>
    obtain ⟨k, hk0, hk, rfl, HB⟩ := hrel
    by_cases hlt : k < L.length + 64
    · have hm := Fill.mark (DfsW.later HN.out HB.out) k hk0 hlt
      have n0 : wr.cell? ⟨g, k * 6, none⟩ = some (.string (txt 9 k)) := hm 0 _ rfl
      have n1 : wr.cell? ⟨g, k * 6 + 1, none⟩ = some (.bool false) := hm 1 _ rfl
      have n2 : wr.cell? ⟨g, k * 6 + 2, none⟩ = some (.string { data := #[] }) := hm 2 _ rfl
      have n3 : wr.cell? ⟨g, k * 6 + 3, none⟩ = some (.slice none 0 0) := hm 3 _ rfl
      have n4 : wr.cell? ⟨g, k * 6 + 4, none⟩ = some (.int .i64 0) := hm 4 _ rfl
      have n5 : wr.cell? ⟨g, k * 6 + 5, none⟩ = some (.int .i64 0) := hm 5 _ rfl
      clear hm
      have HTX := Lib.hid (fun w' (h : Below w.heap.size w w') => text_any 9 k (by decide) (by omega) w' (HP.out.later h HP.out.lt))
      unfold mkT at HTX
      generalize txt 9 k = tx at *
      go_wp2_with fail
      have hB0 : Below wr.heap.size wr (wr.alloc (.cells #[.string tx, .bool false, .string { data := #[] }, .slice none 0 0, .int .i64 0, .int .i64 0] 60)) := (Below.refl _ _).alloc (Nat.le_refl _) _
      have HB1 := Lib.hid (below_later hB0.drew HB.out)
      clear hB0
      refine wp_region_plan (S := fun w' => w'.cell? ⟨wr.heap.size, 0, none⟩ = some (.string tx) ∧ w'.cell? ⟨wr.heap.size, 1, none⟩ = some (.bool false) ∧ w'.cell? ⟨wr.heap.size, 2, none⟩ = some (.string { data := #[] }) ∧ w'.cell? ⟨wr.heap.size, 3, none⟩ = some (.slice none 0 0) ∧ w'.cell? ⟨wr.heap.size, 4, none⟩ = some (.int .i64 0) ∧ w'.cell? ⟨wr.heap.size, 5, none⟩ = some (.int .i64 0))
        [(0, true), (1, true), (2, true), (3, false), (4, true), (5, true), (6, true), (7, true), (8, true), (9, true), (10, true), (11, true)] (by kernel_rfl) (by kernel_rfl) (by kernel_rfl) (fun _ _ _ _ _ h => h) (by refine ⟨?_, ?_, ?_, ?_, ?_, ?_⟩ <;> go_simp) ?_
      intro HS
      repeat (first | (apply wpPlan_look; rfl; rfl; (intro wq hq; (try dsimp only at hq); go_split_ands; go_simp; (try rw [if_neg (by omega)]); (try rw [if_pos (by omega)]); try with_reducible rfl); simp only [Act.put, List.setIfInBounds_toArray, List.set_cons_zero, List.set_cons_succ]) | (apply wpPlan_skip; rfl; rfl; simp only [Act.put, List.setIfInBounds_toArray, List.set_cons_zero, List.set_cons_succ]) | (apply wpPlan_pass; rfl; rfl; assumption; simp only [Act.put, List.setIfInBounds_toArray, List.set_cons_zero, List.set_cons_succ]))
      apply wpPlan_call; rfl; rfl; rfl; rfl; kernel_rfl; exact HTX.out _ HB1.out; rfl; rintro e w2 ⟨rfl, hb2⟩
      refine ⟨_, rfl, ⟨cell_later hb2 HS.1, cell_later hb2 HS.2.1, cell_later hb2 HS.2.2.1, cell_later hb2 HS.2.2.2.1, cell_later hb2 HS.2.2.2.2.1, cell_later hb2 HS.2.2.2.2.2⟩, ?_⟩
      simp only [Act.put, List.setIfInBounds_toArray, List.set_cons_zero, List.set_cons_succ]
      repeat (first | (apply wpPlan_look; rfl; rfl; (intro wq hq; (try dsimp only at hq); go_split_ands; go_simp; (try rw [if_neg (by omega)]); (try rw [if_pos (by omega)]); try with_reducible rfl); simp only [Act.put, List.setIfInBounds_toArray, List.set_cons_zero, List.set_cons_succ]) | (apply wpPlan_skip; rfl; rfl; simp only [Act.put, List.setIfInBounds_toArray, List.set_cons_zero, List.set_cons_succ]) | (apply wpPlan_pass; rfl; rfl; assumption; simp only [Act.put, List.setIfInBounds_toArray, List.set_cons_zero, List.set_cons_succ]))
      have HB2 := Lib.hid (below_later hb2 HB1.out)
      clear hb2 HTX HB1
      apply wpPlan_done
      clear HS n0 n1 n2 n3 n4 n5
      go_wp2_with fail
      go_roundw
      case rel => exact ⟨k + 1, by omega, by omega, by go_num, HB2⟩
      case measure => simp [intOf]; omega
    · go_wp2_with fail
      go_loopw [6] (fun i w1 => ∃ k : Nat, k ≤ L.length ∧ i = .int .i64 k ∧ Hid (Below w.heap.size w w1)) (fun i _ => L.length - (intOf i).toNat)
      case atStart => exact ⟨0, Nat.zero_le _, rfl, HB⟩
      case round =>
        rename_i w1
        obtain ⟨k, hk, rfl, HB⟩ := hrel
        by_cases hlt : k < L.length
        · have hx : L[k]? = some L[k] := List.getElem?_eq_getElem hlt
          have HZX := Lib.hid (HZ.out _ (List.mem_of_getElem? hx))
          generalize L[k] = x at *
          have hf := DfsW.later HN.out HB.out
          obtain ⟨cs, ⟨gt, hgt, rfl, hnt⟩, hc⟩ := fill_at hf (by omega) hx
          have HT := Lib.hid hnt
          clear hnt
          have n0 := hc 0 _ rfl
          have n1 := hc 1 _ rfl
          have n2 := hc 2 _ rfl
          have n3 := hc 3 _ rfl
          have n4 := hc 4 _ rfl
          have n5 := hc 5 _ rfl
          simp only [Nat.add_zero] at n0
          clear hx hf hc
          go_wp2_with fail
          refine (SpareDef_any x gt _ HT.out HZX.out).mono ?_
          rintro E w2 ⟨rfl, hb2⟩
          have HB2 := Lib.hid (below_later hb2 HB.out)
          clear hb2
          go_wp2_with fail
          go_roundw
          case rel => exact ⟨k + 1, by omega, by go_num, HB2⟩
          case measure => simp [intOf]; omega
        · go_wp2_with fail
          go_ret
          exact Makes.mk rfl HB.out
set_option maxRecDepth 100000 in
set_option maxHeartbeats 3200000 in
theorem SpareModule_any (x : Md) (gi gd : Nat) (w : World) (hi : ImsW w gi x.imps) (hd : DfsW w gd x.defs) (hil : x.imps.length ≤ 100000000000) (hdl : x.defs.length ≤ 100000000000) (hT : ∀ d ∈ x.defs, d.tree.length ≤ 100000000000) (hP : Pw w) : Calls Tryz.prog 38 #[.agg #[.string x.name, .slice (some ⟨gi, 0, none⟩) x.imps.length (x.imps.length + 64 : Nat), .slice (some ⟨gd, 0, none⟩) x.defs.length (x.defs.length + 64 : Nat), .int .i64 x.line, .int .i64 x.col]] w (Makes (.bool true) w) := by
  have HI := Lib.hid hi
  have HD := Lib.hid hd
  have HP := Lib.hid hP
  have HT := Lib.hid hT
  have HB0 : Hid (Below w.heap.size w (w.alloc (.cells #[.string x.name, .slice (some ⟨gi, 0, none⟩) x.imps.length (x.imps.length + 64 : Nat), .slice (some ⟨gd, 0, none⟩) x.defs.length (x.defs.length + 64 : Nat), .int .i64 x.line, .int .i64 x.col] 55))) := Lib.hid ((Below.refl _ _).alloc (Nat.le_refl _) _)
  have HX0 := Lib.hid (Blk.alloc w #[.string x.name, .slice (some ⟨gi, 0, none⟩) x.imps.length (x.imps.length + 64 : Nat), .slice (some ⟨gd, 0, none⟩) x.defs.length (x.defs.length + 64 : Nat), .int .i64 x.line, .int .i64 x.col] 55)
  clear hi hd hP hT
  go_enter Tryz.func38, Tryz.ntmps38
  go_wp2_with fail
  refine (SpareImports_any x.imps gi _ (HI.out.later HB0.out) hil (HP.out.later HB0.out HP.out.lt)).mono ?_
  rintro E w1 ⟨rfl, hb1⟩
  have HB1 := Lib.hid (below_later hb1 HB0.out)
  have x2 := (HX0.out.later hb1).cell (i := 2) rfl
  clear hb1 HX0 HB0
  go_wp2_with fail
  refine (SpareDefs_any x.defs gd _ (HD.out.later HB1.out) hdl HT.out (HP.out.later HB1.out HP.out.lt)).mono ?_
  rintro E w2 ⟨rfl, hb2⟩
  have HB2 := Lib.hid (below_later hb2 HB1.out)
  clear hb2
  go_wp2_with fail
  go_ret
  exact Makes.mk rfl HB2.out
set_option maxRecDepth 100000 in
set_option maxHeartbeats 6400000 in
theorem SpareModules_any (L : List Md) (g : Nat) (w : World) (hn : MdsW w g L) (hl : L.length ≤ 100000000000) (hz : ∀ m ∈ L, m.imps.length ≤ 100000000000 ∧ m.defs.length ≤ 100000000000 ∧ ∀ d ∈ m.defs, d.tree.length ≤ 100000000000) (hP : Pw w) : Calls Tryz.prog 12 #[.slice (some ⟨g, 0, none⟩) L.length (L.length + 64 : Nat)] w (Makes (.bool true) w) := by
  have HN := Lib.hid hn
  have HP := Lib.hid hP
  have HZ := Lib.hid hz
  clear hz
  clear hn hP
  go_enter Tryz.func12, Tryz.ntmps12
  go_wp2_with fail
  go_loopw [4] (fun i wr => ∃ k : Nat, L.length ≤ k ∧ k ≤ L.length + 64 ∧ i = .int .i64 k ∧ Hid (Below w.heap.size w wr)) (fun i _ => L.length + 64 - (intOf i).toNat)
  case atStart => exact ⟨L.length, by omega, by omega, rfl, Lib.hid (Below.refl _ _)⟩
  case round =>
    obtain ⟨k, hk0, hk, rfl, HB⟩ := hrel
    by_cases hlt : k < L.length + 64
    · have hm := Fill.mark (MdsW.later HN.out HB.out) k hk0 hlt
      have n0 : wr.cell? ⟨g, k * 5, none⟩ = some (.string (txt 9 k)) := hm 0 _ rfl
      have n1 : wr.cell? ⟨g, k * 5 + 1, none⟩ = some (.slice none 0 0) := hm 1 _ rfl
      have n2 : wr.cell? ⟨g, k * 5 + 2, none⟩ = some (.slice none 0 0) := hm 2 _ rfl
      have n3 : wr.cell? ⟨g, k * 5 + 3, none⟩ = some (.int .i64 0) := hm 3 _ rfl
      have n4 : wr.cell? ⟨g, k * 5 + 4, none⟩ = some (.int .i64 0) := hm 4 _ rfl
      clear hm
      have HTX := Lib.hid (fun w' (h : Below w.heap.size w w') => text_any 9 k (by decide) (by omega) w' (HP.out.later h HP.out.lt))
      unfold mkT at HTX
      generalize txt 9 k = tx at *
      go_wp2_with fail
      have hB0 : Below wr.heap.size wr (wr.alloc (.cells #[.string tx, .slice none 0 0, .slice none 0 0, .int .i64 0, .int .i64 0] 55)) := (Below.refl _ _).alloc (Nat.le_refl _) _
      have HB1 := Lib.hid (below_later hB0.drew HB.out)
      clear hB0
      refine wp_region_plan (S := fun w' => w'.cell? ⟨wr.heap.size, 0, none⟩ = some (.string tx) ∧ w'.cell? ⟨wr.heap.size, 1, none⟩ = some (.slice none 0 0) ∧ w'.cell? ⟨wr.heap.size, 2, none⟩ = some (.slice none 0 0) ∧ w'.cell? ⟨wr.heap.size, 3, none⟩ = some (.int .i64 0) ∧ w'.cell? ⟨wr.heap.size, 4, none⟩ = some (.int .i64 0))
        [(0, true), (1, true), (2, true), (3, false), (4, true), (5, true), (6, true), (7, true), (8, true), (9, true), (10, true), (11, true), (12, true), (13, true), (14, true), (15, true), (16, true), (17, true)] (by kernel_rfl) (by kernel_rfl) (by kernel_rfl) (fun _ _ _ _ _ h => h) (by refine ⟨?_, ?_, ?_, ?_, ?_⟩ <;> go_simp) ?_
      intro HS
      repeat (first | (apply wpPlan_look; rfl; rfl; (intro wq hq; (try dsimp only at hq); go_split_ands; go_simp; (try rw [if_neg (by omega)]); (try rw [if_pos (by omega)]); try with_reducible rfl); simp only [Act.put, List.setIfInBounds_toArray, List.set_cons_zero, List.set_cons_succ]) | (apply wpPlan_skip; rfl; rfl; simp only [Act.put, List.setIfInBounds_toArray, List.set_cons_zero, List.set_cons_succ]) | (apply wpPlan_pass; rfl; rfl; assumption; simp only [Act.put, List.setIfInBounds_toArray, List.set_cons_zero, List.set_cons_succ]))
      apply wpPlan_call; rfl; rfl; rfl; rfl; kernel_rfl; exact HTX.out _ HB1.out; rfl; rintro e w2 ⟨rfl, hb2⟩
      refine ⟨_, rfl, ⟨cell_later hb2 HS.1, cell_later hb2 HS.2.1, cell_later hb2 HS.2.2.1, cell_later hb2 HS.2.2.2.1, cell_later hb2 HS.2.2.2.2⟩, ?_⟩
      simp only [Act.put, List.setIfInBounds_toArray, List.set_cons_zero, List.set_cons_succ]
      repeat (first | (apply wpPlan_look; rfl; rfl; (intro wq hq; (try dsimp only at hq); go_split_ands; go_simp; (try rw [if_neg (by omega)]); (try rw [if_pos (by omega)]); try with_reducible rfl); simp only [Act.put, List.setIfInBounds_toArray, List.set_cons_zero, List.set_cons_succ]) | (apply wpPlan_skip; rfl; rfl; simp only [Act.put, List.setIfInBounds_toArray, List.set_cons_zero, List.set_cons_succ]) | (apply wpPlan_pass; rfl; rfl; assumption; simp only [Act.put, List.setIfInBounds_toArray, List.set_cons_zero, List.set_cons_succ]))
      have HB2 := Lib.hid (below_later hb2 HB1.out)
      clear hb2 HTX HB1
      apply wpPlan_done
      clear HS n0 n1 n2 n3 n4
      go_wp2_with fail
      go_roundw
      case rel => exact ⟨k + 1, by omega, by omega, by go_num, HB2⟩
      case measure => simp [intOf]; omega
    · go_wp2_with fail
      go_loopw [6] (fun i w1 => ∃ k : Nat, k ≤ L.length ∧ i = .int .i64 k ∧ Hid (Below w.heap.size w w1)) (fun i _ => L.length - (intOf i).toNat)
      case atStart => exact ⟨0, Nat.zero_le _, rfl, HB⟩
      case round =>
        rename_i w1
        obtain ⟨k, hk, rfl, HB⟩ := hrel
        by_cases hlt : k < L.length
        · have hx : L[k]? = some L[k] := List.getElem?_eq_getElem hlt
          have HZX := Lib.hid (HZ.out _ (List.mem_of_getElem? hx))
          generalize L[k] = x at *
          have hf := MdsW.later HN.out HB.out
          obtain ⟨cs, ⟨gi, gd, hgi, hgd, rfl, hni, hnd⟩, hc⟩ := fill_at hf (by omega) hx
          have HI := Lib.hid hni
          have HD := Lib.hid hnd
          clear hni hnd
          have n0 := hc 0 _ rfl
          have n1 := hc 1 _ rfl
          have n2 := hc 2 _ rfl
          have n3 := hc 3 _ rfl
          have n4 := hc 4 _ rfl
          simp only [Nat.add_zero] at n0
          clear hx hf hc
          go_wp2_with fail
          refine (SpareModule_any x gi gd _ HI.out HD.out HZX.out.1 HZX.out.2.1 HZX.out.2.2 (HP.out.later HB.out HP.out.lt)).mono ?_
          rintro E w2 ⟨rfl, hb2⟩
          have HB2 := Lib.hid (below_later hb2 HB.out)
          clear hb2
          go_wp2_with fail
          go_roundw
          case rel => exact ⟨k + 1, by omega, by go_num, HB2⟩
          case measure => simp [intOf]; omega
        · go_wp2_with fail
          go_ret
          exact Makes.mk rfl HB.out
end Go.Proofs.YtacihffkjadbbaaGreatDoor

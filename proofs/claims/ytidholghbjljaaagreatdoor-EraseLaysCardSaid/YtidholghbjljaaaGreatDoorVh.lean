
/- Walks of what statements lean on: modules that are alike. -/
import Derived.Test.YtidholghbjljaaaGreatDoorVd
import Derived.Test.YtidholghbjljaaaGreatDoorOpen
namespace Go.Proofs.YtidholghbjljaaaGreatDoor
set_option linter.unusedSimpArgs false
set_option linter.unusedVariables false
open Go.RowKit Culp
set_option maxRecDepth 100000 in
set_option maxHeartbeats 6400000 in
theorem EqImports_same (L : List Im) (u v : Value) (w : World) (hu : Imps w u L) (hv : Imps w v L) (hL : L.length ≤ 1000000000000000) : Calls Tryz.prog 96 #[u, v] w (Makes (.bool true) w) := by
  have HU := Lib.hid hu
  have HV := Lib.hid hv
  obtain ⟨A, c, rfl⟩ := hu.form
  obtain ⟨B, d, rfl⟩ := hv.form
  clear hu hv
  go_enter Tryz.func96, Tryz.ntmps96
  go_wp2_with fail
  go_loopw [5] (fun i wr => ∃ k : Nat, k ≤ L.length ∧ i = .int .i64 k ∧ Hid (Below w.heap.size w wr)) (fun i _ => L.length - (intOf i).toNat)
  case atStart => exact ⟨0, Nat.zero_le _, rfl, Lib.hid (Below.refl _ _)⟩
  case round =>
    obtain ⟨k, hk, rfl, HB⟩ := hrel
    by_cases hlt : k < L.length
    · obtain ⟨b, off, rfl, ⟨n0, n1, n2, n3, n4⟩⟩ := (HU.out.later HB.out).at_ hlt
      obtain ⟨b2, off2, rfl, ⟨q0, q1, q2, q3, q4⟩⟩ := (HV.out.later HB.out).at_ hlt
      have hx : L[k]? = some L[k] := List.getElem?_eq_getElem hlt
      generalize L[k] = x at *
      clear hx
      go_wp2_with fail
      refine wp_region_plan (S := fun w' => (w'.cell? ⟨b, off + k * 5, none⟩ = some (.string x.src) ∧ w'.cell? ⟨b, off + k * 5 + 1, none⟩ = some (.string x.name) ∧ w'.cell? ⟨b, off + k * 5 + 2, none⟩ = some (.string x.t) ∧ w'.cell? ⟨b, off + k * 5 + 3, none⟩ = some (.int .i64 x.line) ∧ w'.cell? ⟨b, off + k * 5 + 4, none⟩ = some (.int .i64 x.col)) ∧ (w'.cell? ⟨b2, off2 + k * 5, none⟩ = some (.string x.src) ∧ w'.cell? ⟨b2, off2 + k * 5 + 1, none⟩ = some (.string x.name) ∧ w'.cell? ⟨b2, off2 + k * 5 + 2, none⟩ = some (.string x.t) ∧ w'.cell? ⟨b2, off2 + k * 5 + 3, none⟩ = some (.int .i64 x.line) ∧ w'.cell? ⟨b2, off2 + k * 5 + 4, none⟩ = some (.int .i64 x.col))) [(0, true), (1, true), (2, true), (3, true), (4, true), (5, true), (6, true), (7, true), (8, true)] (by kernel_rfl) (by kernel_rfl) (by kernel_rfl) (fun _ _ _ _ _ h => h) ⟨⟨n0, n1, n2, n3, n4⟩, ⟨q0, q1, q2, q3, q4⟩⟩ ?_
      intro HS
      repeat (first | (apply wpPlan_look; rfl; rfl; (intro wq hq; (try dsimp only at hq); go_split_ands; go_simp; (try rw [if_neg (by omega)]); (try rw [if_pos (by omega)]); try with_reducible rfl); simp only [Act.put, List.setIfInBounds_toArray, List.set_cons_zero, List.set_cons_succ]) | (apply wpPlan_skip; rfl; rfl; simp only [Act.put, List.setIfInBounds_toArray, List.set_cons_zero, List.set_cons_succ]) | (apply wpPlan_pass; rfl; rfl; assumption; simp only [Act.put, List.setIfInBounds_toArray, List.set_cons_zero, List.set_cons_succ]))
      have HB2 := Lib.hid HB.out.drew
      apply wpPlan_done
      clear HS n0 n1 n2 n3 n4 q0 q1 q2 q3 q4
      go_wp2_with fail
      go_roundw
      case rel => exact ⟨k + 1, by omega, by go_num, HB2⟩
      case measure => simp [intOf]; omega
    · go_wp2_with fail
      go_ret
      exact Makes.mk rfl HB.out
set_option maxRecDepth 100000 in
set_option maxHeartbeats 3200000 in
theorem EqDef_same (x : Df) (A1 A2 : Option Addr) (c1 c2 : Nat) (w : World) (h1 : Nodes w (.slice A1 x.tree.length c1) x.tree) (h2 : Nodes w (.slice A2 x.tree.length c2) x.tree) (hT : x.tree.length ≤ 100000000000) :
    Calls Tryz.prog 122 #[.agg #[.string x.name, .bool x.out, .string x.t, .slice A1 x.tree.length c1, .int .i64 x.line, .int .i64 x.col], .agg #[.string x.name, .bool x.out, .string x.t, .slice A2 x.tree.length c2, .int .i64 x.line, .int .i64 x.col]] w (Makes (.bool true) w) := by
  have H1 := Lib.hid h1
  have H2 := Lib.hid h2
  have HB2 := Lib.hid (below_two w (.cells #[.string x.name, .bool x.out, .string x.t, .slice A1 x.tree.length c1, .int .i64 x.line, .int .i64 x.col] 84) (.cells #[.string x.name, .bool x.out, .string x.t, .slice A2 x.tree.length c2, .int .i64 x.line, .int .i64 x.col] 84))
  clear h1 h2
  go_enter Tryz.func122, Tryz.ntmps122
  go_wp2_with fail
  refine (EqNodes_same x.tree _ _ _ (H1.out.later HB2.out) (H2.out.later HB2.out) hT).mono ?_
  rintro E w1 ⟨rfl, hb1⟩
  have HB1 := Lib.hid (below_later hb1 HB2.out)
  clear hb1
  go_wp2_with fail
  go_ret
  exact Makes.mk rfl HB1.out
set_option maxRecDepth 100000 in
set_option maxHeartbeats 6400000 in
theorem EqDefs_same (L : List Df) (u v : Value) (w : World) (hu : Defs w u L) (hv : Defs w v L) (hL : L.length ≤ 1000000000000000) (hz : ∀ d ∈ L, d.tree.length ≤ 100000000000) : Calls Tryz.prog 97 #[u, v] w (Makes (.bool true) w) := by
  have HU := Lib.hid hu
  have HV := Lib.hid hv
  have HZ := Lib.hid hz
  obtain ⟨A, c, rfl⟩ := hu.form
  obtain ⟨B, d, rfl⟩ := hv.form
  clear hu hv hz
  go_enter Tryz.func97, Tryz.ntmps97
  go_wp2_with fail
  go_loopw [5] (fun i wr => ∃ k : Nat, k ≤ L.length ∧ i = .int .i64 k ∧ Hid (Below w.heap.size w wr)) (fun i _ => L.length - (intOf i).toNat)
  case atStart => exact ⟨0, Nat.zero_le _, rfl, Lib.hid (Below.refl _ _)⟩
  case round =>
    obtain ⟨k, hk, rfl, HB⟩ := hrel
    by_cases hlt : k < L.length
    · obtain ⟨b, off, tv, rfl, ⟨n0, n1, n2, n3, n4, n5⟩, ht⟩ := (HU.out.later HB.out).at_ hlt
      obtain ⟨b2, off2, tu, rfl, ⟨q0, q1, q2, q3, q4, q5⟩, hs⟩ := (HV.out.later HB.out).at_ hlt
      obtain ⟨A1, c1, rfl⟩ := ht.form
      obtain ⟨A2, c2, rfl⟩ := hs.form
      have HT := Lib.hid (ht.later (Below.refl wr.heap.size wr).drew)
      have HTS := Lib.hid (hs.later (Below.refl wr.heap.size wr).drew)
      clear ht hs
      have hx : L[k]? = some L[k] := List.getElem?_eq_getElem hlt
      have HZX := Lib.hid (HZ.out _ (List.mem_of_getElem? hx))
      generalize L[k] = x at *
      clear hx
      go_wp2_with fail
      refine wp_region_plan (S := fun w' => (w'.cell? ⟨b, off + k * 6, none⟩ = some (.string x.name) ∧ w'.cell? ⟨b, off + k * 6 + 1, none⟩ = some (.bool x.out) ∧ w'.cell? ⟨b, off + k * 6 + 2, none⟩ = some (.string x.t) ∧ w'.cell? ⟨b, off + k * 6 + 3, none⟩ = some (.slice A1 x.tree.length c1) ∧ w'.cell? ⟨b, off + k * 6 + 4, none⟩ = some (.int .i64 x.line) ∧ w'.cell? ⟨b, off + k * 6 + 5, none⟩ = some (.int .i64 x.col)) ∧ (w'.cell? ⟨b2, off2 + k * 6, none⟩ = some (.string x.name) ∧ w'.cell? ⟨b2, off2 + k * 6 + 1, none⟩ = some (.bool x.out) ∧ w'.cell? ⟨b2, off2 + k * 6 + 2, none⟩ = some (.string x.t) ∧ w'.cell? ⟨b2, off2 + k * 6 + 3, none⟩ = some (.slice A2 x.tree.length c2) ∧ w'.cell? ⟨b2, off2 + k * 6 + 4, none⟩ = some (.int .i64 x.line) ∧ w'.cell? ⟨b2, off2 + k * 6 + 5, none⟩ = some (.int .i64 x.col))) [(0, true), (1, true), (2, true), (3, true), (4, true), (5, true), (6, true), (7, true), (8, false), (9, true)] (by kernel_rfl) (by kernel_rfl) (by kernel_rfl) (fun _ _ _ _ _ h => h) ⟨⟨n0, n1, n2, n3, n4, n5⟩, ⟨q0, q1, q2, q3, q4, q5⟩⟩ ?_
      intro HS
      repeat (first | (apply wpPlan_look; rfl; rfl; (intro wq hq; (try dsimp only at hq); go_split_ands; go_simp; (try rw [if_neg (by omega)]); (try rw [if_pos (by omega)]); try with_reducible rfl); simp only [Act.put, List.setIfInBounds_toArray, List.set_cons_zero, List.set_cons_succ]) | (apply wpPlan_skip; rfl; rfl; simp only [Act.put, List.setIfInBounds_toArray, List.set_cons_zero, List.set_cons_succ]) | (apply wpPlan_pass; rfl; rfl; assumption; simp only [Act.put, List.setIfInBounds_toArray, List.set_cons_zero, List.set_cons_succ]))
      apply wpPlan_call; rfl; rfl; rfl; rfl; kernel_rfl; exact EqDef_same x A1 A2 c1 c2 _ HT.out HTS.out HZX.out; rfl; rintro e w2 ⟨rfl, hb2⟩
      refine ⟨_, rfl, ⟨⟨cell_later hb2 HS.1.1, cell_later hb2 HS.1.2.1, cell_later hb2 HS.1.2.2.1, cell_later hb2 HS.1.2.2.2.1, cell_later hb2 HS.1.2.2.2.2.1, cell_later hb2 HS.1.2.2.2.2.2⟩, ⟨cell_later hb2 HS.2.1, cell_later hb2 HS.2.2.1, cell_later hb2 HS.2.2.2.1, cell_later hb2 HS.2.2.2.2.1, cell_later hb2 HS.2.2.2.2.2.1, cell_later hb2 HS.2.2.2.2.2.2⟩⟩, ?_⟩
      simp only [Act.put, List.setIfInBounds_toArray, List.set_cons_zero, List.set_cons_succ]
      repeat (first | (apply wpPlan_look; rfl; rfl; (intro wq hq; (try dsimp only at hq); go_split_ands; go_simp; (try rw [if_neg (by omega)]); (try rw [if_pos (by omega)]); try with_reducible rfl); simp only [Act.put, List.setIfInBounds_toArray, List.set_cons_zero, List.set_cons_succ]) | (apply wpPlan_skip; rfl; rfl; simp only [Act.put, List.setIfInBounds_toArray, List.set_cons_zero, List.set_cons_succ]) | (apply wpPlan_pass; rfl; rfl; assumption; simp only [Act.put, List.setIfInBounds_toArray, List.set_cons_zero, List.set_cons_succ]))
      have HB2 := Lib.hid (below_later hb2 HB.out.drew)
      clear hb2 HT HTS
      apply wpPlan_done
      clear HS n0 n1 n2 n3 n4 n5 q0 q1 q2 q3 q4 q5
      go_wp2_with fail
      go_roundw
      case rel => exact ⟨k + 1, by omega, by go_num, HB2⟩
      case measure => simp [intOf]; omega
    · go_wp2_with fail
      go_ret
      exact Makes.mk rfl HB.out
set_option maxRecDepth 100000 in
set_option maxHeartbeats 3200000 in
theorem EqModule_same (x : Md) (A1 A2 D1 D2 : Option Addr) (c1 c2 d1 d2 : Nat) (w : World) (h1 : Imps w (.slice A1 x.imps.length c1) x.imps) (h2 : Imps w (.slice A2 x.imps.length c2) x.imps) (k1 : Defs w (.slice D1 x.defs.length d1) x.defs) (k2 : Defs w (.slice D2 x.defs.length d2) x.defs) (hI : x.imps.length ≤ 1000000000000000) (hD : x.defs.length ≤ 1000000000000000) (hT : ∀ d ∈ x.defs, d.tree.length ≤ 100000000000) :
    Calls Tryz.prog 62 #[.agg #[.string x.name, .slice A1 x.imps.length c1, .slice D1 x.defs.length d1, .int .i64 x.line, .int .i64 x.col], .agg #[.string x.name, .slice A2 x.imps.length c2, .slice D2 x.defs.length d2, .int .i64 x.line, .int .i64 x.col]] w (Makes (.bool true) w) := by
  have H1 := Lib.hid h1
  have H2 := Lib.hid h2
  have K1 := Lib.hid k1
  have K2 := Lib.hid k2
  have HT := Lib.hid hT
  have HB2 := Lib.hid (below_two w (.cells #[.string x.name, .slice A1 x.imps.length c1, .slice D1 x.defs.length d1, .int .i64 x.line, .int .i64 x.col] 88) (.cells #[.string x.name, .slice A2 x.imps.length c2, .slice D2 x.defs.length d2, .int .i64 x.line, .int .i64 x.col] 88))
  have HM1 : Hid (Blk w.heap.size #[.string x.name, .slice A1 x.imps.length c1, .slice D1 x.defs.length d1, .int .i64 x.line, .int .i64 x.col] 88 ((w.alloc (.cells #[.string x.name, .slice A1 x.imps.length c1, .slice D1 x.defs.length d1, .int .i64 x.line, .int .i64 x.col] 88)).alloc (.cells #[.string x.name, .slice A2 x.imps.length c2, .slice D2 x.defs.length d2, .int .i64 x.line, .int .i64 x.col] 88))) := Lib.hid ((Blk.alloc w _ _).later ((Below.refl _ _).alloc (Nat.le_refl _) _))
  have HM2 := Lib.hid (Blk.alloc2 w (.cells #[.string x.name, .slice A1 x.imps.length c1, .slice D1 x.defs.length d1, .int .i64 x.line, .int .i64 x.col] 88) #[.string x.name, .slice A2 x.imps.length c2, .slice D2 x.defs.length d2, .int .i64 x.line, .int .i64 x.col] 88)
  clear h1 h2 k1 k2 hT
  go_enter Tryz.func62, Tryz.ntmps62
  go_wp2_with fail
  refine (EqImports_same x.imps _ _ _ (H1.out.later HB2.out) (H2.out.later HB2.out) hI).mono ?_
  rintro E w1 ⟨rfl, hb1⟩
  have HB1 := Lib.hid (below_later hb1 HB2.out)
  have m1 := (HM1.out.later hb1).cell (i := 2) rfl
  have m2 := (HM2.out.later hb1).cell (i := 2) rfl
  clear hb1
  go_wp2_with fail
  refine (EqDefs_same x.defs _ _ _ (K1.out.later HB1.out) (K2.out.later HB1.out) hD HT.out).mono ?_
  rintro E w2 ⟨rfl, hb2⟩
  have HB3 := Lib.hid (below_later hb2 HB1.out)
  clear hb2 m1 m2
  go_wp2_with fail
  go_ret
  exact Makes.mk rfl HB3.out
set_option maxRecDepth 100000 in
set_option maxHeartbeats 6400000 in
theorem EqModules_same (L : List Md) (u v : Value) (w : World) (hu : Mods w u L) (hv : Mods w v L) (hL : L.length ≤ 1000000000000000) (hz : ∀ m ∈ L, m.imps.length ≤ 1000000000000000 ∧ m.defs.length ≤ 1000000000000000 ∧ ∀ d ∈ m.defs, d.tree.length ≤ 100000000000) : Calls Tryz.prog 18 #[u, v] w (Makes (.bool true) w) := by
  have HU := Lib.hid hu
  have HV := Lib.hid hv
  have HZ := Lib.hid hz
  obtain ⟨A, c, rfl⟩ := hu.form
  obtain ⟨B, d, rfl⟩ := hv.form
  clear hu hv hz
  go_enter Tryz.func18, Tryz.ntmps18
  go_wp2_with fail
  go_loopw [5] (fun i wr => ∃ k : Nat, k ≤ L.length ∧ i = .int .i64 k ∧ Hid (Below w.heap.size w wr)) (fun i _ => L.length - (intOf i).toNat)
  case atStart => exact ⟨0, Nat.zero_le _, rfl, Lib.hid (Below.refl _ _)⟩
  case round =>
    obtain ⟨k, hk, rfl, HB⟩ := hrel
    by_cases hlt : k < L.length
    · obtain ⟨b, off, iv, dv, rfl, ⟨n0, n1, n2, n3, n4⟩, hi, hd⟩ := (HU.out.later HB.out).at_ hlt
      obtain ⟨b2, off2, iu, du, rfl, ⟨q0, q1, q2, q3, q4⟩, hj, he⟩ := (HV.out.later HB.out).at_ hlt
      obtain ⟨A1, c1, rfl⟩ := hi.form
      obtain ⟨A2, c2, rfl⟩ := hj.form
      obtain ⟨D1, d1, rfl⟩ := hd.form
      obtain ⟨D2, d2, rfl⟩ := he.form
      have HI := Lib.hid (hi.later (Below.refl wr.heap.size wr).drew)
      have HJ := Lib.hid (hj.later (Below.refl wr.heap.size wr).drew)
      have HD := Lib.hid (hd.later (Below.refl wr.heap.size wr).drew)
      have HE := Lib.hid (he.later (Below.refl wr.heap.size wr).drew)
      clear hi hj hd he
      have hx : L[k]? = some L[k] := List.getElem?_eq_getElem hlt
      have HZX := Lib.hid (HZ.out _ (List.mem_of_getElem? hx))
      generalize L[k] = x at *
      clear hx
      go_wp2_with fail
      refine wp_region_plan (S := fun w' => (w'.cell? ⟨b, off + k * 5, none⟩ = some (.string x.name) ∧ w'.cell? ⟨b, off + k * 5 + 1, none⟩ = some (.slice A1 x.imps.length c1) ∧ w'.cell? ⟨b, off + k * 5 + 2, none⟩ = some (.slice D1 x.defs.length d1) ∧ w'.cell? ⟨b, off + k * 5 + 3, none⟩ = some (.int .i64 x.line) ∧ w'.cell? ⟨b, off + k * 5 + 4, none⟩ = some (.int .i64 x.col)) ∧ (w'.cell? ⟨b2, off2 + k * 5, none⟩ = some (.string x.name) ∧ w'.cell? ⟨b2, off2 + k * 5 + 1, none⟩ = some (.slice A2 x.imps.length c2) ∧ w'.cell? ⟨b2, off2 + k * 5 + 2, none⟩ = some (.slice D2 x.defs.length d2) ∧ w'.cell? ⟨b2, off2 + k * 5 + 3, none⟩ = some (.int .i64 x.line) ∧ w'.cell? ⟨b2, off2 + k * 5 + 4, none⟩ = some (.int .i64 x.col))) [(0, true), (1, true), (2, true), (3, true), (4, true), (5, true), (6, true), (7, true), (8, false), (9, true)] (by kernel_rfl) (by kernel_rfl) (by kernel_rfl) (fun _ _ _ _ _ h => h) ⟨⟨n0, n1, n2, n3, n4⟩, ⟨q0, q1, q2, q3, q4⟩⟩ ?_
      intro HS
      repeat (first | (apply wpPlan_look; rfl; rfl; (intro wq hq; (try dsimp only at hq); go_split_ands; go_simp; (try rw [if_neg (by omega)]); (try rw [if_pos (by omega)]); try with_reducible rfl); simp only [Act.put, List.setIfInBounds_toArray, List.set_cons_zero, List.set_cons_succ]) | (apply wpPlan_skip; rfl; rfl; simp only [Act.put, List.setIfInBounds_toArray, List.set_cons_zero, List.set_cons_succ]) | (apply wpPlan_pass; rfl; rfl; assumption; simp only [Act.put, List.setIfInBounds_toArray, List.set_cons_zero, List.set_cons_succ]))
      apply wpPlan_call; rfl; rfl; rfl; rfl; kernel_rfl; exact EqModule_same x A1 A2 D1 D2 c1 c2 d1 d2 _ HI.out HJ.out HD.out HE.out HZX.out.1 HZX.out.2.1 HZX.out.2.2; rfl; rintro e w2 ⟨rfl, hb2⟩
      refine ⟨_, rfl, ⟨⟨cell_later hb2 HS.1.1, cell_later hb2 HS.1.2.1, cell_later hb2 HS.1.2.2.1, cell_later hb2 HS.1.2.2.2.1, cell_later hb2 HS.1.2.2.2.2⟩, ⟨cell_later hb2 HS.2.1, cell_later hb2 HS.2.2.1, cell_later hb2 HS.2.2.2.1, cell_later hb2 HS.2.2.2.2.1, cell_later hb2 HS.2.2.2.2.2⟩⟩, ?_⟩
      simp only [Act.put, List.setIfInBounds_toArray, List.set_cons_zero, List.set_cons_succ]
      repeat (first | (apply wpPlan_look; rfl; rfl; (intro wq hq; (try dsimp only at hq); go_split_ands; go_simp; (try rw [if_neg (by omega)]); (try rw [if_pos (by omega)]); try with_reducible rfl); simp only [Act.put, List.setIfInBounds_toArray, List.set_cons_zero, List.set_cons_succ]) | (apply wpPlan_skip; rfl; rfl; simp only [Act.put, List.setIfInBounds_toArray, List.set_cons_zero, List.set_cons_succ]) | (apply wpPlan_pass; rfl; rfl; assumption; simp only [Act.put, List.setIfInBounds_toArray, List.set_cons_zero, List.set_cons_succ]))
      have HB2 := Lib.hid (below_later hb2 HB.out.drew)
      clear hb2 HI HJ HD HE
      apply wpPlan_done
      clear HS n0 n1 n2 n3 n4 q0 q1 q2 q3 q4
      go_wp2_with fail
      go_roundw
      case rel => exact ⟨k + 1, by omega, by go_num, HB2⟩
      case measure => simp [intOf]; omega
    · go_wp2_with fail
      go_ret
      exact Makes.mk rfl HB.out
end Go.Proofs.YtidholghbjljaaaGreatDoor

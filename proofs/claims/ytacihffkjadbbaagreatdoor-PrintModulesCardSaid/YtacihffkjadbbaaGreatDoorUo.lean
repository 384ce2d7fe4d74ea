
/- Walks of the document's chapter 7: a part of any kind. -/
import Derived.Test.YtacihffkjadbbaaGreatDoorUn
import Derived.Test.YtacihffkjadbbaaGreatDoorFq
namespace Go.Proofs.YtacihffkjadbbaaGreatDoor
set_option linter.unusedSimpArgs false
set_option linter.unusedVariables false
open Go.RowKit Go.Maps Culp
theorem asked_or (k : Int) : k = 28 ∨ k = 14 ∨ k = 15 ∨ k = 10 ∨ k = 11 ∨ k = 13 ∨ k = 12 ∨ k = 16 ∨ k = 27 ∨ k = 7 ∨ (¬ k = 28 ∧ ¬ k = 14 ∧ ¬ k = 15 ∧ ¬ k = 10 ∧ ¬ k = 11 ∧ ¬ k = 13 ∧ ¬ k = 12 ∧ ¬ k = 16 ∧ ¬ k = 27 ∧ ¬ k = 7) := by omega
set_option maxRecDepth 100000 in
set_option maxHeartbeats 1600000 in
theorem Asked_any (k : Int) (j : Nat) (w : World) (hj : k = 28 ∨ k = 7 → j ≤ 1) (hj2 : j ≤ 1000000) : Calls Tryz.prog 80 #[.int .i8 k, .int .i64 j] w (Gives (.int .i64 (Pt.asked k j : Nat)) w) := by
  rcases asked_or k with rfl | rfl | rfl | rfl | rfl | rfl | rfl | rfl | rfl | rfl | ⟨h1, h2, h3, h4, h5, h6, h7, h8, h9, h10⟩
  all_goals
    try have hj := hj (by decide)
    go_enter Tryz.func80, Tryz.ntmps80
    go_wp2_with fail
    go_ret
    first
    | exact Gives.mk rfl
    | exact Gives.mk (int_congr (by simp [Pt.asked]; omega))
    | exact Gives.mk (int_congr (by simp [Pt.asked, *]))
/-- What Part does with a part. -/
def RPartP (T : List Nd) (tv : Value) (w0 : World) (y : Nd) (ky : Tr.F) : Prop := ∀ (p : Nat) (w : World), (∃ pre post, T = pre ++ y :: (ky.flat ++ post) ∧ pre.length = p) → Below w0.heap.size w0 w → (Pt.part y ky).length ≤ 1000000000 → Calls Tryz.prog 43 #[tv, .int .i64 p] w (Makes (.string (bs (Pt.part y ky))) w)
def RAll (T : List Nd) (tv : Value) (w0 : World) : Tr.F → Prop
  | .nil => True
  | .cons y ky r => RPartP T tv w0 y ky ∧ RAll T tv w0 r
theorem at_pre {T pre post : List Nd} {y : Nd} (h : T = pre ++ y :: post) : T[pre.length]? = some y := by rw [h]; simp
set_option maxRecDepth 100000 in
set_option maxHeartbeats 3200000 in
theorem rKid_any (T : List Nd) (tv : Value) (w0 : World) (hn : Nodes w0 tv T) (r : Nat) (y : Nd) (ky : Tr.F) (hP : RPartP T tv w0 y ky) (p : Nat) (w : World) (hT : ∃ pre post, T = pre ++ y :: (ky.flat ++ post) ∧ pre.length = p) (hB : Below w0.heap.size w0 w) (hl : (kidT r y ky).length ≤ 1000000000) :
    Calls Tryz.prog 78 #[tv, .int .i64 p, .int .i64 r] w (Makes (.string (bs (kidT r y ky))) w) := by
  have hx : T[p]? = some y := by obtain ⟨pre, post, h1, rfl⟩ := hT; exact at_pre h1
  have hp : p < T.length := (List.getElem?_eq_some_iff.1 hx).1
  have HP := Lib.hid (fun (w : World) hb hl => hP p w hT hb hl)
  have HB := Lib.hid hB
  obtain ⟨A, c, rfl, hlc, hN⟩ := hn.later hB
  obtain ⟨b, off, rfl, hM⟩ := hN (by omega)
  obtain ⟨n0, -⟩ := hM.at_ hx
  clear hn hP hT hN hM hx hB
  go_enter Tryz.func78, Tryz.ntmps78
  go_wp2_with fail
  refine (Rank_any y.kind w).mono ?_
  rintro e w' ⟨rfl, rfl⟩
  by_cases hrk : Pt.rank y.kind < r
  · have hkT : kidT r y ky = [40] ++ Pt.part y ky ++ [41] := by unfold kidT Pt.br; rw [if_pos (by simpa using hrk)]
    have HK := Lib.hid hkT
    have hsz : (bs (Pt.part y ky)).size ≤ 1000000000 := by rw [bs_size]; rw [hkT] at hl; simp at hl; omega
    have hl2 := hsz
    rw [bs_size] at hl2
    clear hkT hl
    go_wp2_with fail
    refine (HP.out _ HB.out hl2).mono ?_
    rintro e w1 ⟨rfl, hb1⟩
    clear hl2
    go_wp2_with fail
    go_ret
    refine Makes.mk ?_ hb1
    rw [HK.out]
    apply str_congr
    apply str_inj'
    simp [bs]
  · have hkT : kidT r y ky = Pt.part y ky := by unfold kidT Pt.br; rw [if_neg (by simpa using hrk)]
    have HK := Lib.hid hkT
    have hl2 : (Pt.part y ky).length ≤ 1000000000 := by rw [hkT] at hl; exact hl
    clear hkT hl
    go_wp2_with fail
    refine (HP.out _ HB.out hl2).mono ?_
    rintro e w1 ⟨rfl, hb1⟩
    clear hl2
    go_wp2_with fail
    go_ret
    exact Makes.mk (by rw [HK.out]; rfl) hb1
theorem ite_len {c : Prop} [Decidable c] {a b : List UInt8} {n : Nat} (ha : a.length ≤ n) (hb : b.length ≤ n) : (if c then a else b).length ≤ n := by
  split
  · exact ha
  · exact hb
theorem sep_len (x : Nd) (k : Nat) : (Pt.sep x k).length ≤ 6 := by
  unfold Pt.sep
  repeat' apply ite_len
  all_goals decide
theorem sep_k {x : Nd} (h : x.kind ≠ 9) {k : Nat} (hk : k ≠ 0) : Pt.sep x k = Pt.sep x 1 := by
  unfold Pt.sep
  rw [if_neg hk, if_neg (by decide : ¬ (1 : Nat) = 0)]
  simp [h]
theorem places_cons (y : Nd) (ky r : Tr.F) (p : Nat) : (Tr.F.cons y ky r).places p = p :: r.places (p + 1 + ky.flat.length) := by rw [Tr.F.places]
theorem ok_kind {x : Nd} {ks : Tr.F} (hm : Tr.may x = true) (hO : (Tr.F.cons x ks .nil).Ok) (h : x.kind = 28 ∨ x.kind = 7) : ks.cnt = 2 := by
  have h1 := Tr.may_arit hm
  have h2 := hO.1
  rcases h with h | h <;> rw [h] at h1 <;> simp [Tr.arit] at h1 <;> omega
/-- Where the kids from the one of number k on lie. -/
def Rest (T post : List Nd) (pl : List Nat) (k : Nat) (r : Tr.F) : Prop := ∃ pre, T = pre ++ (r.flat ++ post) ∧ r.places pre.length = pl.drop k
theorem Rest.step {T post : List Nd} {pl : List Nat} {k : Nat} {y : Nd} {ky r : Tr.F} (h : Rest T post pl k (.cons y ky r)) : ∃ q, pl[k]? = some q ∧ (∃ pre post', T = pre ++ y :: (ky.flat ++ post') ∧ pre.length = q) ∧ Rest T post pl (k + 1) r := by
  obtain ⟨pre, h1, h2⟩ := h
  rw [places_cons] at h2
  refine ⟨pre.length, ?_, ⟨pre, r.flat ++ post, by rw [h1]; simp [Tr.F.flat], rfl⟩, pre ++ y :: ky.flat, by rw [h1]; simp [Tr.F.flat], ?_⟩
  · have : (pl.drop k)[0]? = some pre.length := by rw [← h2]; rfl
    rwa [List.getElem?_drop, Nat.add_zero] at this
  · have : pl.drop (k + 1) = (pl.drop k).drop 1 := by rw [List.drop_drop]
    rw [this, ← h2]
    simp only [List.length_append, List.length_cons, List.drop_succ_cons, List.drop_zero]
    congr 1
    omega
section
variable (T : List Nd) (tv : Value) (w0 : World) (hn : Nodes w0 tv T) (hTl : T.length ≤ 1000000) (hz : ∀ x ∈ T, x.s.size ≤ 140737488351232 ∧ x.n ≤ 9223372036854775807)
  (x : Nd) (ks : Tr.F) (hm : Tr.may x = true) (hO : (Tr.F.cons x ks .nil).Ok) (hA : RAll T tv w0 ks)
include hn hTl hz hm hO hA
set_option maxRecDepth 100000 in
set_option maxHeartbeats 12800000 in
theorem rpart_if (hk : x.kind = 9) : RPartP T tv w0 x ks := by
  have HKN := Lib.hid hk
  clear hk
  intro p w hT hB hl
  obtain ⟨pre, post, hT, hp⟩ := hT
  have hx : T[p]? = some x := by rw [← hp]; exact at_pre hT
  have hpl : p < T.length := (List.getElem?_eq_some_iff.1 hx).1
  have HXZ := Lib.hid (hz x (List.mem_of_getElem? hx))
  have HN := Lib.hid hn
  have HKD := Lib.hid (fun w' (hb : Below w.heap.size w w') => rKids_any T tv (p : Int) w' ((hn.later hB).later hb) hTl)
  have HKS : Hid (Tr.kidsOf T (p : Int) = ks.places (p + 1)) := Lib.hid (by have := Tr.F.kids_at hT hO; rw [hp] at this; exact this)
  have HRS : Hid (Rest T post (ks.places (p + 1)) 0 ks) := Lib.hid ⟨pre ++ [x], by rw [hT]; simp, by simp [hp]⟩
  have HB := Lib.hid hB
  have HA := Lib.hid hA
  have HM := Lib.hid hm
  have HO := Lib.hid hO
  obtain ⟨A, c, rfl, hlc, hNN⟩ := hn.later hB
  obtain ⟨b, off, rfl, hMM⟩ := hNN (by omega)
  obtain ⟨n0, n1, n2, n3, n4, n5, n6, n7⟩ := hMM.at_ hx
  have hcnt : ks.cnt ≤ T.length := by have := Tr.F.cnt_le ks; rw [hT]; simp; omega
  have hbx : Below w.heap.size w (w.alloc (.cells x.cells.toArray 41)) := (Below.refl _ _).alloc (Nat.le_refl _) _
  have x0 : (w.alloc (.cells x.cells.toArray 41)).cell? ⟨w.heap.size, 0, none⟩ = some (.int .i8 x.kind) := box_cell w x.cells.toArray 41 0 _ rfl
  have HX0 := Lib.hid x0
  have HX1 := Lib.hid (box_cell w x.cells.toArray 41 1 _ rfl)
  have HX2 := Lib.hid (box_cell w x.cells.toArray 41 2 _ rfl)
  have HX3 := Lib.hid (box_cell w x.cells.toArray 41 3 _ rfl)
  have HX4 := Lib.hid (box_cell w x.cells.toArray 41 4 _ rfl)
  have HX5 := Lib.hid (box_cell w x.cells.toArray 41 5 _ rfl)
  have HX6 := Lib.hid (box_cell w x.cells.toArray 41 6 _ rfl)
  have HX7 := Lib.hid (box_cell w x.cells.toArray 41 7 _ rfl)
  have HBX := Lib.hid hbx
  clear hT hx hB hA hm hO hn hz hNN hMM hp x0 hbx
  unfold Nd.cells at HX0 HX1 HX2 HX3 HX4 HX5 HX6 HX7 HBX
  go_enter Tryz.func43, Tryz.ntmps43
  go_wp2_with fail
  refine (HKD.out _ HBX.out).mono ?_
  rintro E w1 ⟨kv, rfl, hown, hb1⟩
  rw [HKS.out] at hown
  rw [Tr.F.places_len] at hown
  have HB1 := Lib.hid (below_later hb1 HBX.out)
  have HB2 := Lib.hid (below_later (below_later hb1 HBX.out) HB.out)
  have x0 : w1.cell? ⟨w.heap.size, 0, none⟩ = some (.int .i8 x.kind) := cell_later hb1 HX0.out
  have x1 : w1.cell? ⟨w.heap.size, 1, none⟩ = some (.int .i64 x.kids) := cell_later hb1 HX1.out
  have x2 : w1.cell? ⟨w.heap.size, 2, none⟩ = some (.int .i64 x.n) := cell_later hb1 HX2.out
  have x3 : w1.cell? ⟨w.heap.size, 3, none⟩ = some (.string x.s) := cell_later hb1 HX3.out
  have x4 : w1.cell? ⟨w.heap.size, 4, none⟩ = some (.string x.t) := cell_later hb1 HX4.out
  have x5 : w1.cell? ⟨w.heap.size, 5, none⟩ = some (.string x.u) := cell_later hb1 HX5.out
  have x6 : w1.cell? ⟨w.heap.size, 6, none⟩ = some (.int .i64 x.line) := cell_later hb1 HX6.out
  have x7 : w1.cell? ⟨w.heap.size, 7, none⟩ = some (.int .i64 x.col) := cell_later hb1 HX7.out
  clear hb1 HX0 HX1 HX2 HX3 HX4 HX5 HX6 HX7 HBX HKD HKS HB n0 n1 n2 n3 n4 n5 n6 n7
  obtain ⟨Ak, ck, rfl, -, hAk⟩ := own_form hown
  have HAK := Lib.hid hAk
  have HOW := Lib.hid hown
  clear hown hAk
  rw [HKN.out] at x0
  obtain ⟨y, ky, z, kz, u, ku, rfl⟩ := three_of (ks := ks) (by have h1 := Tr.may_arit HM.out; have h2 := HO.out.1; rw [HKN.out] at h1; simp [Tr.arit] at h1; omega)
  have HE := Lib.hid (part_if (y := y) (ky := ky) (z := z) (kz := kz) (u := u) (ku := ku) HKN.out)
  obtain ⟨gk, rfl, -, -⟩ := HAK.out (by simp [Tr.F.cnt])
  obtain ⟨q1, hq1, hT1, hr1⟩ := HRS.out.step
  obtain ⟨q2, hq2, hT2, hr2⟩ := hr1.step
  obtain ⟨q3, hq3, hT3, -⟩ := hr2.step
  have hlen := hl
  rw [HE.out] at hlen
  simp only [List.length_append, List.length_cons, List.length_nil] at hlen
  have k0 := (own_get HOW.out (i := 0) (v := natV q1) (by rw [List.getElem?_map, hq1]; rfl)).1
  have k1 := (own_get HOW.out (i := 1) (v := natV q2) (by rw [List.getElem?_map, hq2]; rfl)).1
  have k2 := (own_get HOW.out (i := 2) (v := natV q3) (by rw [List.getElem?_map, hq3]; rfl)).1
  have HK1 := Lib.hid (fun w hb => rKid_any T _ w0 HN.out 0 y ky HA.out.1 q1 w hT1 hb (by omega))
  have HK2 := Lib.hid (fun w hb => rKid_any T _ w0 HN.out 0 z kz HA.out.2.1 q2 w hT2 hb (by omega))
  have HK3 := Lib.hid (fun w hb => rKid_any T _ w0 HN.out 0 u ku HA.out.2.2.1 q3 w hT3 hb (by omega))
  have hs1 : (bs (kidT 0 y ky)).size ≤ 1000000000 := by rw [bs_size]; omega
  have hs2 : (bs (kidT 0 z kz)).size ≤ 1000000000 := by rw [bs_size]; omega
  have hs3 : (bs (kidT 0 u ku)).size ≤ 1000000000 := by rw [bs_size]; omega
  rw [show (Tr.F.cons y ky (.cons z kz (.cons u ku .nil))).cnt = 3 from rfl] at *
  clear hq1 hq2 hq3 hT1 hT2 hT3 hr1 hr2 HRS HOW HAK hlen hl x1 x2 x3 x4 x5 x6 x7
  simp only [natV] at k0 k1 k2
  go_wp2_with fail
  refine wp_region_plan (S := fun w' => w'.cell? ⟨gk, 0, none⟩ = some (.int .i64 q1) ∧ w'.cell? ⟨gk, 1, none⟩ = some (.int .i64 q2) ∧ w'.cell? ⟨gk, 2, none⟩ = some (.int .i64 q3))
    [(0, true), (1, true), (2, true), (3, true), (7, true), (8, true), (9, true), (10, true), (14, true), (15, true), (16, true), (17, true), (4, false), (5, true), (6, true), (11, false), (12, true), (13, true), (18, false), (19, true), (20, true)] (by kernel_rfl) (by kernel_rfl) (by kernel_rfl) (fun _ _ _ _ _ h => h) ⟨k0, k1, k2⟩ ?_
  intro HS
  repeat (first | (apply wpPlan_look; rfl; rfl; (intro wq hq; (try dsimp only at hq); go_split_ands; go_simp; (try rw [if_neg (by omega)]); (try rw [if_pos (by omega)]); try with_reducible rfl); simp only [Act.put, List.setIfInBounds_toArray, List.set_cons_zero, List.set_cons_succ]) | (apply wpPlan_skip; rfl; rfl; simp only [Act.put, List.setIfInBounds_toArray, List.set_cons_zero, List.set_cons_succ]) | (apply wpPlan_pass; rfl; rfl; assumption; simp only [Act.put, List.setIfInBounds_toArray, List.set_cons_zero, List.set_cons_succ]))
  apply wpPlan_call; rfl; rfl; rfl; rfl; kernel_rfl; exact HK1.out _ HB2.out.drew; rfl; rintro e w2 ⟨rfl, hb2⟩
  have hb2' : Below w1.heap.size w1 w2 := ((Below.refl w1.heap.size w1).drew).trans (hb2.mono (Nat.le_refl _))
  refine ⟨_, rfl, as_S ⟨cell_later hb2' k0, cell_later hb2' k1, cell_later hb2' k2⟩ ?_⟩
  clear HS
  intro HS
  simp only [Act.put, List.setIfInBounds_toArray, List.set_cons_zero, List.set_cons_succ]
  repeat (first | (apply wpPlan_look; rfl; rfl; (intro wq hq; (try dsimp only at hq); go_split_ands; go_simp; (try rw [if_neg (by omega)]); (try rw [if_pos (by omega)]); try with_reducible rfl); simp only [Act.put, List.setIfInBounds_toArray, List.set_cons_zero, List.set_cons_succ]) | (apply wpPlan_skip; rfl; rfl; simp only [Act.put, List.setIfInBounds_toArray, List.set_cons_zero, List.set_cons_succ]) | (apply wpPlan_pass; rfl; rfl; assumption; simp only [Act.put, List.setIfInBounds_toArray, List.set_cons_zero, List.set_cons_succ]))
  apply wpPlan_call; rfl; rfl; rfl; rfl; kernel_rfl; exact HK2.out _ (below_later hb2' HB2.out); rfl; rintro e w3 ⟨rfl, hb3⟩
  have hb3' : Below w1.heap.size w1 w3 := hb2'.trans (hb3.mono hb2'.size)
  refine ⟨_, rfl, as_S ⟨cell_later hb3' k0, cell_later hb3' k1, cell_later hb3' k2⟩ ?_⟩
  clear HS
  intro HS
  simp only [Act.put, List.setIfInBounds_toArray, List.set_cons_zero, List.set_cons_succ]
  repeat (first | (apply wpPlan_look; rfl; rfl; (intro wq hq; (try dsimp only at hq); go_split_ands; go_simp; (try rw [if_neg (by omega)]); (try rw [if_pos (by omega)]); try with_reducible rfl); simp only [Act.put, List.setIfInBounds_toArray, List.set_cons_zero, List.set_cons_succ]) | (apply wpPlan_skip; rfl; rfl; simp only [Act.put, List.setIfInBounds_toArray, List.set_cons_zero, List.set_cons_succ]) | (apply wpPlan_pass; rfl; rfl; assumption; simp only [Act.put, List.setIfInBounds_toArray, List.set_cons_zero, List.set_cons_succ]))
  apply wpPlan_call; rfl; rfl; rfl; rfl; kernel_rfl; exact HK3.out _ (below_later hb3' HB2.out); rfl; rintro e w4 ⟨rfl, hb4⟩
  have hb4' : Below w1.heap.size w1 w4 := hb3'.trans (hb4.mono hb3'.size)
  refine ⟨_, rfl, as_S ⟨cell_later hb4' k0, cell_later hb4' k1, cell_later hb4' k2⟩ ?_⟩
  clear HS
  intro HS
  simp only [Act.put, List.setIfInBounds_toArray, List.set_cons_zero, List.set_cons_succ]
  repeat (first | (apply wpPlan_look; rfl; rfl; (intro wq hq; (try dsimp only at hq); go_split_ands; go_simp; (try rw [if_neg (by omega)]); (try rw [if_pos (by omega)]); try with_reducible rfl); simp only [Act.put, List.setIfInBounds_toArray, List.set_cons_zero, List.set_cons_succ]) | (apply wpPlan_skip; rfl; rfl; simp only [Act.put, List.setIfInBounds_toArray, List.set_cons_zero, List.set_cons_succ]) | (apply wpPlan_pass; rfl; rfl; assumption; simp only [Act.put, List.setIfInBounds_toArray, List.set_cons_zero, List.set_cons_succ]))
  apply wpPlan_done
  have HB4 := Lib.hid (below_later hb4' HB1.out)
  clear HS hb2 hb2' hb3 hb3' hb4 hb4' k0 k1 k2
  go_wp2_with fail
  go_ret
  refine Makes.mk ?_ HB4.out
  rw [HE.out]
  apply str_congr
  apply str_inj'
  simp [bs]
set_option maxRecDepth 100000 in
set_option maxHeartbeats 12800000 in
theorem rpart_rest (hk : x.kind ≠ 9) : RPartP T tv w0 x ks := by
  have HKN := Lib.hid hk
  have hk9 : (x.kind == 9) = false := beq_no hk
  have HS1 := Lib.hid (fun (k : Nat) => sep_k (x := x) hk (k := k))
  clear hk
  intro p w hT hB hl
  obtain ⟨pre, post, hT, hp⟩ := hT
  have hx : T[p]? = some x := by rw [← hp]; exact at_pre hT
  have hpl : p < T.length := (List.getElem?_eq_some_iff.1 hx).1
  have HXZ := Lib.hid (hz x (List.mem_of_getElem? hx))
  have HN := Lib.hid hn
  have HKD := Lib.hid (fun w' (hb : Below w.heap.size w w') => rKids_any T tv (p : Int) w' ((hn.later hB).later hb) hTl)
  have HKS : Hid (Tr.kidsOf T (p : Int) = ks.places (p + 1)) := Lib.hid (by have := Tr.F.kids_at hT hO; rw [hp] at this; exact this)
  have HRS : Hid (Rest T post (ks.places (p + 1)) 0 ks) := Lib.hid ⟨pre ++ [x], by rw [hT]; simp, by simp [hp]⟩
  have HB := Lib.hid hB
  have HA := Lib.hid hA
  have HM := Lib.hid hm
  have HO := Lib.hid hO
  obtain ⟨A, c, rfl, hlc, hNN⟩ := hn.later hB
  obtain ⟨b, off, rfl, hMM⟩ := hNN (by omega)
  obtain ⟨n0, n1, n2, n3, n4, n5, n6, n7⟩ := hMM.at_ hx
  have hcnt : ks.cnt ≤ T.length := by have := Tr.F.cnt_le ks; rw [hT]; simp; omega
  have hbx : Below w.heap.size w (w.alloc (.cells x.cells.toArray 41)) := (Below.refl _ _).alloc (Nat.le_refl _) _
  have x0 : (w.alloc (.cells x.cells.toArray 41)).cell? ⟨w.heap.size, 0, none⟩ = some (.int .i8 x.kind) := box_cell w x.cells.toArray 41 0 _ rfl
  have HX0 := Lib.hid x0
  have HX1 := Lib.hid (box_cell w x.cells.toArray 41 1 _ rfl)
  have HX2 := Lib.hid (box_cell w x.cells.toArray 41 2 _ rfl)
  have HX3 := Lib.hid (box_cell w x.cells.toArray 41 3 _ rfl)
  have HX4 := Lib.hid (box_cell w x.cells.toArray 41 4 _ rfl)
  have HX5 := Lib.hid (box_cell w x.cells.toArray 41 5 _ rfl)
  have HX6 := Lib.hid (box_cell w x.cells.toArray 41 6 _ rfl)
  have HX7 := Lib.hid (box_cell w x.cells.toArray 41 7 _ rfl)
  have HBX := Lib.hid hbx
  clear hT hx hB hA hm hO hn hz hNN hMM hp x0 hbx
  unfold Nd.cells at HX0 HX1 HX2 HX3 HX4 HX5 HX6 HX7 HBX
  go_enter Tryz.func43, Tryz.ntmps43
  go_wp2_with fail
  refine (HKD.out _ HBX.out).mono ?_
  rintro E w1 ⟨kv, rfl, hown, hb1⟩
  rw [HKS.out] at hown
  rw [Tr.F.places_len] at hown
  have HB1 := Lib.hid (below_later hb1 HBX.out)
  have HB2 := Lib.hid (below_later (below_later hb1 HBX.out) HB.out)
  have x0 : w1.cell? ⟨w.heap.size, 0, none⟩ = some (.int .i8 x.kind) := cell_later hb1 HX0.out
  have x1 : w1.cell? ⟨w.heap.size, 1, none⟩ = some (.int .i64 x.kids) := cell_later hb1 HX1.out
  have x2 : w1.cell? ⟨w.heap.size, 2, none⟩ = some (.int .i64 x.n) := cell_later hb1 HX2.out
  have x3 : w1.cell? ⟨w.heap.size, 3, none⟩ = some (.string x.s) := cell_later hb1 HX3.out
  have x4 : w1.cell? ⟨w.heap.size, 4, none⟩ = some (.string x.t) := cell_later hb1 HX4.out
  have x5 : w1.cell? ⟨w.heap.size, 5, none⟩ = some (.string x.u) := cell_later hb1 HX5.out
  have x6 : w1.cell? ⟨w.heap.size, 6, none⟩ = some (.int .i64 x.line) := cell_later hb1 HX6.out
  have x7 : w1.cell? ⟨w.heap.size, 7, none⟩ = some (.int .i64 x.col) := cell_later hb1 HX7.out
  clear hb1 HX0 HX1 HX2 HX3 HX4 HX5 HX6 HX7 HBX HKD HKS HB n0 n1 n2 n3 n4 n5 n6 n7
  obtain ⟨Ak, ck, rfl, -, hAk⟩ := own_form hown
  have HAK := Lib.hid hAk
  have HOW := Lib.hid hown
  clear hown hAk
  have HPC := Lib.hid (fun w => pieces_any x w HM.out HKN.out HXZ.out.1 HXZ.out.2)
  have HPL : Hid ((Pt.pre x).length + (Pt.kids x 0 ks).length + (Pt.post x).length ≤ 1000000000) := Lib.hid (by have := hl; unfold Pt.part at this; simpa [Nat.add_assoc] using this)
  have HOK := Lib.hid (fun h => ok_kind HM.out HO.out h)
  clear hl HM HXZ
  go_wp2_with fail
  refine (HPC.out _).mono ?_
  rintro E w2 ⟨rfl, hb2⟩
  unfold pieces
  have HB3 := Lib.hid (below_later hb2 HB1.out)
  have HB4 := Lib.hid (below_later hb2 HB2.out)
  have HW2 := Lib.hid (own_later HOW.out hb2)
  have y0 := cell_later hb2 x0
  clear hb2 HB1 HB2 HOW x0 x1 x2 x3 x4 x5 x6 x7 HPC HKN hk9
  have HY0 := Lib.hid y0
  clear y0
  go_wp2_with fail
  go_loopw [10, 11] (fun sv iv wr => ∃ (k : Nat) (r : Tr.F) (d : List UInt8), k + r.cnt = ks.cnt ∧ iv = .int .i64 k ∧ sv = .string (bs d) ∧ Hid (d ++ Pt.kids x k r = Pt.pre x ++ Pt.kids x 0 ks) ∧ Hid (RAll T (.slice (some ⟨b, off, none⟩) T.length c) w0 r) ∧ Hid (Rest T post (ks.places (p + 1)) k r) ∧ Hid (Below w2.heap.size w2 wr)) (fun _ i _ => ks.cnt - (intOf i).toNat)
  case atStart => exact ⟨0, ks, Pt.pre x, by omega, rfl, rfl, Lib.hid rfl, HA, HRS, Lib.hid (Below.refl _ _)⟩
  case round =>
    clear HA HRS
    obtain ⟨k, r, d, hkr, rfl, rfl, HD, HA, HR, HB⟩ := hrel
    have hdl := congrArg List.length HD.out
    simp only [List.length_append] at hdl
    have hpl2 := HPL.out
    cases r with
    | nil =>
      have hk2 : ¬ k < ks.cnt := by simp only [Tr.F.cnt] at hkr; omega
      have hds : (bs d).size ≤ 1000000000 := by rw [bs_size]; omega
      have hps : (bs (Pt.post x)).size ≤ 1000000000 := by rw [bs_size]; omega
      clear hdl hpl2 hkr
      go_wp2_with fail
      go_ret
      refine Makes.mk ?_ (below_later HB.out HB3.out)
      have hd := HD.out
      simp only [Pt.kids, List.append_nil] at hd
      rw [bs_app, hd]
      rfl
    | cons y ky r =>
      have hk2 : k < ks.cnt := by simp only [Tr.F.cnt] at hkr; omega
      obtain ⟨q, hq, hTq, hrq⟩ := HR.out.step
      obtain ⟨gk, rfl, -, -⟩ := HAK.out (by omega)
      have k0 := (own_get (own_later HW2.out HB.out) (i := k) (v := natV q) (by rw [List.getElem?_map, hq]; rfl)).1
      have x0 := cell_later HB.out HY0.out
      rw [kids_cons] at hdl
      simp only [List.length_append] at hdl
      have HKID := Lib.hid (fun w hb => rKid_any T _ w0 HN.out (Pt.asked x.kind k) y ky HA.out.1 q w hTq hb (by omega))
      have HASK := Lib.hid (fun w => Asked_any x.kind k w (fun h => by have := HOK.out h; omega) (by omega))
      have hds : (bs d).size ≤ 1000000000 := by rw [bs_size]; omega
      have hks : (bs (kidT (Pt.asked x.kind k) y ky)).size ≤ 1000000000 := by rw [bs_size]; omega
      have hss : (bs (Pt.sep x 1)).size ≤ 6 := by rw [bs_size]; exact sep_len x 1
      have HBR := Lib.hid (below_later HB.out HB4.out)
      have HRQ := Lib.hid hrq
      clear hq hTq hrq hdl hpl2 HR
      simp only [natV] at k0
      by_cases hk0 : k = 0
      · have HZ : Hid (Pt.sep x k = []) := Lib.hid (by unfold Pt.sep; rw [if_pos hk0])
        subst hk0
        go_wp2_with fail
        refine wp_region_plan (S := fun w' => w'.cell? ⟨gk, 0, none⟩ = some (.int .i64 q) ∧ w'.cell? ⟨w.heap.size, 0, none⟩ = some (.int .i8 x.kind))
          [(0, true), (1, true), (2, true), (3, true), (4, true), (5, true), (6, true), (7, true), (8, true), (9, false), (10, false), (11, true), (12, true)] (by kernel_rfl) (by kernel_rfl) (by kernel_rfl) (fun _ _ _ _ _ h => h) ⟨k0, x0⟩ ?_
        intro HS
        repeat (first | (apply wpPlan_look; rfl; rfl; (intro wq hq; (try dsimp only at hq); go_split_ands; go_simp; (try rw [if_neg (by omega)]); (try rw [if_pos (by omega)]); try with_reducible rfl); simp only [Act.put, List.setIfInBounds_toArray, List.set_cons_zero, List.set_cons_succ]) | (apply wpPlan_skip; rfl; rfl; simp only [Act.put, List.setIfInBounds_toArray, List.set_cons_zero, List.set_cons_succ]) | (apply wpPlan_pass; rfl; rfl; assumption; simp only [Act.put, List.setIfInBounds_toArray, List.set_cons_zero, List.set_cons_succ]))
        apply wpPlan_call; rfl; rfl; rfl; rfl; kernel_rfl; exact HASK.out _; rfl; rintro e w' ⟨rfl, rfl⟩
        refine ⟨_, rfl, as_S ⟨k0, x0⟩ ?_⟩
        clear HS
        intro HS
        simp only [Act.put, List.setIfInBounds_toArray, List.set_cons_zero, List.set_cons_succ]
        repeat (first | (apply wpPlan_look; rfl; rfl; (intro wq hq; (try dsimp only at hq); go_split_ands; go_simp; (try rw [if_neg (by omega)]); (try rw [if_pos (by omega)]); try with_reducible rfl); simp only [Act.put, List.setIfInBounds_toArray, List.set_cons_zero, List.set_cons_succ]) | (apply wpPlan_skip; rfl; rfl; simp only [Act.put, List.setIfInBounds_toArray, List.set_cons_zero, List.set_cons_succ]) | (apply wpPlan_pass; rfl; rfl; assumption; simp only [Act.put, List.setIfInBounds_toArray, List.set_cons_zero, List.set_cons_succ]))
        apply wpPlan_call; rfl; rfl; rfl; rfl; kernel_rfl; exact HKID.out _ HBR.out.drew; rfl; rintro e w3 ⟨rfl, hb3⟩
        have hb3' : Below wr.heap.size wr w3 := ((Below.refl wr.heap.size wr).drew).trans (hb3.mono (Nat.le_refl _))
        refine ⟨_, rfl, as_S ⟨cell_later hb3' k0, cell_later hb3' x0⟩ ?_⟩
        clear HS
        intro HS
        simp only [Act.put, List.setIfInBounds_toArray, List.set_cons_zero, List.set_cons_succ]
        repeat (first | (apply wpPlan_look; rfl; rfl; (intro wq hq; (try dsimp only at hq); go_split_ands; go_simp; (try rw [if_neg (by omega)]); (try rw [if_pos (by omega)]); try with_reducible rfl); simp only [Act.put, List.setIfInBounds_toArray, List.set_cons_zero, List.set_cons_succ]) | (apply wpPlan_skip; rfl; rfl; simp only [Act.put, List.setIfInBounds_toArray, List.set_cons_zero, List.set_cons_succ]) | (apply wpPlan_pass; rfl; rfl; assumption; simp only [Act.put, List.setIfInBounds_toArray, List.set_cons_zero, List.set_cons_succ]))
        apply wpPlan_done
        have HB5 := Lib.hid (below_later hb3' HB.out)
        clear HS hb3 hb3' k0 x0
        go_wp2_with fail
        rw [bs_app]
        go_roundw
        case rel => exact ⟨0 + 1, r, (d) ++ kidT (Pt.asked x.kind 0) y ky, by simp only [Tr.F.cnt] at hkr; omega, by go_num, rfl, Lib.hid (by have := HD.out; rw [kids_cons, HZ.out] at this; rw [← this]; simp), Lib.hid HA.out.2, HRQ, HB5⟩
        case measure => simp [intOf]; omega
      · have HZ : Hid (Pt.sep x k = Pt.sep x 1) := Lib.hid (HS1.out k hk0)
        have hkp : 0 < k := by omega
        have hds2 : (bs (d ++ Pt.sep x 1)).size ≤ 1000000006 := by rw [bs_size, List.length_append]; rw [bs_size] at hds hss; omega
        go_wp2_with fail
        rw [bs_app]
        refine wp_region_plan (S := fun w' => w'.cell? ⟨gk, k, none⟩ = some (.int .i64 q) ∧ w'.cell? ⟨w.heap.size, 0, none⟩ = some (.int .i8 x.kind))
          [(0, true), (1, true), (2, true), (3, true), (4, true), (5, true), (6, true), (7, true), (8, true), (9, false), (10, false), (11, true), (12, true)] (by kernel_rfl) (by kernel_rfl) (by kernel_rfl) (fun _ _ _ _ _ h => h) ⟨k0, x0⟩ ?_
        intro HS
        repeat (first | (apply wpPlan_look; rfl; rfl; (intro wq hq; (try dsimp only at hq); go_split_ands; go_simp; (try rw [if_neg (by omega)]); (try rw [if_pos (by omega)]); try with_reducible rfl); simp only [Act.put, List.setIfInBounds_toArray, List.set_cons_zero, List.set_cons_succ]) | (apply wpPlan_skip; rfl; rfl; simp only [Act.put, List.setIfInBounds_toArray, List.set_cons_zero, List.set_cons_succ]) | (apply wpPlan_pass; rfl; rfl; assumption; simp only [Act.put, List.setIfInBounds_toArray, List.set_cons_zero, List.set_cons_succ]))
        apply wpPlan_call; rfl; rfl; rfl; rfl; kernel_rfl; exact HASK.out _; rfl; rintro e w' ⟨rfl, rfl⟩
        refine ⟨_, rfl, as_S ⟨k0, x0⟩ ?_⟩
        clear HS
        intro HS
        simp only [Act.put, List.setIfInBounds_toArray, List.set_cons_zero, List.set_cons_succ]
        repeat (first | (apply wpPlan_look; rfl; rfl; (intro wq hq; (try dsimp only at hq); go_split_ands; go_simp; (try rw [if_neg (by omega)]); (try rw [if_pos (by omega)]); try with_reducible rfl); simp only [Act.put, List.setIfInBounds_toArray, List.set_cons_zero, List.set_cons_succ]) | (apply wpPlan_skip; rfl; rfl; simp only [Act.put, List.setIfInBounds_toArray, List.set_cons_zero, List.set_cons_succ]) | (apply wpPlan_pass; rfl; rfl; assumption; simp only [Act.put, List.setIfInBounds_toArray, List.set_cons_zero, List.set_cons_succ]))
        apply wpPlan_call; rfl; rfl; rfl; rfl; kernel_rfl; exact HKID.out _ HBR.out.drew; rfl; rintro e w3 ⟨rfl, hb3⟩
        have hb3' : Below wr.heap.size wr w3 := ((Below.refl wr.heap.size wr).drew).trans (hb3.mono (Nat.le_refl _))
        refine ⟨_, rfl, as_S ⟨cell_later hb3' k0, cell_later hb3' x0⟩ ?_⟩
        clear HS
        intro HS
        simp only [Act.put, List.setIfInBounds_toArray, List.set_cons_zero, List.set_cons_succ]
        repeat (first | (apply wpPlan_look; rfl; rfl; (intro wq hq; (try dsimp only at hq); go_split_ands; go_simp; (try rw [if_neg (by omega)]); (try rw [if_pos (by omega)]); try with_reducible rfl); simp only [Act.put, List.setIfInBounds_toArray, List.set_cons_zero, List.set_cons_succ]) | (apply wpPlan_skip; rfl; rfl; simp only [Act.put, List.setIfInBounds_toArray, List.set_cons_zero, List.set_cons_succ]) | (apply wpPlan_pass; rfl; rfl; assumption; simp only [Act.put, List.setIfInBounds_toArray, List.set_cons_zero, List.set_cons_succ]))
        apply wpPlan_done
        have HB5 := Lib.hid (below_later hb3' HB.out)
        clear HS hb3 hb3' k0 x0
        go_wp2_with fail
        rw [bs_app]
        go_roundw
        case rel => exact ⟨k + 1, r, (d ++ Pt.sep x 1) ++ kidT (Pt.asked x.kind k) y ky, by simp only [Tr.F.cnt] at hkr; omega, by go_num, rfl, Lib.hid (by have := HD.out; rw [kids_cons, HZ.out] at this; rw [← this]; simp), Lib.hid HA.out.2, HRQ, HB5⟩
        case measure => simp [intOf]; omega
end
/-- What Part does with all parts of a forest. -/
theorem rall_parts (T : List Nd) (tv : Value) (w0 : World) (hn : Nodes w0 tv T) (hTl : T.length ≤ 1000000) (hz : ∀ x ∈ T, x.s.size ≤ 140737488351232 ∧ x.n ≤ 9223372036854775807) : ∀ (f : Tr.F), f.Ok → (∀ x ∈ f.flat, Tr.may x = true) → RAll T tv w0 f
  | .nil, _, _ => trivial
  | .cons x ks r, hO, hm => by
    have hA := rall_parts T tv w0 hn hTl hz ks hO.2.1 (fun y hy => hm y (by simp [Tr.F.flat, hy]))
    have hmx := hm x (by simp [Tr.F.flat])
    refine ⟨?_, rall_parts T tv w0 hn hTl hz r hO.2.2 (fun y hy => hm y (by simp [Tr.F.flat, hy]))⟩
    by_cases hk : x.kind = 9
    · exact rpart_if T tv w0 hn hTl hz x ks hmx ⟨hO.1, hO.2.1, trivial⟩ hA hk
    · exact rpart_rest T tv w0 hn hTl hz x ks hmx ⟨hO.1, hO.2.1, trivial⟩ hA hk
end Go.Proofs.YtacihffkjadbbaaGreatDoor

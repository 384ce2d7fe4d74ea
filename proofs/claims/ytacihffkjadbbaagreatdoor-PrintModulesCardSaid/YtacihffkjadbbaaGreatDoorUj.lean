
/- Walks of the printer: functions, bindings. -/
import Derived.Test.YtacihffkjadbbaaGreatDoorUi
namespace Go.Proofs.YtacihffkjadbbaaGreatDoor
set_option linter.unusedSimpArgs false
set_option linter.unusedVariables false
open Go.RowKit Culp
section
variable (w0 : World) (lv : Value) (L : List Nd) (hN : Nodes w0 lv L)
include hN
set_option maxRecDepth 100000 in
set_option maxHeartbeats 6400000 in
theorem wide_fn (x y : Nd) (ky : Tr.F) (hk : x.kind = 5) (ht : x.t.size = 0 ∨ isTy x.t.data.toList = true) (hu : x.u.size = 0 ∨ isTy x.u.data.toList = true) (hY : NodeP w0 lv L y ky) : WideP w0 lv L x (.cons y ky .nil) := by
  intro b o bs w1 l i p v w h hR hl
  have hb1 : Below w.heap.size w (w.alloc (.cells x.cells.toArray 41)) := (Below.refl _ _).alloc (Nat.le_refl _) _
  have hX : ∀ j u, x.cells[j]? = some u → (w.alloc (.cells x.cells.toArray 41)).cell? ⟨w.heap.size, j, none⟩ = some u := fun j u hj => by
    rw [Lib.cell_of_heap (heap_alloc_new w _)]
    simpa using hj
  have x3 := hX 3 _ rfl
  have x4 := hX 4 _ rfl
  have x5 := hX 5 _ rfl
  rw [part_fn hk] at hl ⊢
  simp only [List.length_append, List.length_cons, List.length_nil] at hl
  try rw [show x.s.data.toList.length = x.s.size from Array.length_toList] at hl
  have hne : w.heap.size ≠ b := by have := h.blt; omega
  have hno : v.ownBlock ≠ some w.heap.size := fun e => by have := h.vlt e; omega
  have HP1 := Lib.hid (h.later hb1)
  have HQ0 := Lib.hid (h.later hb1).rebase
  have HT := Lib.hid ht
  have HU := Lib.hid hu
  have HK := Lib.hid (kid_any w0 lv L hN 0 y ky hY)
  have HR1 : Hid (∃ R, L.drop i = (y :: ky.flat) ++ R) := Lib.hid (by obtain ⟨R, hR⟩ := hR; exact ⟨R, by rw [hR]; simp [Tr.F.flat]⟩)
  unfold Nd.val
  unfold Nd.cells at *
  rw [hk] at *
  clear h hR hb1 hN hY hk ht hu hX
  go_enter Tryz.func76, Tryz.ntmps76
  go_wp2_with fail
  generalize hwb : w.alloc (.cells _ 41) = wb at *
  have hbd : Below wb.heap.size wb wb.drew := (Below.refl _ _).drew
  refine wp_region_plan (S := fun w' => w'.cell? ⟨w.heap.size, 3, none⟩ = some (.string x.s) ∧ w'.cell? ⟨w.heap.size, 4, none⟩ = some (.string x.t) ∧ w'.cell? ⟨w.heap.size, 5, none⟩ = some (.string x.u))
    [(0, true), (1, true), (2, true), (3, true), (4, true), (6, true), (7, true), (5, false), (8, false), (9, false), (10, false)] (by kernel_rfl) (by kernel_rfl) (by kernel_rfl) (fun _ _ _ _ _ h => h) ⟨x3, x4, x5⟩ ?_
  intro HS
  repeat (first | (apply wpPlan_look; rfl; rfl; (intro wq hq; (try dsimp only at hq); go_split_ands; go_simp; (try rw [if_neg (by omega)]); (try rw [if_pos (by omega)]); try with_reducible rfl); simp only [Act.put, List.setIfInBounds_toArray, List.set_cons_zero, List.set_cons_succ]) | (apply wpPlan_skip; rfl; rfl; simp only [Act.put, List.setIfInBounds_toArray, List.set_cons_zero, List.set_cons_succ]) | (apply wpPlan_pass; rfl; rfl; assumption; simp only [Act.put, List.setIfInBounds_toArray, List.set_cons_zero, List.set_cons_succ]))
  apply wpPlan_call; rfl; rfl; rfl; rfl; kernel_rfl; exact note_any x.t HT.out _; rfl; rintro e w2 ⟨rfl, hb2⟩
  have hb2' : Below wb.heap.size wb w2 := hbd.trans (hb2.mono (Nat.le_refl _))
  refine ⟨_, rfl, as_S ⟨cell_later hb2' x3, cell_later hb2' x4, cell_later hb2' x5⟩ ?_⟩
  clear HS
  intro HS
  simp only [Act.put, List.setIfInBounds_toArray, List.set_cons_zero, List.set_cons_succ]
  repeat (first | (apply wpPlan_look; rfl; rfl; (intro wq hq; (try dsimp only at hq); go_split_ands; go_simp; (try rw [if_neg (by omega)]); (try rw [if_pos (by omega)]); try with_reducible rfl); simp only [Act.put, List.setIfInBounds_toArray, List.set_cons_zero, List.set_cons_succ]) | (apply wpPlan_skip; rfl; rfl; simp only [Act.put, List.setIfInBounds_toArray, List.set_cons_zero, List.set_cons_succ]) | (apply wpPlan_pass; rfl; rfl; assumption; simp only [Act.put, List.setIfInBounds_toArray, List.set_cons_zero, List.set_cons_succ]))
  apply wpPlan_call; rfl; rfl; rfl; rfl; kernel_rfl; exact note_any x.u HU.out _; rfl; rintro e w3 ⟨rfl, hb3⟩
  have hb3' : Below wb.heap.size wb w3 := hb2'.trans (hb3.mono hb2'.size)
  refine ⟨_, rfl, as_S ⟨cell_later hb3' x3, cell_later hb3' x4, cell_later hb3' x5⟩ ?_⟩
  clear HS
  intro HS
  simp only [Act.put, List.setIfInBounds_toArray, List.set_cons_zero, List.set_cons_succ]
  repeat (first | (apply wpPlan_look; rfl; rfl; (intro wq hq; (try dsimp only at hq); go_split_ands; go_simp; (try rw [if_neg (by omega)]); (try rw [if_pos (by omega)]); try with_reducible rfl); simp only [Act.put, List.setIfInBounds_toArray, List.set_cons_zero, List.set_cons_succ]) | (apply wpPlan_skip; rfl; rfl; simp only [Act.put, List.setIfInBounds_toArray, List.set_cons_zero, List.set_cons_succ]) | (apply wpPlan_pass; rfl; rfl; assumption; simp only [Act.put, List.setIfInBounds_toArray, List.set_cons_zero, List.set_cons_succ]))
  refine wpPlan_run rfl rfl (by simp [execOp, go_sem, build_s6]; exact ⟨rfl, rfl⟩) _ (fun _ h => h) ⟨cell_later ((Below.refl _ _).alloc (Nat.le_refl _) _) HS.1, cell_later ((Below.refl _ _).alloc (Nat.le_refl _) _) HS.2.1, cell_later ((Below.refl _ _).alloc (Nat.le_refl _) _) HS.2.2⟩ ?_
  simp only [Act.put, List.setIfInBounds_toArray, List.set_cons_zero, List.set_cons_succ]
  apply wpPlan_call; rfl; rfl; rfl; rfl; kernel_rfl; exact put_lit [⟨#[102, 110, 32, 40]⟩, x.s, ⟨(Pt.note x.t).toArray⟩, ⟨#[41]⟩, ⟨(Pt.note x.u).toArray⟩, ⟨#[32, 61, 62, 32]⟩] _ (HQ0.out.later hb3') (by simp [cat, Lib.byteCells]; omega) (by simp) (by simp); rfl; rintro e w4 ⟨rfl, v4, h4⟩
  refine ⟨_, rfl, as_S ⟨h4.kept x3 hne hno, h4.kept x4 hne hno, h4.kept x5 hne hno⟩ ?_⟩
  clear HS
  intro HS
  simp only [Act.put, List.setIfInBounds_toArray, List.set_cons_zero, List.set_cons_succ]
  apply wpPlan_done
  have HP4 := Lib.hid h4
  clear HS h4 x3 x4 x5 hb2 hb3 hb2' hb3' hbd HQ0
  go_wp2_with fail
  refine (HK.out _ _ _ _ _ _ _ _ _ HP4.out HR1.out (by simp [cat, Lib.byteCells]; omega)).mono ?_
  rintro e w5 ⟨rfl, v5, h5⟩
  have HP5 := Lib.hid (HP1.out.join h5)
  clear h5
  go_wp2_with fail
  go_end0
  refine ⟨rfl, v5, ?_⟩
  simp only [Tr.F.flat, List.append_nil, List.length_cons]
  rw [Nat.add_comm ky.flat.length 1]
  simpa [cat] using HP5.out
set_option maxRecDepth 100000 in
set_option maxHeartbeats 6400000 in
theorem wide_let (x y z : Nd) (ky kz : Tr.F) (hk : x.kind = 8) (ht : x.t.size = 0 ∨ isTy x.t.data.toList = true) (hY : NodeP w0 lv L y ky) (hZ : NodeP w0 lv L z kz) : WideP w0 lv L x (.cons y ky (.cons z kz .nil)) := by
  intro b o bs w1 l i p v w h hR hl
  have hb1 : Below w.heap.size w (w.alloc (.cells x.cells.toArray 41)) := (Below.refl _ _).alloc (Nat.le_refl _) _
  have hX : ∀ j u, x.cells[j]? = some u → (w.alloc (.cells x.cells.toArray 41)).cell? ⟨w.heap.size, j, none⟩ = some u := fun j u hj => by
    rw [Lib.cell_of_heap (heap_alloc_new w _)]
    simpa using hj
  have x3 := hX 3 _ rfl
  have x4 := hX 4 _ rfl
  have x5 := hX 5 _ rfl
  rw [part_let hk] at hl ⊢
  simp only [List.length_append, List.length_cons, List.length_nil] at hl
  try rw [show x.s.data.toList.length = x.s.size from Array.length_toList] at hl
  have hne : w.heap.size ≠ b := by have := h.blt; omega
  have hno : v.ownBlock ≠ some w.heap.size := fun e => by have := h.vlt e; omega
  have HP1 := Lib.hid (h.later hb1)
  have HQ0 := Lib.hid (h.later hb1).rebase
  have HT := Lib.hid ht
  have HK2 := Lib.hid (kid_any w0 lv L hN 0 z kz hZ)
  have HK := Lib.hid (kid_any w0 lv L hN 0 y ky hY)
  have HR1 : Hid (∃ R, L.drop i = (y :: ky.flat) ++ R) := Lib.hid (by obtain ⟨R, hR⟩ := hR; exact ⟨(z :: kz.flat) ++ R, by rw [hR]; simp [Tr.F.flat]⟩)
  have HR2 : Hid (∃ R, L.drop (i + (1 + ky.flat.length)) = (z :: kz.flat) ++ R) := Lib.hid (by
    obtain ⟨R, hR⟩ := hR
    obtain ⟨R, h⟩ := drop_step (L := L) (i := i) (y := y) (z := z) (ky := ky) (kz := kz) (r := .cons z kz .nil) ⟨R, by rw [hR]; simp [Tr.F.flat]⟩
    exact ⟨R, by rw [h]; simp [Tr.F.flat]⟩)
  unfold Nd.val
  unfold Nd.cells at *
  rw [hk] at *
  clear h hR hb1 hN hY hZ hk ht hX x5
  go_enter Tryz.func76, Tryz.ntmps76
  go_wp2_with fail
  generalize hwb : w.alloc (.cells _ 41) = wb at *
  have hbd : Below wb.heap.size wb wb.drew := (Below.refl _ _).drew
  refine wp_region_plan (S := fun w' => w'.cell? ⟨w.heap.size, 3, none⟩ = some (.string x.s) ∧ w'.cell? ⟨w.heap.size, 4, none⟩ = some (.string x.t))
    [(0, true), (1, true), (2, true), (3, true), (4, true), (5, false), (6, false), (7, false)] (by kernel_rfl) (by kernel_rfl) (by kernel_rfl) (fun _ _ _ _ _ h => h) ⟨x3, x4⟩ ?_
  intro HS
  repeat (first | (apply wpPlan_look; rfl; rfl; (intro wq hq; (try dsimp only at hq); go_split_ands; go_simp; (try rw [if_neg (by omega)]); (try rw [if_pos (by omega)]); try with_reducible rfl); simp only [Act.put, List.setIfInBounds_toArray, List.set_cons_zero, List.set_cons_succ]) | (apply wpPlan_skip; rfl; rfl; simp only [Act.put, List.setIfInBounds_toArray, List.set_cons_zero, List.set_cons_succ]) | (apply wpPlan_pass; rfl; rfl; assumption; simp only [Act.put, List.setIfInBounds_toArray, List.set_cons_zero, List.set_cons_succ]))
  apply wpPlan_call; rfl; rfl; rfl; rfl; kernel_rfl; exact note_any x.t HT.out _; rfl; rintro e w3 ⟨rfl, hb3⟩
  have hb3' : Below wb.heap.size wb w3 := hbd.trans (hb3.mono (Nat.le_refl _))
  refine ⟨_, rfl, as_S ⟨cell_later hb3' x3, cell_later hb3' x4⟩ ?_⟩
  clear HS
  intro HS
  simp only [Act.put, List.setIfInBounds_toArray, List.set_cons_zero, List.set_cons_succ]
  repeat (first | (apply wpPlan_look; rfl; rfl; (intro wq hq; (try dsimp only at hq); go_split_ands; go_simp; (try rw [if_neg (by omega)]); (try rw [if_pos (by omega)]); try with_reducible rfl); simp only [Act.put, List.setIfInBounds_toArray, List.set_cons_zero, List.set_cons_succ]) | (apply wpPlan_skip; rfl; rfl; simp only [Act.put, List.setIfInBounds_toArray, List.set_cons_zero, List.set_cons_succ]) | (apply wpPlan_pass; rfl; rfl; assumption; simp only [Act.put, List.setIfInBounds_toArray, List.set_cons_zero, List.set_cons_succ]))
  refine wpPlan_run rfl rfl (by simp [execOp, go_sem, build_s4]; exact ⟨rfl, rfl⟩) _ (fun _ h => h) ⟨cell_later ((Below.refl _ _).alloc (Nat.le_refl _) _) HS.1, cell_later ((Below.refl _ _).alloc (Nat.le_refl _) _) HS.2⟩ ?_
  simp only [Act.put, List.setIfInBounds_toArray, List.set_cons_zero, List.set_cons_succ]
  apply wpPlan_call; rfl; rfl; rfl; rfl; kernel_rfl; exact put_lit [⟨#[108, 101, 116, 32]⟩, x.s, ⟨(Pt.note x.t).toArray⟩, ⟨#[32, 61, 32]⟩] _ (HQ0.out.later hb3') (by simp [cat, Lib.byteCells]; omega) (by simp) (by simp); rfl; rintro e w4 ⟨rfl, v4, h4⟩
  refine ⟨_, rfl, as_S ⟨h4.kept x3 hne hno, h4.kept x4 hne hno⟩ ?_⟩
  clear HS
  intro HS
  simp only [Act.put, List.setIfInBounds_toArray, List.set_cons_zero, List.set_cons_succ]
  apply wpPlan_done
  have HP4 := Lib.hid h4
  clear HS h4 x3 x4 hb3 hb3' hbd HQ0
  go_wp2_with fail
  refine (HK.out _ _ _ _ _ _ _ _ _ HP4.out HR1.out (by simp [cat, Lib.byteCells]; omega)).mono ?_
  rintro e w5 ⟨rfl, v5, h5⟩
  have HP5 := Lib.hid h5
  clear h5 HP4
  go_wp2_with fail
  refine (put_lit [⟨#[32, 105, 110, 32]⟩] _ HP5.out (by simp [cat, Lib.byteCells]; omega) (by decide) (by decide)).mono ?_
  rintro e w6 ⟨rfl, v6, h6⟩
  have HP6 := Lib.hid h6
  clear h6 HP5
  go_wp2_with fail
  refine (HK2.out _ _ _ _ _ _ _ _ _ HP6.out HR2.out (by simp [cat, Lib.byteCells]; omega)).mono ?_
  rintro e w7 ⟨rfl, v7, h7⟩
  have HP7 := Lib.hid (HP1.out.join h7)
  clear h7
  go_wp2_with fail
  go_end0
  refine ⟨rfl, v7, ?_⟩
  simp only [Tr.F.flat, List.append_nil, List.length_cons, List.length_append]
  have e : i + (1 + ky.flat.length) + (1 + kz.flat.length) = i + (ky.flat.length + (kz.flat.length + 1) + 1) := by omega
  rw [← e]
  simpa [cat] using HP7.out
set_option maxRecDepth 100000 in
set_option maxHeartbeats 6400000 in
theorem wide_rec (x y : Nd) (ky : Tr.F) (hk : x.kind = 6) {f a : List UInt8} (h2 : Tr.two x.s.data.toList = some (f, a)) (hs : x.s.size ≤ 1000000000000000) (ht : x.t.size = 0 ∨ isTy x.t.data.toList = true) (hu : x.u.size = 0 ∨ isTy x.u.data.toList = true) (hY : NodeP w0 lv L y ky) : WideP w0 lv L x (.cons y ky .nil) := by
  intro b o bz w1 l i p v w h hR hl
  have hb1 : Below w.heap.size w (w.alloc (.cells x.cells.toArray 41)) := (Below.refl _ _).alloc (Nat.le_refl _) _
  have hX : ∀ j u, x.cells[j]? = some u → (w.alloc (.cells x.cells.toArray 41)).cell? ⟨w.heap.size, j, none⟩ = some u := fun j u hj => by
    rw [Lib.cell_of_heap (heap_alloc_new w _)]
    simpa using hj
  have x3 := hX 3 _ rfl
  have x4 := hX 4 _ rfl
  have x5 := hX 5 _ rfl
  rw [part_rec hk h2] at hl ⊢
  simp only [List.length_append, List.length_cons, List.length_nil] at hl
  try rw [show x.s.data.toList.length = x.s.size from Array.length_toList] at hl
  have hne : w.heap.size ≠ b := by have := h.blt; omega
  have hno : v.ownBlock ≠ some w.heap.size := fun e => by have := h.vlt e; omega
  have HP1 := Lib.hid (h.later hb1)
  have HQ0 := Lib.hid (h.later hb1).rebase
  have HT := Lib.hid ht
  have HU := Lib.hid hu
  have HC := Lib.hid (cut_any x.s · hs)
  rw [cutV_some h2] at HC
  have HK := Lib.hid (kid_any w0 lv L hN 0 y ky hY)
  have HR1 : Hid (∃ R, L.drop i = (y :: ky.flat) ++ R) := Lib.hid (by obtain ⟨R, hR⟩ := hR; exact ⟨R, by rw [hR]; simp [Tr.F.flat]⟩)
  unfold Nd.val
  unfold Nd.cells at *
  rw [hk] at *
  clear h hR hb1 hN hY hk ht hu hX h2 hs
  go_enter Tryz.func76, Tryz.ntmps76
  go_wp2_with fail
  refine (HC.out _).mono ?_
  rintro e wc ⟨rfl, hbc⟩
  generalize hwb : w.alloc (.cells _ 41) = wb at *
  go_wp2_with fail
  have y4 := cell_later hbc x4
  have y5 := cell_later hbc x5
  have hbd : Below wb.heap.size wb wc.drew := hbc.drew
  refine wp_region_plan (S := fun w' => w'.cell? ⟨w.heap.size, 4, none⟩ = some (.string x.t) ∧ w'.cell? ⟨w.heap.size, 5, none⟩ = some (.string x.u))
    [(0, true), (1, true), (2, true), (3, true), (4, true), (6, true), (7, true), (5, false), (8, false), (9, false), (10, false)] (by kernel_rfl) (by kernel_rfl) (by kernel_rfl) (fun _ _ _ _ _ h => h) ⟨y4, y5⟩ ?_
  intro HS
  repeat (first | (apply wpPlan_look; rfl; rfl; (intro wq hq; (try dsimp only at hq); go_split_ands; go_simp; (try rw [if_neg (by omega)]); (try rw [if_pos (by omega)]); try with_reducible rfl); simp only [Act.put, List.setIfInBounds_toArray, List.set_cons_zero, List.set_cons_succ]) | (apply wpPlan_skip; rfl; rfl; simp only [Act.put, List.setIfInBounds_toArray, List.set_cons_zero, List.set_cons_succ]) | (apply wpPlan_pass; rfl; rfl; assumption; simp only [Act.put, List.setIfInBounds_toArray, List.set_cons_zero, List.set_cons_succ]))
  apply wpPlan_call; rfl; rfl; rfl; rfl; kernel_rfl; exact note_any x.t HT.out _; rfl; rintro e w2 ⟨rfl, hb2⟩
  have hb2' : Below wb.heap.size wb w2 := hbd.trans (hb2.mono hbd.size)
  refine ⟨_, rfl, as_S ⟨cell_later hb2' x4, cell_later hb2' x5⟩ ?_⟩
  clear HS
  intro HS
  simp only [Act.put, List.setIfInBounds_toArray, List.set_cons_zero, List.set_cons_succ]
  repeat (first | (apply wpPlan_look; rfl; rfl; (intro wq hq; (try dsimp only at hq); go_split_ands; go_simp; (try rw [if_neg (by omega)]); (try rw [if_pos (by omega)]); try with_reducible rfl); simp only [Act.put, List.setIfInBounds_toArray, List.set_cons_zero, List.set_cons_succ]) | (apply wpPlan_skip; rfl; rfl; simp only [Act.put, List.setIfInBounds_toArray, List.set_cons_zero, List.set_cons_succ]) | (apply wpPlan_pass; rfl; rfl; assumption; simp only [Act.put, List.setIfInBounds_toArray, List.set_cons_zero, List.set_cons_succ]))
  apply wpPlan_call; rfl; rfl; rfl; rfl; kernel_rfl; exact note_any x.u HU.out _; rfl; rintro e w3 ⟨rfl, hb3⟩
  have hb3' : Below wb.heap.size wb w3 := hb2'.trans (hb3.mono hb2'.size)
  refine ⟨_, rfl, as_S ⟨cell_later hb3' x4, cell_later hb3' x5⟩ ?_⟩
  clear HS
  intro HS
  simp only [Act.put, List.setIfInBounds_toArray, List.set_cons_zero, List.set_cons_succ]
  repeat (first | (apply wpPlan_look; rfl; rfl; (intro wq hq; (try dsimp only at hq); go_split_ands; go_simp; (try rw [if_neg (by omega)]); (try rw [if_pos (by omega)]); try with_reducible rfl); simp only [Act.put, List.setIfInBounds_toArray, List.set_cons_zero, List.set_cons_succ]) | (apply wpPlan_skip; rfl; rfl; simp only [Act.put, List.setIfInBounds_toArray, List.set_cons_zero, List.set_cons_succ]) | (apply wpPlan_pass; rfl; rfl; assumption; simp only [Act.put, List.setIfInBounds_toArray, List.set_cons_zero, List.set_cons_succ]))
  refine wpPlan_run rfl rfl (by simp [execOp, go_sem, build_s8]; exact ⟨rfl, rfl⟩) _ (fun _ h => h) ⟨cell_later ((Below.refl _ _).alloc (Nat.le_refl _) _) HS.1, cell_later ((Below.refl _ _).alloc (Nat.le_refl _) _) HS.2⟩ ?_
  simp only [Act.put, List.setIfInBounds_toArray, List.set_cons_zero, List.set_cons_succ]
  apply wpPlan_call; rfl; rfl; rfl; rfl; kernel_rfl; exact put_lit [⟨#[114, 101, 99, 32]⟩, bs f, ⟨#[32, 40]⟩, bs a, ⟨(Pt.note x.t).toArray⟩, ⟨#[41]⟩, ⟨(Pt.note x.u).toArray⟩, ⟨#[32, 61, 62, 32]⟩] _ (HQ0.out.later hb3') (by simp [cat, Lib.byteCells, bs]; omega) (by simp) (by simp); rfl; rintro e w4 ⟨rfl, v4, h4⟩
  refine ⟨_, rfl, as_S ⟨h4.kept x4 hne hno, h4.kept x5 hne hno⟩ ?_⟩
  clear HS
  intro HS
  simp only [Act.put, List.setIfInBounds_toArray, List.set_cons_zero, List.set_cons_succ]
  apply wpPlan_done
  have HP4 := Lib.hid h4
  clear HS h4 x3 x4 x5 y4 y5 hbc hb2 hb3 hb2' hb3' hbd HQ0
  go_wp2_with fail
  refine (HK.out _ _ _ _ _ _ _ _ _ HP4.out HR1.out (by simp [cat, bs, Lib.byteCells]; omega)).mono ?_
  rintro e w5 ⟨rfl, v5, h5⟩
  have HP5 := Lib.hid (HP1.out.join h5)
  clear h5
  go_wp2_with fail
  go_end0
  refine ⟨rfl, v5, ?_⟩
  simp only [Tr.F.flat, List.append_nil, List.length_cons]
  rw [Nat.add_comm ky.flat.length 1]
  simpa [cat, bs] using HP5.out
end
end Go.Proofs.YtacihffkjadbbaaGreatDoor


/- Walks of parse: the token that is next; what passes over it. -/
import Derived.Test.YtnhdbjhdmdefmaaDoorZc
namespace Culp.Gr
set_option linter.unusedSimpArgs false
set_option linter.unusedVariables false
open Go Go.RowKit Culp Culp.Tr Go.Proofs.YtnhdbjhdmdefmaaDoor
def kd (L : List Tok) (i : Nat) : Nat := match L[i]? with
  | some (t, _) => t.kind
  | none => 0
/-- The token that is next. -/
def tokC (L : List Tok) (e : Nat × Nat) (i : Nat) : Array Value := #[.int .i8 (kd L i : Nat), .int .i64 (num L i : Nat), .string (by_ (txt L i)), .int .i64 ((here L e i).1 : Nat), .int .i64 ((here L e i).2 : Nat)]
theorem isM_kd (L : List Tok) (s : List UInt8) (i : Nat) : isM L s i = ((kd L i == 1 || kd L i == 5) && txt L i == s) := by
  unfold isM kd txt
  cases L[i]? with
  | none => rfl
  | some x => rfl
theorem isK_kd (L : List Tok) {k : Nat} (i : Nat) (hk : k ≠ 0) : isK L k i = (kd L i == k) := by
  unfold isK kd
  cases L[i]? with
  | none => exact (beq_eq_false_iff_ne.2 (fun h => hk h.symm)).symm
  | some x => rfl
/-- The token behind, if it was passed over. -/
def adv (L : List Tok) (s : List UInt8) (i : Nat) : Nat := if isM L s i then i + 1 else i
theorem adv_yes {L : List Tok} {s : List UInt8} {i : Nat} (h : isM L s i = true) : adv L s i = i + 1 := by unfold adv; rw [if_pos h]
theorem adv_no {L : List Tok} {s : List UInt8} {i : Nat} (h : isM L s i = false) : adv L s i = i := by unfold adv; rw [if_neg (by rw [h]; simp)]
theorem setRow_blk {w : World} {g : Nat} {cs cs' : Array Value} {t : TypeId} (h : Blk g cs t w) : Blk g cs' t (w.setRow g cs') := by
  unfold Blk at *
  unfold World.setRow
  simp only [Array.getElem?_modify, if_true, h, Option.map_some]
theorem setRow_heap_ne {w : World} {g b : Nat} {cs : Array Value} (h : b ≠ g) : (w.setRow g cs).heap[b]? = w.heap[b]? := by
  unfold World.setRow
  simp only [Array.getElem?_modify, if_neg (fun e => h (Eq.symm e))]
theorem setRow_below {w W : World} {B g : Nat} {cs : Array Value} (h : Below B W w) (hg : B ≤ g) : Below B W (w.setRow g cs) :=
  ⟨h.os, h.tape, h.output, by show _ ≤ (w.heap.modify g _).size; rw [Array.size_modify]; exact h.size, fun b hb => by rw [setRow_heap_ne (by omega)]; exact h.block b hb⟩
theorem row_cell {w : World} {g b o : Nat} {v : Value} {cs : Array Value} (h : w.cell? ⟨b, o, none⟩ = some v) (hb : b ≠ g) : (w.drew.drew.setRow g cs).cell? ⟨b, o, none⟩ = some v := by
  exact (World.cell?_of_block (a := ⟨b, o, none⟩) (show (w.drew.drew.setRow g cs).heap[b]? = w.heap[b]? from setRow_heap_ne hb)).trans h
theorem own_setRow {w : World} {B g n size : Nat} {t : TypeId} {v : Value} {xs : List Value} {cs : Array Value} (h : w.ownsRow B t size v n xs) (hn : v.ownBlock ≠ some g) : (w.setRow g cs).ownsRow B t size v n xs := by
  refine ⟨h.1, ?_⟩
  rcases h.2 with h2 | ⟨g', cap, cur, rfl, hb, hh, h3⟩
  · exact .inl h2
  · refine .inr ⟨g', cap, cur, rfl, hb, ?_, h3⟩
    rw [setRow_heap_ne (fun e => hn (by rw [← e]; rfl))]; exact hh
theorem blk_setRow {w : World} {g b : Nat} {t : TypeId} {cs cs' : Array Value} (h : Blk b cs t w) (hn : b ≠ g) : Blk b cs t (w.setRow g cs') := by
  unfold Blk at *
  rw [setRow_heap_ne hn]; exact h
section
variable {pb B i : Nat} {L : List Tok} {tv lv : Value} {e : Nat × Nat} {lg : List Nat} {w w1 w2 : World} {g : Nat} {t : TypeId} {cs : Array Value}
theorem PS.row (h : PS pb B L tv e i lg lv w) (h1 : g ≠ pb) (h2 : tv.ownBlock ≠ some g) (h3 : lv.ownBlock ≠ some g) : PS pb B L tv e i lg lv (w.setRow g cs) := { h with
  blk := blk_setRow h.blk (fun e => h1 e.symm)
  toks := own_setRow h.toks h2
  lrow := own_setRow h.lrow h3 }
theorem keepN_blk {a : Nat} {o : Option Nat} (k : KeepN a o w w1) (h : Blk g cs t w) (h1 : g ≠ a) (h2 : o ≠ some g) : Blk g cs t w1 := (k.block g h.lt h1 h2).trans h
theorem keepN_row {a : Nat} {o : Option Nat} (k : KeepN a o w w1) (hg : w.heap.size ≤ g) : KeepN a o w (w1.setRow g cs) :=
  ⟨k.os, k.tape, k.output, by show _ ≤ (w1.heap.modify g _).size; rw [Array.size_modify]; exact k.size, fun b hb h1 h2 => by rw [setRow_heap_ne (by omega)]; exact k.block b hb h1 h2⟩
/-- A block of another kind lies elsewhere. -/
theorem PS.ne (h : PS pb B L tv e i lg lv w) (hb : Blk g cs t w) (h1 : t ≠ 64) : g ≠ pb := fun e => by
  subst e
  have := h.blk
  unfold Blk at this hb
  rw [this] at hb
  simp only [Option.some.injEq, Obj.cells.injEq] at hb
  exact h1 hb.2.1.symm
theorem PS.nel (h : PS pb B L tv e i lg lv w) (hb : Blk g cs t w) (h1 : t ≠ 25) : lv.ownBlock ≠ some g := own_type_ne h.lrow hb (fun e => h1 e.symm)
end
end Culp.Gr
namespace Go.Proofs.YtnhdbjhdmdefmaaDoor
set_option linter.unusedSimpArgs false
set_option linter.unusedVariables false
open Go.RowKit Culp Culp.Gr
theorem ptok_size : (Tryd.prog.info? 60).map (·.size) = some 5 := by kernel_rfl

section
variable {pb B i : Nat} {L : List Tok} {tv lv : Value} {e : Nat × Nat} {lg : List Nat} {w : World}
set_option maxRecDepth 100000 in
set_option maxHeartbeats 1600000 in
theorem here_any (h : PS pb B L tv e i lg lv w) : Calls Tryd.prog 29 #[.pointer (some ⟨pb, 0, none⟩)] w (fun E w' => E = .returned (.agg (tokC L e i)) ∧ Below w.heap.size w w') := by
  have hle := h.le
  have hsm := h.small
  obtain ⟨Av, cv, rfl⟩ := own_shape h.toks
  obtain ⟨Al, cl, rfl⟩ := own_shape h.lrow
  have hb1 : Below w.heap.size w (w.alloc (.cells #[.int .i8 0, .int .i64 0, .string { data := #[] }, .int .i64 0, .int .i64 0] 60)) := (Below.refl _ _).alloc (Nat.le_refl _) _
  have h1 := h.later hb1
  have hk1 : Blk w.heap.size #[.int .i8 0, .int .i64 0, .string { data := #[] }, .int .i64 0, .int .i64 0] 60 (w.alloc (.cells #[.int .i8 0, .int .i64 0, .string { data := #[] }, .int .i64 0, .int .i64 0] 60)) := Blk.alloc _ _ _
  have c0 := h1.blk.cell (i := 0) rfl
  have c1 := h1.blk.cell (i := 1) rfl
  have c2 := h1.blk.cell (i := 2) rfl
  have c3 := h1.blk.cell (i := 3) rfl
  have HB1 := Lib.hid hb1
  have HK1 := Lib.hid hk1
  have hpb := h.blk.lt
  by_cases hlt : i < L.length
  · obtain ⟨⟨t, p⟩, hx⟩ : ∃ x, L[i]? = some x := ⟨_, List.getElem?_eq_getElem hlt⟩
    obtain ⟨g, c, etv, n0, n1, n2, n3, n4⟩ := h1.tok hx
    simp only [Value.slice.injEq] at etv
    obtain ⟨rfl, -, rfl⟩ := etv
    have hgl : g < w.heap.size := (h.toks.lt g rfl).2
    have HT : Hid (tokC L e i = #[.int .i8 (t.kind : Nat), .int .i64 (t.n : Nat), .string (by_ t.s), .int .i64 (p.1 : Nat), .int .i64 (p.2 : Nat)]) := Lib.hid (by
      simp only [tokC, kd, num, txt, here, hx])
    clear h h1 hb1 hk1 hx
    go_enter Tryd.func29, Tryd.ntmps29
    go_wp2_with fail
    generalize w.alloc (.cells #[.int .i8 0, .int .i64 0, .string { data := #[] }, .int .i64 0, .int .i64 0] 60) = w1 at *
    obtain ⟨gb, hgb⟩ : ∃ gb, gb = w.heap.size := ⟨_, rfl⟩
    rw [← hgb] at HK1 ⊢
    have HGB := Lib.hid hgb
    clear hgb
    refine wp_region_plan (S := fun w' => w'.cell? ⟨pb, 0, none⟩ = some (.slice (some ⟨g, 0, none⟩) L.length cv) ∧ w'.cell? ⟨pb, 1, none⟩ = some (.int .i64 i)) [(0, true), (1, true), (2, true), (3, true), (4, true), (5, true), (6, true), (7, true), (8, true), (9, true)] (by kernel_rfl) (by kernel_rfl) (by kernel_rfl) (fun _ _ _ _ _ h => h) ⟨c0, c1⟩ ?_
    intro HS
    repeat (first | (apply wpPlan_look; rfl; rfl; (intro wq hq; (try dsimp only at hq); go_split_ands; go_simp; (try rw [if_neg (by omega)]); (try rw [if_pos (by omega)]); try with_reducible rfl); simp only [Act.put, List.setIfInBounds_toArray, List.set_cons_zero, List.set_cons_succ]) | (apply wpPlan_skip; rfl; rfl; simp only [Act.put, List.setIfInBounds_toArray, List.set_cons_zero, List.set_cons_succ]) | (apply wpPlan_pass; rfl; rfl; assumption; simp only [Act.put, List.setIfInBounds_toArray, List.set_cons_zero, List.set_cons_succ]))
    apply wpPlan_done
    clear HS
    go_wp2_with fail
    refine wp_region_plan (S := fun w' => w'.cell? ⟨pb, 0, none⟩ = some (.slice (some ⟨g, 0, none⟩) L.length cv) ∧ w'.cell? ⟨pb, 1, none⟩ = some (.int .i64 i) ∧ w'.cell? ⟨g, i * 5, none⟩ = some (.int .i8 t.kind) ∧ w'.cell? ⟨g, i * 5 + 1, none⟩ = some (.int .i64 t.n) ∧ w'.cell? ⟨g, i * 5 + 2, none⟩ = some (.string (by_ t.s)) ∧ w'.cell? ⟨g, i * 5 + 3, none⟩ = some (.int .i64 p.1) ∧ w'.cell? ⟨g, i * 5 + 4, none⟩ = some (.int .i64 p.2)) [(0, true), (1, true), (2, true), (3, true), (4, true), (5, true), (6, true), (7, true), (8, true), (9, true), (10, false)] (by kernel_rfl) (by kernel_rfl) (by kernel_rfl) (fun _ _ _ _ _ h => h) ⟨c0, c1, n0, n1, n2, n3, n4⟩ ?_
    intro HS
    repeat (first | (apply wpPlan_look; rfl; rfl; (intro wq hq; (try dsimp only at hq); go_split_ands; go_simp; (try rw [if_neg (by omega)]); (try rw [if_pos (by omega)]); try with_reducible rfl); simp only [Act.put, List.setIfInBounds_toArray, List.set_cons_zero, List.set_cons_succ]) | (apply wpPlan_skip; rfl; rfl; simp only [Act.put, List.setIfInBounds_toArray, List.set_cons_zero, List.set_cons_succ]) | (apply wpPlan_pass; rfl; rfl; assumption; simp only [Act.put, List.setIfInBounds_toArray, List.set_cons_zero, List.set_cons_succ]))
    refine wpPlan_act rfl rfl (fun K hK => wp_store_row _ _ _ rfl gb #[.int .i8 t.kind, .int .i64 t.n, .string (by_ t.s), .int .i64 p.1, .int .i64 p.2] rfl rfl 60 _ HK1.out (by kernel_rfl) rfl (by simp [Value.oneCell']) (hK _ _ ⟨?_, ?_⟩))
    · have hp1 : pb ≠ gb := by have := HGB.out; omega
      have hg1 : g ≠ gb := by have := HGB.out; omega
      exact ⟨row_cell c0 hp1, row_cell c1 hp1, row_cell n0 hg1, row_cell n1 hg1, row_cell n2 hg1, row_cell n3 hg1, row_cell n4 hg1⟩
    simp only [Act.put, List.setIfInBounds_toArray, List.set_cons_zero, List.set_cons_succ]
    apply wpPlan_done
    clear HS
    have HR : Hid (Blk gb #[.int .i8 t.kind, .int .i64 t.n, .string (by_ t.s), .int .i64 p.1, .int .i64 p.2] 60 (w1.drew.drew.setRow gb #[.int .i8 t.kind, .int .i64 t.n, .string (by_ t.s), .int .i64 p.1, .int .i64 p.2])) := Lib.hid (setRow_blk (cs := #[.int .i8 0, .int .i64 0, .string { data := #[] }, .int .i64 0, .int .i64 0]) HK1.out)
    have HB2 : Hid (Below w.heap.size w (w1.drew.drew.setRow gb #[.int .i8 t.kind, .int .i64 t.n, .string (by_ t.s), .int .i64 p.1, .int .i64 p.2])) := Lib.hid (setRow_below HB1.out.drew.drew (by have := HGB.out; omega))
    clear c0 c1 c2 c3 n0 n1 n2 n3 n4
    generalize w1.drew.drew.setRow gb #[.int .i8 t.kind, .int .i64 t.n, .string (by_ t.s), .int .i64 p.1, .int .i64 p.2] = w2 at *
    go_wp2_with fail
    refine bodyPost_ret (results_cell_row rfl _ _ gb 60 _ (0, 0) _ rfl HR.out Tryd.underlying60 rfl ptok_size) rfl ⟨?_, HB2.out⟩
    rw [HT.out]
  · have hx : L[i]? = none := List.getElem?_eq_none (by omega)
    have HT : Hid (tokC L e i = #[.int .i8 0, .int .i64 0, .string { data := #[] }, .int .i64 (e.1 : Nat), .int .i64 (e.2 : Nat)]) := Lib.hid (by
      simp only [tokC, kd, num, txt, here, hx]; rfl)
    clear h h1 hb1 hk1 hx
    go_enter Tryd.func29, Tryd.ntmps29
    go_wp2_with fail
    refine wp_region_plan (S := fun w' => w'.cell? ⟨pb, 0, none⟩ = some (.slice Av L.length cv) ∧ w'.cell? ⟨pb, 1, none⟩ = some (.int .i64 i)) [(0, true), (1, true), (2, true), (3, true), (4, true), (5, true), (6, true), (7, true), (8, true), (9, true)] (by kernel_rfl) (by kernel_rfl) (by kernel_rfl) (fun _ _ _ _ _ h => h) ⟨c0, c1⟩ ?_
    intro HS
    repeat (first | (apply wpPlan_look; rfl; rfl; (intro wq hq; (try dsimp only at hq); go_split_ands; go_simp; (try rw [if_neg (by omega)]); (try rw [if_pos (by omega)]); try with_reducible rfl); simp only [Act.put, List.setIfInBounds_toArray, List.set_cons_zero, List.set_cons_succ]) | (apply wpPlan_skip; rfl; rfl; simp only [Act.put, List.setIfInBounds_toArray, List.set_cons_zero, List.set_cons_succ]) | (apply wpPlan_pass; rfl; rfl; assumption; simp only [Act.put, List.setIfInBounds_toArray, List.set_cons_zero, List.set_cons_succ]))
    apply wpPlan_done
    clear HS
    go_wp2_with fail
    refine bodyPost_ret (results_cell_row rfl _ _ w.heap.size 60 #[.int .i8 0, .int .i64 0, .string { data := #[] }, .int .i64 (e.1 : Nat), .int .i64 (e.2 : Nat)] (0, 0) _ rfl (heap_alloc_new w _) Tryd.underlying60 rfl ptok_size) rfl ⟨by rw [HT.out], ?_⟩
    exact ((Below.refl w.heap.size w).alloc (Nat.le_refl _) _).drew
theorem field_at (x0 x1 x2 x3 x4 : Value) (w : World) : (Instr.field 60 (.agg #[x0, x1, x2, x3, x4]) 3).run Tryd.prog w = .ok (.agg #[x3, x4]) w := by kernel_rfl
theorem field_s (x0 x1 x2 x3 x4 : Value) (w : World) (h : x2.cells = #[x2]) : (Instr.field 60 (.agg #[x0, x1, x2, x3, x4]) 2).run Tryd.prog w = .ok x2 w := by kernel_rfl
theorem kd_case (k : Nat) : k = 1 ∨ k = 5 ∨ (k ≠ 1 ∧ k ≠ 5) := by omega
theorem by_toList (l : List UInt8) : (by_ l).data.toList = l := rfl
theorem by_list (l : List UInt8) : (by_ l).toList = l := by rw [ByteArray.toList_eq]; rfl
theorem by_inj {a b : List UInt8} (h : by_ a = by_ b) : a = b := by
  have := congrArg (fun x => x.data.toList) h
  exact this
theorem by_eq (a b : List UInt8) : (by_ a == by_ b) = (a == b) := by
  by_cases h : a = b
  · subst h; simp
  · rw [beq_eq_false_iff_ne.2 h, beq_eq_false_iff_ne]
    exact fun e => h (by_inj e)
set_option maxRecDepth 100000 in
set_option maxHeartbeats 1600000 in
theorem fail_any (h : PS pb B L tv e i lg lv w) : Calls Tryd.prog 28 #[.pointer (some ⟨pb, 0, none⟩)] w (fun E w' => E = .panicked (refV (here L e i)) ∧ Below w.heap.size w w') := by
  have HH := Lib.hid (here_any h)
  clear h
  go_enter Tryd.func28, Tryd.ntmps28
  go_wp2_with fail
  refine HH.out.mono ?_
  rintro E w1 ⟨rfl, hb1⟩
  have HB1 := Lib.hid hb1
  clear hb1
  unfold tokC
  have hf3 := @field_at
  go_wp2_with fail
  exact ⟨rfl, rfl, HB1.out⟩
set_option maxRecDepth 100000 in
set_option maxHeartbeats 1600000 in
theorem sees_any (h : PS pb B L tv e i lg lv w) (s : List UInt8) : Calls Tryd.prog 53 #[.pointer (some ⟨pb, 0, none⟩), .string (by_ s)] w (fun E w' => E = .returned (.bool (isM L s i)) ∧ Below w.heap.size w w') := by
  have HH := Lib.hid (here_any h)
  have HM := Lib.hid (isM_kd L s i)
  clear h
  go_enter Tryd.func53, Tryd.ntmps53
  go_wp2_with fail
  refine HH.out.mono ?_
  rintro E w1 ⟨rfl, hb1⟩
  have HB1 := Lib.hid hb1
  have HBA : Hid (∀ o, Below w.heap.size w (w1.alloc o)) := Lib.hid fun o => below_later ((Below.refl _ _).alloc (Nat.le_refl _) _) hb1
  clear hb1 HH
  unfold tokC
  have HS : Hid (((by_ (txt L i)).toList == (by_ s).toList) = (txt L i == s)) := Lib.hid (by rw [by_list, by_list])
  generalize hx : txt L i = x at *
  rcases kd_case (kd L i) with hk | hk | ⟨hk, hk5⟩
  · have HR : Hid (isM L s i = ((by_ x).toList == (by_ s).toList)) := Lib.hid (by rw [HM.out, HS.out, hk]; rfl)
    rw [hk]
    go_wp2_with fail
    refine bodyPost_ret (v := .bool ((by_ x).toList == (by_ s).toList)) (by simp [results, Tryd.results53, go_sem]) rfl ⟨by rw [HR.out], HBA.out _⟩
  · have HR : Hid (isM L s i = ((by_ x).toList == (by_ s).toList)) := Lib.hid (by rw [HM.out, HS.out, hk]; rfl)
    rw [hk]
    go_wp2_with fail
    refine bodyPost_ret (v := .bool ((by_ x).toList == (by_ s).toList)) (by simp [results, Tryd.results53, go_sem]) rfl ⟨by rw [HR.out], HBA.out _⟩
  · have HR : Hid (isM L s i = false) := Lib.hid (by rw [HM.out, beq_eq_false_iff_ne.2 hk, beq_eq_false_iff_ne.2 hk5]; rfl)
    have e1 : (((kd L i : Nat) : Int) == 1) = false := beq_eq_false_iff_ne.2 (by omega)
    have e5 : (((kd L i : Nat) : Int) == 5) = false := beq_eq_false_iff_ne.2 (by omega)
    generalize kd L i = k at *
    go_wp2_with fail
    refine bodyPost_ret (v := .bool false) (by simp [results, Tryd.results53, go_sem]) rfl ⟨by rw [HR.out], HBA.out _⟩
set_option maxRecDepth 100000 in
set_option maxHeartbeats 1600000 in
theorem takes_any (h : PS pb B L tv e i lg lv w) (s : List UInt8) : Calls Tryd.prog 32 #[.pointer (some ⟨pb, 0, none⟩), .string (by_ s)] w (fun E w' => E = .returned (.bool (isM L s i)) ∧ Went pb B L tv e lv (adv L s i) lg w w') := by
  have HH := Lib.hid (sees_any h s)
  have HP := Lib.hid h
  have hle := h.le
  have hsm := h.small
  clear h
  go_enter Tryd.func32, Tryd.ntmps32
  go_wp2_with fail
  refine HH.out.mono ?_
  rintro E w1 ⟨rfl, hb1⟩
  have HP1 := Lib.hid (HP.out.later hb1)
  have HW1 := Lib.hid ((Went.refl HP.out).later hb1)
  have HB := Lib.hid hb1
  clear hb1 HH
  cases hm : isM L s i with
  | false =>
    have HM := Lib.hid hm
    have HR : Hid (Went pb B L tv e lv (adv L s i) lg w w1) := Lib.hid (by rw [adv_no hm]; exact HW1.out)
    clear hm
    go_wp2_with fail
    go_ret
    exact ⟨by rw [HM.out]; rfl, HR.out⟩
  | true =>
    have HM := Lib.hid hm
    have hlt := isM_lt hm
    have c1 := HP1.out.blk.cell (i := 1) rfl
    have f1 := HP1.out.blk.free 1
    have HG := Lib.hid (HP1.out.go (i + 1) hlt (by have := HP1.out.few; omega))
    have HKN := Lib.hid (keepN_cell pb lv.ownBlock 1 (.int .i64 ((i + 1 : Nat) : Int)) w1)
    have HR : Hid (Went pb B L tv e lv (adv L s i) lg w (w1.setCell ⟨pb, 1, none⟩ (.int .i64 ((i : Int) + 1)))) := Lib.hid (by
      rw [adv_yes hm, show ((i : Int) + 1) = ((i + 1 : Nat) : Int) by omega]
      exact ⟨lv, (KeepN.of pb lv.ownBlock HB.out).trans HKN.out (.inl rfl), HG.out, .inl rfl⟩)
    clear hm HW1 HP1 HP HG HKN
    go_wp2_with fail
    go_ret
    exact ⟨by rw [HM.out]; rfl, HR.out⟩
/-- A token that was passed over. -/
def TokR (L : List Tok) (e : Nat × Nat) (i : Nat) (_ : World) (v : Value) (_ : Unit) : Prop := v = .agg (tokC L e i)
def tokS (r : Except Nat Nat) (lg : List Nat) : Except Nat (Unit × Nat × List Nat) := bnd r fun k => .ok ((), k, lg)
theorem toks_went {w1 w2 : World} (h : PS pb B L tv e i lg lv w) (hb : Below w.heap.size w w1) (hlt : w.heap.size < w1.heap.size) {k : Nat} (hw : Went pb B L tv e lv k lg w1 w2) : Went pb B L tv e lv k lg w (w2.setRow w.heap.size (tokC L e i)) := by
  obtain ⟨lv2, k1, k2, k3⟩ := hw
  have hpb := h.blk.lt
  refine ⟨lv2, keepN_row ((KeepN.of pb lv.ownBlock hb).trans k1 (.inl rfl)) (Nat.le_refl _), k2.row (by omega) (fun e => Nat.lt_irrefl _ (h.toks.lt _ e).2) ?_, ?_⟩
  · intro e
    rcases k3 with a | ⟨b, a, c⟩
    · rw [a] at e
      exact Nat.lt_irrefl _ (h.lrow.lt _ e).2
    · rw [a] at e
      injection e with e
      omega
  · rcases k3 with a | ⟨b, a, c⟩
    · exact .inl a
    · exact .inr ⟨b, a, Nat.le_trans hb.size c⟩
theorem stop_mark {p : Prop} (h : Hid p) : p := h.out
theorem tokC_lit (L : List Tok) (e : Nat × Nat) (i : Nat) : ∃ (a b x y : Int) (c : ByteArray), tokC L e i = #[.int .i8 a, .int .i64 b, .string c, .int .i64 x, .int .i64 y] ∧ a = (kd L i : Nat) := ⟨_, _, _, _, _, rfl, rfl⟩
set_option maxRecDepth 100000 in
set_option maxHeartbeats 1600000 in
theorem wants_any (h : PS pb B L tv e i lg lv w) (s : List UInt8) : Calls Tryd.prog 35 #[.pointer (some ⟨pb, 0, none⟩), .string (by_ s)] w (PRes (TokR L e i) (tokS (want L s i) lg) pb B L tv e lv w) := by
  have hb0 : Below w.heap.size w (w.alloc (.cells #[.int .i8 0, .int .i64 0, .string { data := #[] }, .int .i64 0, .int .i64 0] 60)) := (Below.refl _ _).alloc (Nat.le_refl _) _
  have hs0 : (w.alloc (.cells #[.int .i8 0, .int .i64 0, .string { data := #[] }, .int .i64 0, .int .i64 0] 60)).heap.size = w.heap.size + 1 := World.size_alloc _ _
  have hk0 : Blk w.heap.size #[.int .i8 0, .int .i64 0, .string { data := #[] }, .int .i64 0, .int .i64 0] 60 (w.alloc (.cells #[.int .i8 0, .int .i64 0, .string { data := #[] }, .int .i64 0, .int .i64 0] 60)) := Blk.alloc _ _ _
  have h0 := h.later hb0
  have HH := Lib.hid (here_any h0)
  have H0 := Lib.hid h0
  have HP := Lib.hid h
  have HB0 := Lib.hid hb0
  have HK0 := Lib.hid hk0
  have HS0 := Lib.hid hs0
  clear h h0 hb0 hk0 hs0
  go_enter Tryd.func35, Tryd.ntmps35
  go_wp2_with fail
  refine HH.out.mono ?_
  rintro E w1 ⟨rfl, hb1⟩
  have HB1 := Lib.hid (HB0.out.trans (hb1.mono (by rw [HS0.out]; omega)))
  have hlt1 : w.heap.size < w1.heap.size := by have := hb1.size; have := HS0.out; omega
  obtain ⟨a, b, x, y, c, hC, -⟩ := tokC_lit L e i
  have HC := Lib.hid hC
  rw [hC]
  clear hC
  have hb2 : Below w1.heap.size w1 (w1.alloc (.cells #[.int .i8 a, .int .i64 b, .string c, .int .i64 x, .int .i64 y] 60)) := (Below.refl _ _).alloc (Nat.le_refl _) _
  have HB2 : Hid (Below w.heap.size w (w1.alloc (.cells #[.int .i8 a, .int .i64 b, .string c, .int .i64 x, .int .i64 y] 60))) := Lib.hid (HB1.out.trans (hb2.mono (by omega)))
  have HKR2 := Lib.hid ((HK0.out.later hb1).later hb2)
  have HKT2 : Hid (Blk w1.heap.size #[.int .i8 a, .int .i64 b, .string c, .int .i64 x, .int .i64 y] 60 (w1.alloc (.cells #[.int .i8 a, .int .i64 b, .string c, .int .i64 x, .int .i64 y] 60))) := Lib.hid (Blk.alloc _ _ _)
  have H2 := Lib.hid ((H0.out.later hb1).later hb2)
  have hlt2 : w.heap.size < (w1.alloc (.cells #[.int .i8 a, .int .i64 b, .string c, .int .i64 x, .int .i64 y] 60)).heap.size := Nat.lt_of_lt_of_le hlt1 hb2.size
  have HT := Lib.hid (takes_any H2.out s)
  have HL2 := Lib.hid hlt2
  clear HH H0 HB0 HK0 HS0 HB1 hb1 hb2 hlt2
  go_wp2_with fail
  refine HT.out.mono ?_
  rintro E w2 ⟨rfl, hw2⟩
  have HW2 := Lib.hid hw2
  have hkr : Blk w.heap.size #[.int .i8 0, .int .i64 0, .string { data := #[] }, .int .i64 0, .int .i64 0] 60 w2 := by
    obtain ⟨lv2, k1, k2, k3⟩ := hw2
    exact keepN_blk k1 HKR2.out (H2.out.ne HKR2.out (by decide)) (H2.out.nel HKR2.out (by decide))
  have hkt : Blk w1.heap.size #[.int .i8 a, .int .i64 b, .string c, .int .i64 x, .int .i64 y] 60 w2 := by
    obtain ⟨lv2, k1, k2, k3⟩ := hw2
    exact keepN_blk k1 HKT2.out (H2.out.ne HKT2.out (by decide)) (H2.out.nel HKT2.out (by decide))
  have HKR := Lib.hid hkr
  have HKT := Lib.hid hkt
  clear hkr hkt hw2 HT HKR2 HKT2
  cases hm : isM L s i with
  | false =>
    have HR : Hid (∀ w3, Below w2.heap.size w2 w3 → PRes (TokR L e i) (tokS (want L s i) lg) pb B L tv e lv w (.panicked (refV (here L e i))) w3) := Lib.hid fun w3 hb3 => by
      have := HW2.out
      rw [adv_no hm] at this
      obtain ⟨lv2, k1, k2, k3⟩ := this
      unfold want
      rw [if_neg (by rw [hm]; simp)]
      exact ⟨rfl, ((KeepN.of pb lv.ownBlock HB2.out).trans k1 (.inl rfl)).trans (KeepN.of pb lv.ownBlock hb3) (.inl rfl)⟩
    have HP2 : Hid (∃ lv2, PS pb B L tv e i lg lv2 w2) := Lib.hid (by
      have := HW2.out
      rw [adv_no hm] at this
      obtain ⟨lv2, k1, k2, k3⟩ := this
      exact ⟨lv2, k2⟩)
    clear hm HW2 HKR HKT
    go_wp2_with fail
    obtain ⟨lv2, hp2⟩ := HP2.out
    refine (fail_any hp2).mono ?_
    rintro E w3 ⟨rfl, hb3⟩
    exact ⟨rfl, HR.out w3 hb3⟩
  | true =>
    have HW3 : Hid (PRes (TokR L e i) (tokS (want L s i) lg) pb B L tv e lv w (.returned (.agg (tokC L e i))) (w2.setRow w.heap.size (tokC L e i))) := Lib.hid (by
      have := HW2.out
      rw [adv_yes hm] at this
      unfold want
      rw [if_pos hm]
      exact ⟨_, rfl, rfl, toks_went HP.out HB2.out HL2.out this⟩)
    have HKF : Hid (Blk w.heap.size #[.int .i8 a, .int .i64 b, .string c, .int .i64 x, .int .i64 y] 60 (w2.setRow w.heap.size #[.int .i8 a, .int .i64 b, .string c, .int .i64 x, .int .i64 y])) := Lib.hid (setRow_blk HKR.out)
    rw [HC.out] at HW3
    clear hm HW2 HC HP HB2 H2 HL2
    go_wp2_with (refine wpList_load_row rfl _ _ rfl w1.heap.size rfl 60 _ (0, 0) _ HKT.out Tryd.underlying60 rfl ptok_size ?_; apply stop_mark)
    refine Lib.hid ?_
    refine wpList_store_row rfl _ _ _ rfl w.heap.size #[.int .i8 a, .int .i64 b, .string c, .int .i64 x, .int .i64 y] rfl rfl 60 _ HKR.out ptok_size rfl (by simp [Value.oneCell']) ?_
    clear HKT HKR
    generalize w2.setRow w.heap.size #[.int .i8 a, .int .i64 b, .string c, .int .i64 x, .int .i64 y] = wr at *
    go_wp2_with fail
    exact bodyPost_ret (results_cell_row rfl _ _ w.heap.size 60 #[.int .i8 a, .int .i64 b, .string c, .int .i64 x, .int .i64 y] (0, 0) _ rfl HKF.out Tryd.underlying60 rfl ptok_size) rfl HW3.out
set_option maxRecDepth 100000 in
set_option maxHeartbeats 1600000 in
theorem name_any (h : PS pb B L tv e i lg lv w) : Calls Tryd.prog 36 #[.pointer (some ⟨pb, 0, none⟩)] w (PRes (TokR L e i) (tokS (name L i) lg) pb B L tv e lv w) := by
  have hb0 : Below w.heap.size w (w.alloc (.cells #[.int .i8 0, .int .i64 0, .string { data := #[] }, .int .i64 0, .int .i64 0] 60)) := (Below.refl _ _).alloc (Nat.le_refl _) _
  have hs0 : (w.alloc (.cells #[.int .i8 0, .int .i64 0, .string { data := #[] }, .int .i64 0, .int .i64 0] 60)).heap.size = w.heap.size + 1 := World.size_alloc _ _
  have hk0 : Blk w.heap.size #[.int .i8 0, .int .i64 0, .string { data := #[] }, .int .i64 0, .int .i64 0] 60 (w.alloc (.cells #[.int .i8 0, .int .i64 0, .string { data := #[] }, .int .i64 0, .int .i64 0] 60)) := Blk.alloc _ _ _
  have h0 := h.later hb0
  have HH := Lib.hid (here_any h0)
  have H0 := Lib.hid h0
  have HP := Lib.hid h
  have HB0 := Lib.hid hb0
  have HK0 := Lib.hid hk0
  have HS0 := Lib.hid hs0
  clear h h0 hb0 hk0 hs0
  go_enter Tryd.func36, Tryd.ntmps36
  go_wp2_with fail
  refine HH.out.mono ?_
  rintro E w1 ⟨rfl, hb1⟩
  have HB1 := Lib.hid (HB0.out.trans (hb1.mono (by rw [HS0.out]; omega)))
  have hlt1 : w.heap.size < w1.heap.size := by have := hb1.size; have := HS0.out; omega
  obtain ⟨a, b, x, y, c, hC, ha⟩ := tokC_lit L e i
  have HC := Lib.hid hC
  rw [hC]
  clear hC
  have hb2 : Below w1.heap.size w1 (w1.alloc (.cells #[.int .i8 a, .int .i64 b, .string c, .int .i64 x, .int .i64 y] 60)) := (Below.refl _ _).alloc (Nat.le_refl _) _
  have HB2 : Hid (Below w.heap.size w (w1.alloc (.cells #[.int .i8 a, .int .i64 b, .string c, .int .i64 x, .int .i64 y] 60))) := Lib.hid (HB1.out.trans (hb2.mono (by omega)))
  have HKR2 := Lib.hid ((HK0.out.later hb1).later hb2)
  have HKT2 : Hid (Blk w1.heap.size #[.int .i8 a, .int .i64 b, .string c, .int .i64 x, .int .i64 y] 60 (w1.alloc (.cells #[.int .i8 a, .int .i64 b, .string c, .int .i64 x, .int .i64 y] 60))) := Lib.hid (Blk.alloc _ _ _)
  have H2 := Lib.hid ((H0.out.later hb1).later hb2)
  have hlt2 : w.heap.size < (w1.alloc (.cells #[.int .i8 a, .int .i64 b, .string c, .int .i64 x, .int .i64 y] 60)).heap.size := Nat.lt_of_lt_of_le hlt1 hb2.size
  have HL2 := Lib.hid hlt2
  clear HH H0 HB0 HK0 HS0 HB1 hb1 hb2 hlt2
  have HK := Lib.hid (isK_kd L i (k := 2) (by decide))
  have h2small := H2.out.small
  have h2le := H2.out.le
  have c1 := H2.out.blk.cell (i := 1) rfl
  have f1 := H2.out.blk.free 1
  by_cases hk : a = 2
  · have hm : isK L 2 i = true := by rw [HK.out, beq_iff_eq]; omega
    have hlt := isK_lt hm
    have HW2 : Hid (Went pb B L tv e lv (i + 1) lg (w1.alloc (.cells #[.int .i8 a, .int .i64 b, .string c, .int .i64 x, .int .i64 y] 60)) ((w1.alloc (.cells #[.int .i8 a, .int .i64 b, .string c, .int .i64 x, .int .i64 y] 60)).setCell ⟨pb, 1, none⟩ (.int .i64 ((i : Int) + 1)))) := Lib.hid (by
      rw [show ((i : Int) + 1) = ((i + 1 : Nat) : Int) by omega]
      exact ⟨lv, keepN_cell _ _ _ _ _, H2.out.go (i + 1) hlt (by have := H2.out.few; omega), .inl rfl⟩)
    have HW3 : Hid (PRes (TokR L e i) (tokS (name L i) lg) pb B L tv e lv w (.returned (.agg (tokC L e i))) (((w1.alloc (.cells #[.int .i8 a, .int .i64 b, .string c, .int .i64 x, .int .i64 y] 60)).setCell ⟨pb, 1, none⟩ (.int .i64 ((i : Int) + 1))).setRow w.heap.size (tokC L e i))) := Lib.hid (by
      unfold Gr.name
      rw [if_pos hm]
      exact ⟨_, rfl, rfl, toks_went HP.out HB2.out HL2.out HW2.out⟩)
    have hgr := H2.out.ne HKR2.out (by decide)
    have hgt := H2.out.ne HKT2.out (by decide)
    have HKR : Hid (Blk w.heap.size #[.int .i8 0, .int .i64 0, .string { data := #[] }, .int .i64 0, .int .i64 0] 60 ((w1.alloc (.cells #[.int .i8 a, .int .i64 b, .string c, .int .i64 x, .int .i64 y] 60)).setCell ⟨pb, 1, none⟩ (.int .i64 ((i : Int) + 1)))) := Lib.hid (by
      have := HKR2.out
      unfold Blk at *
      rw [Below.heap_setCell _ _ _ _ (by exact hgr)]; exact this)
    have HKT : Hid (Blk w1.heap.size #[.int .i8 a, .int .i64 b, .string c, .int .i64 x, .int .i64 y] 60 ((w1.alloc (.cells #[.int .i8 a, .int .i64 b, .string c, .int .i64 x, .int .i64 y] 60)).setCell ⟨pb, 1, none⟩ (.int .i64 ((i : Int) + 1)))) := Lib.hid (by
      have := HKT2.out
      unfold Blk at *
      rw [Below.heap_setCell _ _ _ _ (by exact hgt)]; exact this)
    have HKF : Hid (Blk w.heap.size #[.int .i8 a, .int .i64 b, .string c, .int .i64 x, .int .i64 y] 60 (((w1.alloc (.cells #[.int .i8 a, .int .i64 b, .string c, .int .i64 x, .int .i64 y] 60)).setCell ⟨pb, 1, none⟩ (.int .i64 ((i : Int) + 1))).setRow w.heap.size #[.int .i8 a, .int .i64 b, .string c, .int .i64 x, .int .i64 y])) := Lib.hid (setRow_blk HKR.out)
    rw [HC.out] at HW3
    subst hk
    clear hm hgr hgt HW2 HC HP HB2 H2 HL2 HK HKR2 HKT2 ha
    go_wp2_with (refine wpList_load_row rfl _ _ rfl w1.heap.size rfl 60 _ (0, 0) _ HKT.out Tryd.underlying60 rfl ptok_size ?_; apply stop_mark)
    refine Lib.hid ?_
    refine wpList_store_row rfl _ _ _ rfl w.heap.size #[.int .i8 2, .int .i64 b, .string c, .int .i64 x, .int .i64 y] rfl rfl 60 _ HKR.out ptok_size rfl (by simp [Value.oneCell']) ?_
    clear HKT HKR
    generalize World.setRow _ w.heap.size #[.int .i8 2, .int .i64 b, .string c, .int .i64 x, .int .i64 y] = wr at *
    go_wp2_with fail
    exact bodyPost_ret (results_cell_row rfl _ _ w.heap.size 60 #[.int .i8 2, .int .i64 b, .string c, .int .i64 x, .int .i64 y] (0, 0) _ rfl HKF.out Tryd.underlying60 rfl ptok_size) rfl HW3.out
  · have hm : isK L 2 i = false := by rw [HK.out, beq_eq_false_iff_ne]; omega
    have e1 : (a != 2) = true := bne_iff_ne.2 hk
    have HR : Hid (∀ w3, Below (w1.alloc (.cells #[.int .i8 a, .int .i64 b, .string c, .int .i64 x, .int .i64 y] 60)).heap.size (w1.alloc (.cells #[.int .i8 a, .int .i64 b, .string c, .int .i64 x, .int .i64 y] 60)) w3 → PRes (TokR L e i) (tokS (name L i) lg) pb B L tv e lv w (.panicked (refV (here L e i))) w3) := Lib.hid fun w3 hb3 => by
      unfold Gr.name
      rw [if_neg (by rw [hm]; simp)]
      exact ⟨rfl, (KeepN.of pb lv.ownBlock HB2.out).trans (KeepN.of pb lv.ownBlock hb3) (.inl rfl)⟩
    clear hm HK HKR2 HKT2 HC c1 f1 ha
    go_wp2_with fail
    refine (fail_any H2.out).mono ?_
    rintro E w3 ⟨rfl, hb3⟩
    exact ⟨rfl, HR.out w3 hb3⟩
end
end Go.Proofs.YtnhdbjhdmdefmaaDoor


/- Walks of the printer: a part of any kind. -/
import Derived.Test.YtacihffkjadbbaaGreatDoorUk
namespace Go.Proofs.YtacihffkjadbbaaGreatDoor
set_option linter.unusedSimpArgs false
set_option linter.unusedVariables false
open Go.RowKit Culp
theorem cnt_nil {ks : Tr.F} (h : ks.cnt = 0) : ks = .nil := by
  cases ks with
  | nil => rfl
  | cons y ky r => simp [Tr.F.cnt] at h
theorem part_num {x : Nd} (hk : x.kind = 1) : Pt.part x .nil = Tx.decimal x.n.toNat := by simp [Pt.part, Pt.pre, Pt.kids, Pt.post, hk]
theorem part_str {x : Nd} (hk : x.kind = 2) {q : List UInt8} (hq : Tx.quote x.s.data.toList = some q) : Pt.part x .nil = q := by simp [Pt.part, Pt.pre, Pt.kids, Pt.post, hk, Pt.strOf, hq]
theorem part_truth {x : Nd} (hk : x.kind = 3) : Pt.part x .nil = if x.n = 1 then [116, 114, 117, 101] else [102, 97, 108, 115, 101] := by simp [Pt.part, Pt.pre, Pt.kids, Pt.post, hk]
theorem part_var {x : Nd} (hk : x.kind = 4) : Pt.part x .nil = x.s.data.toList := by simp [Pt.part, Pt.pre, Pt.kids, Pt.post, hk]
theorem within_n (w0 : World) (lv : Value) (L : List Nd) (hN : Nodes w0 lv L) (ks : Tr.F) (hA : AllP w0 lv L ks) (hc : ks.cnt ≤ 100000) {n : Int} (hn : (ks.cnt : Int) = n) {b : Nat} {o : Option Nat} {bs : List Value} {w1 : World} {l : List UInt8} {i : Nat} {v : Value} {w : World} (h : PS w0 lv b o bs w1 l i (.pointer (some ⟨b, 0, none⟩)) v w)
    (hR : ∃ R, L.drop i = ks.flat ++ R) (hl : bs.length + l.length + (commas 0 ks).length ≤ 140737488355328) :
    Calls Tryz.prog 73 #[.pointer (some ⟨b, 0, none⟩), .int .i64 n] w (Goes w0 lv b o bs w1 (l ++ commas 0 ks) (i + ks.flat.length)) := by
  subst hn
  exact within_any w0 lv L hN ks hA hc h hR hl
theorem wide_any (w0 : World) (lv : Value) (L : List Nd) (hN : Nodes w0 lv L) (x : Nd) (hz : x.s.size ≤ 140737488351232) (ks : Tr.F) (hm : Tr.may x = true) (hc : (ks.cnt : Int) = x.kids) (hA : AllP w0 lv L ks)
    (hk : x.kind = 5 ∨ x.kind = 6 ∨ x.kind = 8 ∨ x.kind = 9 ∨ x.kind = 28 ∨ x.kind = 14 ∨ x.kind = 15 ∨ x.kind = 10 ∨ x.kind = 11 ∨ x.kind = 13 ∨ x.kind = 12 ∨ x.kind = 16 ∨ x.kind = 27) : WideP w0 lv L x ks := by
  have har := Tr.may_arit hm
  rcases hk with hk | hk | hk | hk | hk | hk | hk | hk | hk | hk | hk | hk | hk
  · obtain ⟨y, ky, rfl⟩ := one_of (ks := ks) (by rw [hk] at har; simp [Tr.arit] at har; omega)
    exact wide_fn w0 lv L hN x y ky hk (Tr.may_t hm (.inl hk)) (Tr.may_u hm (.inl hk)) hA.1
  · obtain ⟨y, ky, rfl⟩ := one_of (ks := ks) (by rw [hk] at har; simp [Tr.arit] at har; omega)
    obtain ⟨f, a, h2⟩ := Tr.may_two hm hk
    exact wide_rec w0 lv L hN x y ky hk h2 (by omega) (Tr.may_t hm (.inr (.inl hk))) (Tr.may_u hm (.inr hk)) hA.1
  · obtain ⟨y, ky, z, kz, rfl⟩ := two_of (ks := ks) (by rw [hk] at har; simp [Tr.arit] at har; omega)
    exact wide_let w0 lv L hN x y z ky kz hk (Tr.may_t hm (.inr (.inr hk))) hA.1 hA.2.1
  · obtain ⟨y, ky, z, kz, u, ku, rfl⟩ := three_of (ks := ks) (by rw [hk] at har; simp [Tr.arit] at har; omega)
    exact wide_if w0 lv L hN x y z u ky kz ku hk hA.1 hA.2.1 hA.2.2.1
  · obtain ⟨y, ky, z, kz, rfl⟩ := two_of (ks := ks) (by rw [hk] at har; simp [Tr.arit] at har; omega)
    exact wide_set w0 lv L hN x y z ky kz hk hA.1 hA.2.1
  · obtain ⟨y, ky, z, kz, rfl⟩ := two_of (ks := ks) (by rw [hk] at har; simp [Tr.arit] at har; omega)
    exact wide_eq w0 lv L hN x y z ky kz hk hA.1 hA.2.1
  · obtain ⟨y, ky, z, kz, rfl⟩ := two_of (ks := ks) (by rw [hk] at har; simp [Tr.arit] at har; omega)
    exact wide_less w0 lv L hN x y z ky kz hk hA.1 hA.2.1
  · obtain ⟨y, ky, z, kz, rfl⟩ := two_of (ks := ks) (by rw [hk] at har; simp [Tr.arit] at har; omega)
    exact wide_add w0 lv L hN x y z ky kz hk hA.1 hA.2.1
  · obtain ⟨y, ky, z, kz, rfl⟩ := two_of (ks := ks) (by rw [hk] at har; simp [Tr.arit] at har; omega)
    exact wide_sub w0 lv L hN x y z ky kz hk hA.1 hA.2.1
  · obtain ⟨y, ky, z, kz, rfl⟩ := two_of (ks := ks) (by rw [hk] at har; simp [Tr.arit] at har; omega)
    exact wide_join w0 lv L hN x y z ky kz hk hA.1 hA.2.1
  · obtain ⟨y, ky, z, kz, rfl⟩ := two_of (ks := ks) (by rw [hk] at har; simp [Tr.arit] at har; omega)
    exact wide_mul w0 lv L hN x y z ky kz hk hA.1 hA.2.1
  · obtain ⟨y, ky, rfl⟩ := one_of (ks := ks) (by rw [hk] at har; simp [Tr.arit] at har; omega)
    exact wide_neg w0 lv L hN x y ky hk hA.1
  · obtain ⟨y, ky, rfl⟩ := one_of (ks := ks) (by rw [hk] at har; simp [Tr.arit] at har; omega)
    exact wide_get w0 lv L hN x y ky hk hA.1
theorem FormatBool_true (w : World) : Calls Tryz.prog 72 #[.bool true] w (Gives (.string (bs [116, 114, 117, 101])) w) := FormatBool_any true w
theorem FormatBool_false (w : World) : Calls Tryz.prog 72 #[.bool false] w (Gives (.string (bs [102, 97, 108, 115, 101])) w) := FormatBool_any false w
theorem alloc_row (w : World) (zs cs : Array Value) (t : TypeId) : (w.alloc (.cells zs t)).setRow w.heap.size cs = w.alloc (.cells cs t) := by
  unfold World.setRow World.alloc
  congr 1
  apply Array.ext_getElem?
  intro k
  rw [Array.getElem?_modify, Array.getElem?_push, Array.getElem?_push]
  by_cases h : k = w.heap.size
  · subst h; simp
  · rw [if_neg h, if_neg h, if_neg (fun e => h e.symm)]
theorem drew_row (w : World) (zs cs : Array Value) (t : TypeId) : (w.drew.alloc (.cells zs t)).setRow w.heap.size cs = w.drew.alloc (.cells cs t) := alloc_row w.drew zs cs t
theorem drew_cell (w : World) (cs : Array Value) (t : TypeId) (j : Nat) (u : Value) (h : cs[j]? = some u) : (w.drew.alloc (.cells cs t)).cell? ⟨w.heap.size, j, none⟩ = some u := by
  have : (w.drew.alloc (.cells cs t)).heap[w.heap.size]? = some (.cells cs t) := heap_alloc_new w.drew _
  rw [Lib.cell_of_heap this]
  exact h
set_option maxRecDepth 100000 in
set_option maxHeartbeats 6400000 in
theorem node_step (w0 : World) (lv : Value) (L : List Nd) (hN : Nodes w0 lv L) (hL : L.length ≤ 1000000000) (hz : ∀ x ∈ L, x.s.size ≤ 140737488351232 ∧ x.n ≤ 9223372036854775807) (hPw : Pw w0) (x : Nd) (ks : Tr.F) (hm : Tr.may x = true) (hc : (ks.cnt : Int) = x.kids) (hA : AllP w0 lv L ks) (hsz : ks.cnt ≤ 100000) : NodeP w0 lv L x ks := by
  intro b o bs w1 l i p v w h hR hl
  have HN := Lib.hid hN
  have HP := Lib.hid h
  have HRR := Lib.hid hR
  obtain ⟨R, hR⟩ := hR
  obtain ⟨hy, hi⟩ := at_drop hR
  obtain ⟨A, c, rfl, hcl, hA'⟩ := h.nodes hN
  obtain ⟨g, off, rfl, hn⟩ := hA' (by omega)
  obtain ⟨n0, n1, n2, n3, n4, n5, n6, n7⟩ := hn.at_ hy
  obtain ⟨m2, m3⟩ := h.cells
  clear h hN hn hA' hy hR
  go_enter Tryz.func40, Tryz.ntmps40
  go_wp2_with fail
  refine wp_region_plan (S := fun w' => w'.cell? ⟨b, 2, none⟩ = some (.slice (some ⟨g, off, none⟩) L.length c) ∧ w'.cell? ⟨b, 3, none⟩ = some (.int .i64 i) ∧ w'.cell? ⟨g, off + i * 8, none⟩ = some (.int .i8 x.kind) ∧ w'.cell? ⟨g, off + i * 8 + 1, none⟩ = some (.int .i64 x.kids) ∧ w'.cell? ⟨g, off + i * 8 + 2, none⟩ = some (.int .i64 x.n) ∧ w'.cell? ⟨g, off + i * 8 + 3, none⟩ = some (.string x.s) ∧ w'.cell? ⟨g, off + i * 8 + 4, none⟩ = some (.string x.t) ∧ w'.cell? ⟨g, off + i * 8 + 5, none⟩ = some (.string x.u) ∧ w'.cell? ⟨g, off + i * 8 + 6, none⟩ = some (.int .i64 x.line) ∧ w'.cell? ⟨g, off + i * 8 + 7, none⟩ = some (.int .i64 x.col))
    [(0, true), (1, true), (2, true), (3, true), (4, true), (5, true), (6, true), (7, true), (8, true), (9, true), (10, false), (11, false)] (by kernel_rfl) (by kernel_rfl) (by kernel_rfl) (fun _ _ _ _ _ h => h) ⟨m2, m3, n0, n1, n2, n3, n4, n5, n6, n7⟩ ?_
  intro HS
  repeat (first | (apply wpPlan_look; rfl; rfl; (intro wq hq; (try dsimp only at hq); go_split_ands; go_simp; (try rw [if_neg (by omega)]); (try rw [if_pos (by omega)]); try with_reducible rfl); simp only [Act.put, List.setIfInBounds_toArray, List.set_cons_zero, List.set_cons_succ]) | (apply wpPlan_skip; rfl; rfl; simp only [Act.put, List.setIfInBounds_toArray, List.set_cons_zero, List.set_cons_succ]) | (apply wpPlan_pass; rfl; rfl; assumption; simp only [Act.put, List.setIfInBounds_toArray, List.set_cons_zero, List.set_cons_succ]))
  have HA1 := fun o => Lib.hid ((Below.refl w.heap.size w).drew.alloc (Nat.le_refl _) o)
  have hS1 := fun o => (⟨cell_later (HA1 o).out m2, cell_later (HA1 o).out m3, cell_later (HA1 o).out n0, cell_later (HA1 o).out n1, cell_later (HA1 o).out n2, cell_later (HA1 o).out n3, cell_later (HA1 o).out n4, cell_later (HA1 o).out n5, cell_later (HA1 o).out n6, cell_later (HA1 o).out n7⟩ : _ ∧ _ ∧ _ ∧ _ ∧ _ ∧ _ ∧ _ ∧ _ ∧ _ ∧ _)
  refine wpPlan_run rfl rfl (by simp [execOp, go_sem]; exact ⟨rfl, rfl⟩) _ (fun _ h => h) (hS1 _) ?_
  simp only [Act.put, List.setIfInBounds_toArray, List.set_cons_zero, List.set_cons_succ]
  refine wpPlan_act rfl rfl (fun K hK => wp_store_row _ _ _ rfl w.heap.size x.cells.toArray rfl rfl 41 _ (heap_alloc_new w.drew _) (by kernel_rfl) rfl (by simp [Nd.cells, Value.oneCell']) (hK _ _ ⟨?_, ?_⟩))
  · rw [drew_row]
    exact hS1 _
  rw [drew_row]
  simp only [Act.put, List.setIfInBounds_toArray, List.set_cons_zero, List.set_cons_succ]
  apply wpPlan_done
  clear HS
  have x0 : (w.drew.alloc (.cells x.cells.toArray 41)).cell? ⟨w.heap.size, 0, none⟩ = some (.int .i8 x.kind) := drew_cell w x.cells.toArray 41 0 _ rfl
  have x1 : (w.drew.alloc (.cells x.cells.toArray 41)).cell? ⟨w.heap.size, 1, none⟩ = some (.int .i64 x.kids) := drew_cell w x.cells.toArray 41 1 _ rfl
  have x2 : (w.drew.alloc (.cells x.cells.toArray 41)).cell? ⟨w.heap.size, 2, none⟩ = some (.int .i64 x.n) := drew_cell w x.cells.toArray 41 2 _ rfl
  have x3 : (w.drew.alloc (.cells x.cells.toArray 41)).cell? ⟨w.heap.size, 3, none⟩ = some (.string x.s) := drew_cell w x.cells.toArray 41 3 _ rfl
  have x4 : (w.drew.alloc (.cells x.cells.toArray 41)).cell? ⟨w.heap.size, 4, none⟩ = some (.string x.t) := drew_cell w x.cells.toArray 41 4 _ rfl
  have x5 : (w.drew.alloc (.cells x.cells.toArray 41)).cell? ⟨w.heap.size, 5, none⟩ = some (.string x.u) := drew_cell w x.cells.toArray 41 5 _ rfl
  have x6 : (w.drew.alloc (.cells x.cells.toArray 41)).cell? ⟨w.heap.size, 6, none⟩ = some (.int .i64 x.line) := drew_cell w x.cells.toArray 41 6 _ rfl
  have x7 : (w.drew.alloc (.cells x.cells.toArray 41)).cell? ⟨w.heap.size, 7, none⟩ = some (.int .i64 x.col) := drew_cell w x.cells.toArray 41 7 _ rfl
  have hne : w.heap.size ≠ b := by have := HP.out.blt; omega
  have hno : v.ownBlock ≠ some w.heap.size := fun e => by have := HP.out.vlt e; omega
  have HP1 := Lib.hid ((HP.out.later (HA1 (.cells x.cells.toArray 41)).out).at_ (i + 1))
  have hb3 := (HP.out.later (HA1 (.cells x.cells.toArray 41)).out).pen.2.1
  have f3 := Lib.frozen_of_heap hb3 3
  have c3 := (HP.out.later (HA1 (.cells x.cells.toArray 41)).out).cells.2
  have hb3' := Lib.hid hb3
  clear hS1 HA1 m2 m3 n0 n1 n2 n3 n4 n5 n6 n7 HP hb3
  generalize w.heap.size = xb at *
  generalize w.drew.alloc (.cells x.cells.toArray 41) = wb at *
  rw [show ((i + 1 : Nat) : Int) = (i : Int) + 1 by omega] at HP1
  have HZS := Lib.hid (show (wb.setCell ⟨b, 3, none⟩ (.int .i64 ((i : Int) + 1))).heap.size = wb.heap.size by simp)
  have HKZ := Lib.hid (fun j u (h : wb.cell? ⟨xb, j, none⟩ = some u) => (keepN_set b none 3 (.int .i64 ((i : Int) + 1)) wb).cell h hne (by simp))
  have HRK : Hid (∃ R, L.drop (i + 1) = ks.flat ++ R) := Lib.hid (by obtain ⟨R, h⟩ := HRR.out; exact ⟨R, by rw [← List.drop_drop, h]; rfl⟩)
  have HA := Lib.hid hA
  have HPW := Lib.hid hPw
  have HC := Lib.hid hc
  have HM := Lib.hid hm
  have har := Tr.may_arit hm
  obtain ⟨k30, kar⟩ := Tr.may_kind hm
  have hxm : x ∈ L := by obtain ⟨R, h⟩ := HRR.out; exact List.mem_of_getElem? (at_drop h).1
  obtain ⟨hzs, hzn⟩ := hz x hxm
  have HZ := Lib.hid hz
  have hfin : ∀ (m : List UInt8) (v' : Value) (w' : World), l ++ Pt.part x ks = m → PS w0 (.slice (some ⟨g, off, none⟩) L.length c) b o bs w1 m (i + 1 + ks.flat.length) (.pointer (some ⟨b, 0, none⟩)) v' w' → PS w0 (.slice (some ⟨g, off, none⟩) L.length c) b o bs w1 (l ++ Pt.part x ks) (i + (1 + ks.flat.length)) (.pointer (some ⟨b, 0, none⟩)) v' w' := fun m v' w' e h => by
    rw [e, ← Nat.add_assoc]; exact h
  have HF := Lib.hid hfin
  clear hA hPw hm hz hfin hxm
  rcases Tr.kind_or kar k30 with hk | hk | hk | hk | hk | hk | hk | hk | ⟨hk, hk2⟩ | hk
  · obtain rfl : ks = .nil := cnt_nil (by have := HC.out; rw [hk] at har; simp [Tr.arit] at har; omega)
    have h0 := Tr.may_n HM.out hk
    rw [part_num hk] at hl
    have HE := Lib.hid (part_num hk)
    rw [hk] at x0
    go_wp2_with fail
    generalize hwz : wb.setCell ⟨b, 3, none⟩ (.int .i64 ((i : Int) + 1)) = wz at *
    refine (FormatInt_any x.n h0 hzn wz (HPW.out.later HP1.out.below (HPW.out.lt))).mono ?_
    rintro e w2 ⟨rfl, hb2⟩
    have HP2 := Lib.hid (HP1.out.later hb2)
    clear hb2
    go_wp2_with fail
    refine (put_lit [Go.Proofs.YtacihffkjadbbaaGreatDoor.bs (Tx.decimal x.n.toNat)] _ HP2.out (by simp [cat, Go.Proofs.YtacihffkjadbbaaGreatDoor.bs]; omega) (by simp) (by simp)).mono ?_
    rintro e w3 ⟨rfl, v3, h3⟩
    go_wp2_with fail
    go_end0
    exact ⟨rfl, v3, HF.out _ _ _ (by rw [HE.out]; simp [cat, Go.Proofs.YtacihffkjadbbaaGreatDoor.bs]) h3⟩
  · obtain rfl : ks = .nil := cnt_nil (by have := HC.out; rw [hk] at har; simp [Tr.arit] at har; omega)
    obtain ⟨q, hq⟩ := Tr.may_str HM.out hk
    rw [part_str hk hq] at hl
    have HE := Lib.hid (part_str hk hq)
    have HQ := Lib.hid hq
    clear hq
    have z3 := Lib.hid (HKZ.out 3 _ x3)
    rw [hk] at x0
    go_wp2_with fail
    generalize hwz : wb.setCell ⟨b, 3, none⟩ (.int .i64 ((i : Int) + 1)) = wz at *
    have z3 := z3.out
    refine (tQuote_any x.s wz hzs).mono ?_
    rintro e w2 hq2
    obtain ⟨hb2, he⟩ := hq2
    rw [HQ.out] at he
    obtain rfl := he
    have HP2 := Lib.hid (HP1.out.later hb2)
    clear hb2
    go_wp2_with fail
    refine (put_lit [Go.Proofs.YtacihffkjadbbaaGreatDoor.bs q] _ HP2.out (by simp [cat, Go.Proofs.YtacihffkjadbbaaGreatDoor.bs]; omega) (by simp) (by simp)).mono ?_
    rintro e w3 ⟨rfl, v3, h3⟩
    go_wp2_with fail
    go_end0
    exact ⟨rfl, v3, HF.out _ _ _ (by rw [HE.out]; simp [cat, Go.Proofs.YtacihffkjadbbaaGreatDoor.bs]) h3⟩
  · obtain rfl : ks = .nil := cnt_nil (by have := HC.out; rw [hk] at har; simp [Tr.arit] at har; omega)
    by_cases h1 : x.n = 1
    · skip
      have HE : Hid (Pt.part x .nil = [116, 114, 117, 101]) := Lib.hid (by rw [part_truth hk, if_pos h1])
      have q1 : (x.n == 1) = true := by simp [h1]
      rw [HE.out] at hl
      simp only [List.length_cons, List.length_nil] at hl
      clear h1
      rw [hk] at x0
      go_wp2_with fail
      generalize hwz : wb.setCell ⟨b, 3, none⟩ (.int .i64 ((i : Int) + 1)) = wz at *
      refine (FormatBool_true wz).mono ?_
      rintro e w2 ⟨rfl, rfl⟩
      go_wp2_with fail
      refine (put_lit [Go.Proofs.YtacihffkjadbbaaGreatDoor.bs [116, 114, 117, 101]] _ HP1.out (by simp [cat, Go.Proofs.YtacihffkjadbbaaGreatDoor.bs]; omega) (by simp) (by simp)).mono ?_
      rintro e w3 ⟨rfl, v3, h3⟩
      go_wp2_with fail
      go_end0
      exact ⟨rfl, v3, HF.out _ _ _ (by rw [HE.out]; simp [cat, Go.Proofs.YtacihffkjadbbaaGreatDoor.bs]) h3⟩
    · skip
      have HE : Hid (Pt.part x .nil = [102, 97, 108, 115, 101]) := Lib.hid (by rw [part_truth hk, if_neg h1])
      have q1 : (x.n == 1) = false := by exact beq_no h1
      rw [HE.out] at hl
      simp only [List.length_cons, List.length_nil] at hl
      clear h1
      rw [hk] at x0
      go_wp2_with fail
      generalize hwz : wb.setCell ⟨b, 3, none⟩ (.int .i64 ((i : Int) + 1)) = wz at *
      refine (FormatBool_false wz).mono ?_
      rintro e w2 ⟨rfl, rfl⟩
      go_wp2_with fail
      refine (put_lit [Go.Proofs.YtacihffkjadbbaaGreatDoor.bs [102, 97, 108, 115, 101]] _ HP1.out (by simp [cat, Go.Proofs.YtacihffkjadbbaaGreatDoor.bs]; omega) (by simp) (by simp)).mono ?_
      rintro e w3 ⟨rfl, v3, h3⟩
      go_wp2_with fail
      go_end0
      exact ⟨rfl, v3, HF.out _ _ _ (by rw [HE.out]; simp [cat, Go.Proofs.YtacihffkjadbbaaGreatDoor.bs]) h3⟩
  · obtain rfl : ks = .nil := cnt_nil (by have := HC.out; rw [hk] at har; simp [Tr.arit] at har; omega)
    rw [part_var hk] at hl
    rw [show x.s.data.toList.length = x.s.size from Array.length_toList] at hl
    have HE := Lib.hid (part_var hk)
    rw [hk] at x0
    go_wp2_with fail
    generalize hwz : wb.setCell ⟨b, 3, none⟩ (.int .i64 ((i : Int) + 1)) = wz at *
    refine (put_at [x.s] _ _ HP1.out HZS.out (by simp [cat]; omega) (by simp) (by simp)).mono ?_
    rintro e w3 ⟨rfl, v3, h3⟩
    go_wp2_with fail
    go_end0
    exact ⟨rfl, v3, HF.out _ _ _ (by rw [HE.out]; simp [cat]) h3⟩
  · have HE := Lib.hid (part_pair hk ks)
    rw [HE.out] at hl
    simp only [List.length_append, List.length_cons, List.length_nil] at hl
    have hc2 : (ks.cnt : Int) = 2 := by have := HC.out; rw [hk] at har; simp [Tr.arit] at har; omega
    have HC2 := Lib.hid hc2
    clear hc2
    rw [hk] at x0
    go_wp2_with fail
    generalize hwz : wb.setCell ⟨b, 3, none⟩ (.int .i64 ((i : Int) + 1)) = wz at *
    refine (put_at [⟨#[40]⟩] _ _ HP1.out HZS.out (by simp [cat]; omega) (by simp) (by simp)).mono ?_
    rintro e w3 ⟨rfl, v3, h3⟩
    have HP3 := Lib.hid h3
    clear h3
    go_wp2_with fail
    refine (within_n w0 _ L HN.out ks HA.out hsz HC2.out HP3.out HRK.out (by simp [cat]; omega)).mono ?_
    rintro e w4 ⟨rfl, v4, h4⟩
    have HP4 := Lib.hid h4
    clear h4
    go_wp2_with fail
    refine (put_lit [⟨#[41]⟩] _ HP4.out (by simp [cat]; omega) (by simp) (by simp)).mono ?_
    rintro e w5 ⟨rfl, v5, h5⟩
    go_wp2_with fail
    go_end0
    exact ⟨rfl, v5, HF.out _ _ _ (by rw [HE.out]; simp [cat]) h5⟩
  · obtain ⟨y, ky, rfl⟩ := one_of (ks := ks) (by have := HC.out; rw [hk] at har; simp [Tr.arit] at har; omega)
    have HE := Lib.hid (part_as (y := y) (ky := ky) hk)
    rw [HE.out] at hl
    simp only [List.length_append, List.length_cons, List.length_nil] at hl
    have HT := Lib.hid (Tr.may_as HM.out hk)
    have HQ := Lib.hid HP1.out.rebase
    have z4 := Lib.hid (HKZ.out 4 _ x4)
    have HK := Lib.hid (kid_any w0 _ L HN.out 0 y ky HA.out.1)
    have HR1 : Hid (∃ R, L.drop (i + 1) = (y :: ky.flat) ++ R) := Lib.hid (by obtain ⟨R, h⟩ := HRK.out; exact ⟨R, by rw [h]; simp [Tr.F.flat]⟩)
    rw [hk] at x0
    go_wp2_with fail
    generalize hwz : wb.setCell ⟨b, 3, none⟩ (.int .i64 ((i : Int) + 1)) = wz at *
    refine (put_at [⟨#[40]⟩] _ _ HQ.out HZS.out (by simp [cat, Lib.byteCells]; omega) (by simp) (by simp)).mono ?_
    rintro e w3 ⟨rfl, v3, h3⟩
    have HP3 := Lib.hid h3
    clear h3
    go_wp2_with fail
    refine (HK.out _ _ _ _ _ _ _ _ _ HP3.out HR1.out (by simp [cat, Lib.byteCells]; omega)).mono ?_
    rintro e w4 ⟨rfl, v4, h4⟩
    have HP4 := Lib.hid h4
    have x4' := h4.kept z4.out hne hno
    clear h4 HP3
    go_wp2_with fail
    refine (note_any x.t HT.out _).mono ?_
    rintro e w5 ⟨rfl, hb5⟩
    have HP5 := Lib.hid (HP4.out.later hb5)
    clear hb5 HP4 x4'
    go_wp2_with fail
    refine (put_lit [⟨(Pt.note x.t).toArray⟩, ⟨#[41]⟩] _ HP5.out (by simp [cat, Lib.byteCells]; omega) (by simp) (by simp)).mono ?_
    rintro e w6 ⟨rfl, v6, h6⟩
    go_wp2_with fail
    go_end0
    refine ⟨rfl, v6, HF.out _ _ _ (by rw [HE.out]) ?_⟩
    have := HP1.out.join h6
    simp only [Tr.F.flat, List.append_nil, List.length_cons] at this ⊢
    rw [Nat.add_comm ky.flat.length 1]
    simpa [cat] using this
  · have HE := Lib.hid (part_list hk ks)
    rw [HE.out] at hl
    simp only [List.length_append, List.length_cons, List.length_nil] at hl
    have HQ := Lib.hid HP1.out.rebase
    have z1 := Lib.hid (HKZ.out 1 _ x1)
    rw [hk] at x0
    go_wp2_with fail
    generalize hwz : wb.setCell ⟨b, 3, none⟩ (.int .i64 ((i : Int) + 1)) = wz at *
    refine (put_at [⟨#[91]⟩] _ _ HQ.out HZS.out (by simp [cat, Lib.byteCells]; omega) (by simp) (by simp)).mono ?_
    rintro e w3 ⟨rfl, v3, h3⟩
    have HP3 := Lib.hid h3
    have x1' := h3.kept z1.out hne hno
    clear h3
    go_wp2_with fail
    refine (within_n w0 _ L HN.out ks HA.out hsz HC.out HP3.out HRK.out (by simp [cat, Lib.byteCells]; omega)).mono ?_
    rintro e w4 ⟨rfl, v4, h4⟩
    have HP4 := Lib.hid h4
    clear h4 x1' HP3
    go_wp2_with fail
    refine (put_lit [⟨#[93]⟩] _ HP4.out (by simp [cat, Lib.byteCells]; omega) (by simp) (by simp)).mono ?_
    rintro e w5 ⟨rfl, v5, h5⟩
    go_wp2_with fail
    go_end0
    refine ⟨rfl, v5, HF.out _ _ _ (by rw [HE.out]) ?_⟩
    have := HP1.out.join h5
    simpa [cat] using this
  · obtain ⟨y, ky, z, kz, rfl⟩ := two_of (ks := ks) (by have := HC.out; rw [hk] at har; simp [Tr.arit] at har; omega)
    have HE := Lib.hid (part_call (y := y) (ky := ky) (z := z) (kz := kz) hk)
    rw [HE.out] at hl
    simp only [List.length_append, List.length_cons, List.length_nil] at hl
    have HK := Lib.hid (kid_any w0 _ L HN.out 5 y ky HA.out.1)
    have HK2 := Lib.hid (kid_any w0 _ L HN.out 0 z kz HA.out.2.1)
    have HR1 : Hid (∃ R, L.drop (i + 1) = (y :: ky.flat) ++ R) := Lib.hid (by obtain ⟨R, h⟩ := HRK.out; exact ⟨(z :: kz.flat) ++ R, by rw [h]; simp [Tr.F.flat]⟩)
    have HR2 : Hid (∃ R, L.drop (i + 1 + (1 + ky.flat.length)) = (z :: kz.flat) ++ R) := Lib.hid (by
      obtain ⟨R, hR⟩ := HRK.out
      obtain ⟨R, h⟩ := drop_step (L := L) (i := i + 1) (y := y) (z := z) (ky := ky) (kz := kz) (r := .cons z kz .nil) ⟨R, by rw [hR]; simp [Tr.F.flat]⟩
      exact ⟨R, by rw [h]; simp [Tr.F.flat]⟩)
    rw [hk] at x0
    go_wp2_with fail
    generalize hwz : wb.setCell ⟨b, 3, none⟩ (.int .i64 ((i : Int) + 1)) = wz at *
    refine (HK.out _ _ _ _ _ _ _ _ _ HP1.out HR1.out (by omega)).mono ?_
    rintro e w3 ⟨rfl, v3, h3⟩
    have HP3 := Lib.hid h3
    clear h3
    go_wp2_with fail
    refine (put_lit [⟨#[40]⟩] _ HP3.out (by simp [cat]; omega) (by simp) (by simp)).mono ?_
    rintro e w4 ⟨rfl, v4, h4⟩
    have HP4 := Lib.hid h4
    clear h4 HP3
    go_wp2_with fail
    refine (HK2.out _ _ _ _ _ _ _ _ _ HP4.out HR2.out (by simp [cat]; omega)).mono ?_
    rintro e w5 ⟨rfl, v5, h5⟩
    have HP5 := Lib.hid h5
    clear h5 HP4
    go_wp2_with fail
    refine (put_lit [⟨#[41]⟩] _ HP5.out (by simp [cat]; omega) (by simp) (by simp)).mono ?_
    rintro e w6 ⟨rfl, v6, h6⟩
    go_wp2_with fail
    go_end0
    refine ⟨rfl, v6, HF.out _ _ _ (by rw [HE.out]) ?_⟩
    simp only [Tr.F.flat, List.append_nil, List.length_cons, List.length_append]
    have e : i + 1 + (1 + ky.flat.length) + (1 + kz.flat.length) = i + 1 + (ky.flat.length + (kz.flat.length + 1) + 1) := by omega
    rw [← e]
    simpa [cat] using h6
  · have hcn : ks.cnt = if x.kind = 25 then 2 else 1 := by
      have := HC.out
      rw [hk2] at har
      split at har <;> split <;> omega
    have HE := Lib.hid (part_word hk ks hcn)
    rw [HE.out] at hl
    simp only [List.length_append, List.length_cons, List.length_nil] at hl
    have q1 : ¬ x.kind = 1 := by omega
    have q2 : ¬ x.kind = 2 := by omega
    have q3 : ¬ x.kind = 3 := by omega
    have q4 : ¬ x.kind = 4 := by omega
    have q5 : ¬ x.kind = 18 := by omega
    have q6 : ¬ x.kind = 29 := by omega
    have q7 : ¬ x.kind = 21 := by omega
    have q8 : ¬ x.kind = 7 := by omega
    have HAP := Lib.hid (applied_any x.kind)
    have HQ := Lib.hid HP1.out.rebase
    have z0 := Lib.hid (HKZ.out 0 _ x0)
    have z1 := Lib.hid (HKZ.out 1 _ x1)
    have hwn : ((⟨(wordOf x.kind).toArray⟩ : ByteArray)).toList.isEmpty = false := by
      rw [toL']
      unfold wordOf
      rcases hk with h | h | h | h | h | h | h | h <;> simp [h]
    have hws : wordOf x.kind = (⟨(wordOf x.kind).toArray⟩ : ByteArray).data.toList := rfl
    have HWS := Lib.hid hws
    have hsl : (wordOf x.kind).length = (⟨(wordOf x.kind).toArray⟩ : ByteArray).size := by simp [ByteArray.size]
    rw [hsl] at hl
    clear hk hk2 har kar hcn hws hsl
    generalize (⟨(wordOf x.kind).toArray⟩ : ByteArray) = wd at *
    go_wp2_with fail
    generalize hwz : wb.setCell ⟨b, 3, none⟩ (.int .i64 ((i : Int) + 1)) = wz at *
    refine (HAP.out wz).mono ?_
    rintro e w2 ⟨rfl, rfl⟩
    go_wp2_with fail
    refine (put_lit [wd, ⟨#[40]⟩] _ HQ.out (by simp [cat, Lib.byteCells]; omega) (by simp) (by simp)).mono ?_
    rintro e w3 ⟨rfl, v3, h3⟩
    have HP3 := Lib.hid h3
    have x1' := h3.kept z1.out hne hno
    clear h3
    go_wp2_with fail
    refine (within_n w0 _ L HN.out ks HA.out hsz HC.out HP3.out HRK.out (by simp [cat, Lib.byteCells]; omega)).mono ?_
    rintro e w4 ⟨rfl, v4, h4⟩
    have HP4 := Lib.hid h4
    clear h4 x1' HP3
    go_wp2_with fail
    refine (put_lit [⟨#[41]⟩] _ HP4.out (by simp [cat, Lib.byteCells]; omega) (by simp) (by simp)).mono ?_
    rintro e w5 ⟨rfl, v5, h5⟩
    go_wp2_with fail
    go_end0
    refine ⟨rfl, v5, HF.out _ _ _ (by rw [HE.out]) ?_⟩
    have := HP1.out.join h5
    rw [HWS.out]
    simpa [cat] using this
  · have q1 : ¬ x.kind = 1 := by omega
    have q2 : ¬ x.kind = 2 := by omega
    have q3 : ¬ x.kind = 3 := by omega
    have q4 : ¬ x.kind = 4 := by omega
    have q5 : ¬ x.kind = 18 := by omega
    have q6 : ¬ x.kind = 29 := by omega
    have q7 : ¬ x.kind = 21 := by omega
    have q8 : ¬ x.kind = 7 := by omega
    have HW := Lib.hid (wide_any w0 _ L HN.out x hzs ks HM.out HC.out HA.out hk)
    have HAP := applied_any x.kind
    rw [show wordOf x.kind = [] by unfold wordOf; rcases hk with h | h | h | h | h | h | h | h | h | h | h | h | h <;> simp [h]] at HAP
    have HAP := Lib.hid HAP
    have z0 := Lib.hid (HKZ.out 0 _ x0)
    have z1 := Lib.hid (HKZ.out 1 _ x1)
    have z2 := Lib.hid (HKZ.out 2 _ x2)
    have z3 := Lib.hid (HKZ.out 3 _ x3)
    have z4 := Lib.hid (HKZ.out 4 _ x4)
    have z5 := Lib.hid (HKZ.out 5 _ x5)
    have z6 := Lib.hid (HKZ.out 6 _ x6)
    have z7 := Lib.hid (HKZ.out 7 _ x7)
    clear hk har kar
    go_wp2_with fail
    generalize hwz : wb.setCell ⟨b, 3, none⟩ (.int .i64 ((i : Int) + 1)) = wz at *
    refine (HAP.out wz).mono ?_
    rintro e w2 ⟨rfl, rfl⟩
    have z0 := z0.out
    have z1 := z1.out
    have z2 := z2.out
    have z3 := z3.out
    have z4 := z4.out
    have z5 := z5.out
    have z6 := z6.out
    have z7 := z7.out
    go_wp2_with fail
    refine (HW.out _ _ _ _ _ _ _ _ _ HP1.out HRK.out hl).mono ?_
    rintro e w3 ⟨rfl, v3, h3⟩
    go_wp2_with fail
    go_end0
    exact ⟨rfl, v3, HF.out _ _ _ rfl h3⟩
/-- What node does with all parts of a forest. -/
theorem all_parts (w0 : World) (lv : Value) (L : List Nd) (hN : Nodes w0 lv L) (hL : L.length ≤ 1000000000) (hz : ∀ x ∈ L, x.s.size ≤ 140737488351232 ∧ x.n ≤ 9223372036854775807) (hPw : Pw w0) : ∀ (f : Tr.F), f.Ok → (∀ x ∈ f.flat, Tr.may x = true) → f.flat.length ≤ 100000 → AllP w0 lv L f
  | .nil, _, _, _ => trivial
  | .cons x ks r, hO, hm, hn => by
    have hl : ks.flat.length ≤ 100000 ∧ r.flat.length ≤ 100000 := by simp only [Tr.F.flat, List.length_cons, List.length_append] at hn; omega
    exact ⟨node_step w0 lv L hN hL hz hPw x ks (hm x (by simp [Tr.F.flat])) hO.1 (all_parts w0 lv L hN hL hz hPw ks hO.2.1 (fun y hy => hm y (by simp [Tr.F.flat, hy])) hl.1) (Nat.le_trans ks.cnt_le hl.1),
      all_parts w0 lv L hN hL hz hPw r hO.2.2 (fun y hy => hm y (by simp [Tr.F.flat, hy])) hl.2⟩
end Go.Proofs.YtacihffkjadbbaaGreatDoor

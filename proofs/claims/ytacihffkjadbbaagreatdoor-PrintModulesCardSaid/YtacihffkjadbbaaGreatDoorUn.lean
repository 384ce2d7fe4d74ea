
/- Walks of the document's chapter 7: annotations, what is written around the parts. -/
import Derived.Test.YtacihffkjadbbaaGreatDoorUm
import Derived.Test.YtacihffkjadbbaaGreatDoorDec
import Derived.Test.YtacihffkjadbbaaGreatDoorRnm
import Derived.Test.YtacihffkjadbbaaGreatDoorUk
namespace Culp.Tr
set_option linter.unusedSimpArgs false
set_option linter.unusedVariables false
open Culp
theorem name_len32 {l : List UInt8} (h : Tx.isName l = true) : l.length ≤ 32 := by
  unfold Tx.isName at h
  simp only [Bool.and_eq_true, decide_eq_true_eq] at h
  exact h.1.1.1.2
theorem may_two_len {x : Nd} (h : may x = true) (hk : x.kind = 6) {f a : List UInt8} (h2 : two x.s.data.toList = some (f, a)) : f.length ≤ 1000 ∧ a.length ≤ 1000 := by
  unfold may sOk twoOk at h
  simp only [Bool.and_eq_true, hk, h2] at h
  have h3 := h.1.1.2
  simp at h3
  exact ⟨Nat.le_trans (name_len32 h3.1) (by decide), Nat.le_trans (name_len32 h3.2) (by decide)⟩
end Culp.Tr
namespace Go.Proofs.YtacihffkjadbbaaGreatDoor
set_option linter.unusedSimpArgs false
set_option linter.unusedVariables false
open Go.RowKit Culp
set_option maxRecDepth 100000 in
set_option maxHeartbeats 1600000 in
theorem r7Note_any (s : ByteArray) (hs : s.size = 0 ∨ isTy s.data.toList = true) (w : World) : Calls Tryz.prog 46 #[.string s] w (Makes (.string (bs (Pt.note s))) w) := by
  by_cases h0 : s.size = 0
  · have he : s = { data := #[] } := by
      apply ByteArray.ext
      apply Array.ext'
      exact List.eq_nil_of_length_eq_zero (by simpa using h0)
    subst he
    go_enter Tryz.func46, Tryz.ntmps46
    go_wp2_with fail
    go_ret
    exact Makes.mk rfl (Below.refl _ _)
  · obtain ⟨t, rfl, ht⟩ := ty_of s (by simpa [h0] using hs)
    have HW := Lib.hid (r7Type_any t ht)
    unfold RTyP at HW
    rw [note_str t ht]
    have hwl : (bs (Pt.wr t)).size ≤ 400 := by
      have := wr_len t
      have : t.enc.length ≤ 64 := ht
      rw [bs_size]
      omega
    have hne : t.str.toList.isEmpty = false := by
      have := t.enc_pos
      rw [toL, str_list]
      cases h : t.enc with
      | nil => rw [h] at this; simp at this
      | cons _ _ => rfl
    generalize t.str = st at *
    go_enter Tryz.func46, Tryz.ntmps46
    go_wp2_with fail
    refine (HW.out _).mono ?_
    rintro e w1 ⟨rfl, hb1⟩
    go_wp2_with fail
    go_ret
    refine Makes.mk ?_ hb1
    exact str_congr (bs_app [32, 58, 32] (Pt.wr t))
theorem note_len (s : ByteArray) (hs : s.size = 0 ∨ isTy s.data.toList = true) : (Pt.note s).length ≤ 400 := by
  by_cases h0 : s.size = 0
  · unfold Pt.note; rw [if_pos h0]; simp
  · obtain ⟨t, rfl, ht⟩ := ty_of s (by simpa [h0] using hs)
    rw [note_str t ht]
    have := wr_len t
    have : t.enc.length ≤ 64 := ht
    simp; omega
/-- What Pieces answers. -/
def pieces (x : Nd) : Value := .tuple #[.string (bs (Pt.pre x)), .string (bs (Pt.sep x 1)), .string (bs (Pt.post x))]
set_option maxRecDepth 100000 in
set_option maxHeartbeats 12800000 in
theorem pieces_word (x : Nd) (w : World) (hk : x.kind = 28 ∨ x.kind = 14 ∨ x.kind = 15 ∨ x.kind = 10 ∨ x.kind = 11 ∨ x.kind = 13 ∨ x.kind = 12 ∨ x.kind = 16 ∨ x.kind = 27 ∨ x.kind = 7 ∨ x.kind = 18 ∨ x.kind = 21 ∨ x.kind = 26 ∨ x.kind = 17 ∨ x.kind = 19 ∨ x.kind = 20 ∨ x.kind = 22 ∨ x.kind = 23 ∨ x.kind = 24 ∨ x.kind = 25) :
    Calls Tryz.prog 79 #[x.val] w (Makes (pieces x) w) := by
  have hb : Below w.heap.size w (w.alloc (.cells x.cells.toArray 41)) := (Below.refl _ _).alloc (Nat.le_refl _) _
  have HE : ∀ k, x.kind = k → Hid (x.kind = k) := fun _ h => Lib.hid h
  unfold Nd.val
  unfold Nd.cells at *
  rcases hk with hk | hk | hk | hk | hk | hk | hk | hk | hk | hk | hk | hk | hk | hk | hk | hk | hk | hk | hk | hk
  all_goals
    have HK := HE _ hk
    rw [hk] at hb ⊢
    have HB := Lib.hid hb
    clear hk hb HE
    go_enter Tryz.func79, Tryz.ntmps79
    go_wp2_with fail
    refine bodyPost_ret (by simp [results, Tryz.results79, go_sem]; rfl) rfl ?_
    refine Makes.mk ?_ HB.out
    have hk := HK.out
    simp [pieces, Pt.pre, Pt.sep, Pt.post, hk, bs]
theorem box_cell (w : World) (cs : Array Value) (t : TypeId) (j : Nat) (u : Value) (h : cs[j]? = some u) : (w.alloc (.cells cs t)).cell? ⟨w.heap.size, j, none⟩ = some u := by
  rw [Lib.cell_of_heap (heap_alloc_new w _)]
  exact h
set_option maxRecDepth 100000 in
set_option maxHeartbeats 6400000 in
theorem pieces_num (x : Nd) (w : World) (hk : x.kind = 1) (h0 : 0 ≤ x.n) (h1 : x.n ≤ 9223372036854775807) : Calls Tryz.prog 79 #[x.val] w (Makes (pieces x) w) := by
  have HD := Lib.hid (fun w => Decimal_any x.n.toNat w (by omega))
  rw [show ((x.n.toNat : Nat) : Int) = x.n by omega] at HD
  have hb : Below w.heap.size w (w.alloc (.cells x.cells.toArray 41)) := (Below.refl _ _).alloc (Nat.le_refl _) _
  have HK := Lib.hid hk
  have x2 : (w.alloc (.cells x.cells.toArray 41)).cell? ⟨w.heap.size, 2, none⟩ = some (.int .i64 x.n) := box_cell w x.cells.toArray 41 2 _ rfl
  have x3 : (w.alloc (.cells x.cells.toArray 41)).cell? ⟨w.heap.size, 3, none⟩ = some (.string x.s) := box_cell w x.cells.toArray 41 3 _ rfl
  have x4 : (w.alloc (.cells x.cells.toArray 41)).cell? ⟨w.heap.size, 4, none⟩ = some (.string x.t) := box_cell w x.cells.toArray 41 4 _ rfl
  have x5 : (w.alloc (.cells x.cells.toArray 41)).cell? ⟨w.heap.size, 5, none⟩ = some (.string x.u) := box_cell w x.cells.toArray 41 5 _ rfl
  unfold Nd.val
  unfold Nd.cells at *
  rw [hk] at hb x2 x3 x4 x5 ⊢
  have HB := Lib.hid hb
  clear hk hb
  clear x2 x3 x4 x5
  go_enter Tryz.func79, Tryz.ntmps79
  go_wp2_with fail
  refine (HD.out _).mono ?_
  rintro e w1 ⟨rfl, hb1⟩
  have HB1 := Lib.hid (below_later hb1 HB.out)
  clear hb1
  go_wp2_with fail
  refine bodyPost_ret (by simp [results, Tryz.results79, go_sem]; rfl) rfl ?_
  refine Makes.mk ?_ HB1.out
  have hk := HK.out
  simp [pieces, Pt.pre, Pt.sep, Pt.post, hk, bs, bs]
set_option maxRecDepth 100000 in
set_option maxHeartbeats 6400000 in
theorem pieces_str (x : Nd) (w : World) (hk : x.kind = 2) (hs : x.s.size ≤ 140737488351232) {q : List UInt8} (hq : Tx.quote x.s.data.toList = some q) : Calls Tryz.prog 79 #[x.val] w (Makes (pieces x) w) := by
  have HD := Lib.hid (fun w => rQuote_any x.s w hs)
  have HQ := Lib.hid hq
  have hb : Below w.heap.size w (w.alloc (.cells x.cells.toArray 41)) := (Below.refl _ _).alloc (Nat.le_refl _) _
  have HK := Lib.hid hk
  have x2 : (w.alloc (.cells x.cells.toArray 41)).cell? ⟨w.heap.size, 2, none⟩ = some (.int .i64 x.n) := box_cell w x.cells.toArray 41 2 _ rfl
  have x3 : (w.alloc (.cells x.cells.toArray 41)).cell? ⟨w.heap.size, 3, none⟩ = some (.string x.s) := box_cell w x.cells.toArray 41 3 _ rfl
  have x4 : (w.alloc (.cells x.cells.toArray 41)).cell? ⟨w.heap.size, 4, none⟩ = some (.string x.t) := box_cell w x.cells.toArray 41 4 _ rfl
  have x5 : (w.alloc (.cells x.cells.toArray 41)).cell? ⟨w.heap.size, 5, none⟩ = some (.string x.u) := box_cell w x.cells.toArray 41 5 _ rfl
  unfold Nd.val
  unfold Nd.cells at *
  rw [hk] at hb x2 x3 x4 x5 ⊢
  have HB := Lib.hid hb
  clear hk hb
  clear x2 x3 x4 x5 hq
  go_enter Tryz.func79, Tryz.ntmps79
  go_wp2_with fail
  refine (HD.out _).mono ?_
  rintro e w1 hq2
  obtain ⟨hb1, he⟩ := hq2
  rw [HQ.out] at he
  obtain rfl := he
  have HB1 := Lib.hid (below_later hb1 HB.out)
  clear hb1
  go_wp2_with fail
  have hq := HQ.out
  refine bodyPost_ret (by simp [results, Tryz.results79, go_sem]; rfl) rfl ?_
  refine Makes.mk ?_ HB1.out
  have hk := HK.out
  simp [pieces, Pt.pre, Pt.sep, Pt.post, hk, bs, Pt.strOf, hq]
set_option maxRecDepth 100000 in
set_option maxHeartbeats 6400000 in
theorem pieces_truth (x : Nd) (w : World) (hk : x.kind = 3) : Calls Tryz.prog 79 #[x.val] w (Makes (pieces x) w) := by
  by_cases h1 : x.n = 1
  · have HN := Lib.hid h1
    have q1 : (x.n == 1) = true := by simp [h1]
    clear h1
    have hb : Below w.heap.size w (w.alloc (.cells x.cells.toArray 41)) := (Below.refl _ _).alloc (Nat.le_refl _) _
    have HK := Lib.hid hk
    have x2 : (w.alloc (.cells x.cells.toArray 41)).cell? ⟨w.heap.size, 2, none⟩ = some (.int .i64 x.n) := box_cell w x.cells.toArray 41 2 _ rfl
    have x3 : (w.alloc (.cells x.cells.toArray 41)).cell? ⟨w.heap.size, 3, none⟩ = some (.string x.s) := box_cell w x.cells.toArray 41 3 _ rfl
    have x4 : (w.alloc (.cells x.cells.toArray 41)).cell? ⟨w.heap.size, 4, none⟩ = some (.string x.t) := box_cell w x.cells.toArray 41 4 _ rfl
    have x5 : (w.alloc (.cells x.cells.toArray 41)).cell? ⟨w.heap.size, 5, none⟩ = some (.string x.u) := box_cell w x.cells.toArray 41 5 _ rfl
    unfold Nd.val
    unfold Nd.cells at *
    rw [hk] at hb x2 x3 x4 x5 ⊢
    have HB := Lib.hid hb
    clear hk hb
    clear x2 x3 x4 x5
    go_enter Tryz.func79, Tryz.ntmps79
    go_wp2_with fail
    have hn := HN.out
    refine bodyPost_ret (by simp [results, Tryz.results79, go_sem]; rfl) rfl ?_
    refine Makes.mk ?_ HB.out
    have hk := HK.out
    simp [pieces, Pt.pre, Pt.sep, Pt.post, hk, bs, hn]
  · have HN := Lib.hid h1
    have q1 : (x.n == 1) = false := beq_no h1
    clear h1
    have hb : Below w.heap.size w (w.alloc (.cells x.cells.toArray 41)) := (Below.refl _ _).alloc (Nat.le_refl _) _
    have HK := Lib.hid hk
    have x2 : (w.alloc (.cells x.cells.toArray 41)).cell? ⟨w.heap.size, 2, none⟩ = some (.int .i64 x.n) := box_cell w x.cells.toArray 41 2 _ rfl
    have x3 : (w.alloc (.cells x.cells.toArray 41)).cell? ⟨w.heap.size, 3, none⟩ = some (.string x.s) := box_cell w x.cells.toArray 41 3 _ rfl
    have x4 : (w.alloc (.cells x.cells.toArray 41)).cell? ⟨w.heap.size, 4, none⟩ = some (.string x.t) := box_cell w x.cells.toArray 41 4 _ rfl
    have x5 : (w.alloc (.cells x.cells.toArray 41)).cell? ⟨w.heap.size, 5, none⟩ = some (.string x.u) := box_cell w x.cells.toArray 41 5 _ rfl
    unfold Nd.val
    unfold Nd.cells at *
    rw [hk] at hb x2 x3 x4 x5 ⊢
    have HB := Lib.hid hb
    clear hk hb
    clear x2 x3 x4 x5
    go_enter Tryz.func79, Tryz.ntmps79
    go_wp2_with fail
    have hn := HN.out
    refine bodyPost_ret (by simp [results, Tryz.results79, go_sem]; rfl) rfl ?_
    refine Makes.mk ?_ HB.out
    have hk := HK.out
    simp [pieces, Pt.pre, Pt.sep, Pt.post, hk, bs, hn]
set_option maxRecDepth 100000 in
set_option maxHeartbeats 6400000 in
theorem pieces_var (x : Nd) (w : World) (hk : x.kind = 4) : Calls Tryz.prog 79 #[x.val] w (Makes (pieces x) w) := by
  have hb : Below w.heap.size w (w.alloc (.cells x.cells.toArray 41)) := (Below.refl _ _).alloc (Nat.le_refl _) _
  have HK := Lib.hid hk
  have x2 : (w.alloc (.cells x.cells.toArray 41)).cell? ⟨w.heap.size, 2, none⟩ = some (.int .i64 x.n) := box_cell w x.cells.toArray 41 2 _ rfl
  have x3 : (w.alloc (.cells x.cells.toArray 41)).cell? ⟨w.heap.size, 3, none⟩ = some (.string x.s) := box_cell w x.cells.toArray 41 3 _ rfl
  have x4 : (w.alloc (.cells x.cells.toArray 41)).cell? ⟨w.heap.size, 4, none⟩ = some (.string x.t) := box_cell w x.cells.toArray 41 4 _ rfl
  have x5 : (w.alloc (.cells x.cells.toArray 41)).cell? ⟨w.heap.size, 5, none⟩ = some (.string x.u) := box_cell w x.cells.toArray 41 5 _ rfl
  unfold Nd.val
  unfold Nd.cells at *
  rw [hk] at hb x2 x3 x4 x5 ⊢
  have HB := Lib.hid hb
  clear hk hb
  clear x2 x3 x4 x5
  go_enter Tryz.func79, Tryz.ntmps79
  go_wp2_with fail
  refine bodyPost_ret (by simp [results, Tryz.results79, go_sem]; rfl) rfl ?_
  refine Makes.mk ?_ HB.out
  have hk := HK.out
  simp [pieces, Pt.pre, Pt.sep, Pt.post, hk, bs, bs]
set_option maxRecDepth 100000 in
set_option maxHeartbeats 6400000 in
theorem pieces_as (x : Nd) (w : World) (hk : x.kind = 29) (ht : x.t.size = 0 ∨ isTy x.t.data.toList = true) : Calls Tryz.prog 79 #[x.val] w (Makes (pieces x) w) := by
  have HD := Lib.hid (fun w => r7Note_any x.t ht w)
  have hl : (bs (Pt.note x.t)).size ≤ 400 := by rw [bs_size]; exact note_len _ ht
  have hb : Below w.heap.size w (w.alloc (.cells x.cells.toArray 41)) := (Below.refl _ _).alloc (Nat.le_refl _) _
  have HK := Lib.hid hk
  have x2 : (w.alloc (.cells x.cells.toArray 41)).cell? ⟨w.heap.size, 2, none⟩ = some (.int .i64 x.n) := box_cell w x.cells.toArray 41 2 _ rfl
  have x3 : (w.alloc (.cells x.cells.toArray 41)).cell? ⟨w.heap.size, 3, none⟩ = some (.string x.s) := box_cell w x.cells.toArray 41 3 _ rfl
  have x4 : (w.alloc (.cells x.cells.toArray 41)).cell? ⟨w.heap.size, 4, none⟩ = some (.string x.t) := box_cell w x.cells.toArray 41 4 _ rfl
  have x5 : (w.alloc (.cells x.cells.toArray 41)).cell? ⟨w.heap.size, 5, none⟩ = some (.string x.u) := box_cell w x.cells.toArray 41 5 _ rfl
  unfold Nd.val
  unfold Nd.cells at *
  rw [hk] at hb x2 x3 x4 x5 ⊢
  have HB := Lib.hid hb
  clear hk hb
  clear x2 x3 x4 x5 ht
  go_enter Tryz.func79, Tryz.ntmps79
  go_wp2_with fail
  refine (HD.out _).mono ?_
  rintro e w1 ⟨rfl, hb1⟩
  have HB1 := Lib.hid (below_later hb1 HB.out)
  clear hb1
  go_wp2_with fail
  refine bodyPost_ret (by simp [results, Tryz.results79, go_sem]; rfl) rfl ?_
  refine Makes.mk ?_ HB1.out
  have hk := HK.out
  simp [pieces, Pt.pre, Pt.sep, Pt.post, hk, bs, bs]
  exact bs_app _ _
theorem app2 (a b : ByteArray) : (a ++ b).data.toList = a.data.toList ++ b.data.toList := by simp
theorem below_later2 {W x y : World} (hb : Below x.heap.size x y) (h : Below W.heap.size W x) : Below W.heap.size W y := below_later hb h
set_option maxRecDepth 100000 in
set_option maxHeartbeats 12800000 in
theorem pieces_fn (x : Nd) (w : World) (hk : x.kind = 5) (hs : x.s.size ≤ 140737488351232) (ht : x.t.size = 0 ∨ isTy x.t.data.toList = true) (hu : x.u.size = 0 ∨ isTy x.u.data.toList = true) : Calls Tryz.prog 79 #[x.val] w (Makes (pieces x) w) := by
  have HD := Lib.hid (fun w => r7Note_any x.t ht w)
  have HU := Lib.hid (fun w => r7Note_any x.u hu w)
  have hl : (bs (Pt.note x.t)).size ≤ 400 := by rw [bs_size]; exact note_len _ ht
  have hl2 : (bs (Pt.note x.u)).size ≤ 400 := by rw [bs_size]; exact note_len _ hu
  have hb : Below w.heap.size w (w.alloc (.cells x.cells.toArray 41)) := (Below.refl _ _).alloc (Nat.le_refl _) _
  have HK := Lib.hid hk
  have x2 : (w.alloc (.cells x.cells.toArray 41)).cell? ⟨w.heap.size, 2, none⟩ = some (.int .i64 x.n) := box_cell w x.cells.toArray 41 2 _ rfl
  have x3 : (w.alloc (.cells x.cells.toArray 41)).cell? ⟨w.heap.size, 3, none⟩ = some (.string x.s) := box_cell w x.cells.toArray 41 3 _ rfl
  have x4 : (w.alloc (.cells x.cells.toArray 41)).cell? ⟨w.heap.size, 4, none⟩ = some (.string x.t) := box_cell w x.cells.toArray 41 4 _ rfl
  have x5 : (w.alloc (.cells x.cells.toArray 41)).cell? ⟨w.heap.size, 5, none⟩ = some (.string x.u) := box_cell w x.cells.toArray 41 5 _ rfl
  unfold Nd.val
  unfold Nd.cells at *
  rw [hk] at hb x2 x3 x4 x5 ⊢
  have HB := Lib.hid hb
  clear hk hb
  clear x2 ht hu
  go_enter Tryz.func79, Tryz.ntmps79
  go_wp2_with fail
  generalize hwb : w.alloc (.cells _ 41) = wb at *
  refine wp_region_plan (S := fun w' => w'.cell? ⟨w.heap.size, 3, none⟩ = some (.string x.s) ∧ w'.cell? ⟨w.heap.size, 4, none⟩ = some (.string x.t) ∧ w'.cell? ⟨w.heap.size, 5, none⟩ = some (.string x.u))
    [(0, true), (1, true), (2, true), (3, true), (4, true), (8, true), (9, true), (5, false), (6, true), (7, true), (10, false), (11, true), (12, true), (13, true), (14, true), (15, true)] (by kernel_rfl) (by kernel_rfl) (by kernel_rfl) (fun _ _ _ _ _ h => h) ⟨x3, x4, x5⟩ ?_
  intro HS
  repeat (first | (apply wpPlan_look; rfl; rfl; (intro wq hq; (try dsimp only at hq); go_split_ands; go_simp; (try rw [if_neg (by omega)]); (try rw [if_pos (by omega)]); try with_reducible rfl); simp only [Act.put, List.setIfInBounds_toArray, List.set_cons_zero, List.set_cons_succ]) | (apply wpPlan_skip; rfl; rfl; simp only [Act.put, List.setIfInBounds_toArray, List.set_cons_zero, List.set_cons_succ]) | (apply wpPlan_pass; rfl; rfl; assumption; simp only [Act.put, List.setIfInBounds_toArray, List.set_cons_zero, List.set_cons_succ]))
  apply wpPlan_call; rfl; rfl; rfl; rfl; kernel_rfl; exact HD.out _; rfl; rintro e w2 ⟨rfl, hb2⟩
  have hb2' : Below wb.heap.size wb w2 := ((Below.refl wb.heap.size wb).drew).trans (hb2.mono ((Below.refl wb.heap.size wb).drew.size))
  refine ⟨_, rfl, as_S ⟨cell_later hb2' x3, cell_later hb2' x4, cell_later hb2' x5⟩ ?_⟩
  clear HS
  intro HS
  simp only [Act.put, List.setIfInBounds_toArray, List.set_cons_zero, List.set_cons_succ]
  repeat (first | (apply wpPlan_look; rfl; rfl; (intro wq hq; (try dsimp only at hq); go_split_ands; go_simp; (try rw [if_neg (by omega)]); (try rw [if_pos (by omega)]); try with_reducible rfl); simp only [Act.put, List.setIfInBounds_toArray, List.set_cons_zero, List.set_cons_succ]) | (apply wpPlan_skip; rfl; rfl; simp only [Act.put, List.setIfInBounds_toArray, List.set_cons_zero, List.set_cons_succ]) | (apply wpPlan_pass; rfl; rfl; assumption; simp only [Act.put, List.setIfInBounds_toArray, List.set_cons_zero, List.set_cons_succ]))
  apply wpPlan_call; rfl; rfl; rfl; rfl; kernel_rfl; exact HU.out _; rfl; rintro e w3 ⟨rfl, hb3⟩
  have hb3' : Below wb.heap.size wb w3 := hb2'.trans (hb3.mono hb2'.size)
  refine ⟨_, rfl, as_S ⟨cell_later hb3' x3, cell_later hb3' x4, cell_later hb3' x5⟩ ?_⟩
  clear HS
  intro HS
  simp only [Act.put, List.setIfInBounds_toArray, List.set_cons_zero, List.set_cons_succ]
  repeat (first | (apply wpPlan_look; rfl; rfl; (intro wq hq; (try dsimp only at hq); go_split_ands; go_simp; (try rw [if_neg (by omega)]); (try rw [if_pos (by omega)]); try with_reducible rfl); simp only [Act.put, List.setIfInBounds_toArray, List.set_cons_zero, List.set_cons_succ]) | (apply wpPlan_skip; rfl; rfl; simp only [Act.put, List.setIfInBounds_toArray, List.set_cons_zero, List.set_cons_succ]) | (apply wpPlan_pass; rfl; rfl; assumption; simp only [Act.put, List.setIfInBounds_toArray, List.set_cons_zero, List.set_cons_succ]))
  apply wpPlan_done
  have HB3 := Lib.hid (below_later2 hb3' HB.out)
  clear HS hb2 hb2' hb3 hb3' x3 x4 x5
  go_wp2_with fail
  refine bodyPost_ret (by simp [results, Tryz.results79, go_sem]; rfl) rfl ?_
  refine Makes.mk ?_ HB3.out
  have hk := HK.out
  have e1 : ({ data := #[102, 110, 32, 40] } : ByteArray) ++ x.s ++ bs (Pt.note x.t) ++ { data := #[41] } ++ bs (Pt.note x.u) ++ { data := #[32, 61, 62, 32] } = bs (Pt.pre x) := str_inj' (by simp [Pt.pre, hk, bs])
  rw [e1]
  simp [pieces, Pt.sep, Pt.post, hk, bs]
set_option maxRecDepth 100000 in
set_option maxHeartbeats 12800000 in
theorem pieces_rec (x : Nd) (w : World) (hk : x.kind = 6) (hs : x.s.size ≤ 140737488351232) (ht : x.t.size = 0 ∨ isTy x.t.data.toList = true) (hu : x.u.size = 0 ∨ isTy x.u.data.toList = true) {f a : List UInt8} (h2 : Tr.two x.s.data.toList = some (f, a)) (hfl : f.length ≤ 1000) (hal : a.length ≤ 1000) : Calls Tryz.prog 79 #[x.val] w (Makes (pieces x) w) := by
  have HD := Lib.hid (fun w => r7Note_any x.t ht w)
  have HU := Lib.hid (fun w => r7Note_any x.u hu w)
  have HR := Lib.hid (fun w => rNames_any x.s w hs)
  have H2 := Lib.hid h2
  have hl : (bs (Pt.note x.t)).size ≤ 400 := by rw [bs_size]; exact note_len _ ht
  have hl2 : (bs (Pt.note x.u)).size ≤ 400 := by rw [bs_size]; exact note_len _ hu
  have hl3 : (bs f).size ≤ 1000 := hfl
  have hl4 : (bs a).size ≤ 1000 := hal
  have hb : Below w.heap.size w (w.alloc (.cells x.cells.toArray 41)) := (Below.refl _ _).alloc (Nat.le_refl _) _
  have HK := Lib.hid hk
  have x2 : (w.alloc (.cells x.cells.toArray 41)).cell? ⟨w.heap.size, 2, none⟩ = some (.int .i64 x.n) := box_cell w x.cells.toArray 41 2 _ rfl
  have x3 : (w.alloc (.cells x.cells.toArray 41)).cell? ⟨w.heap.size, 3, none⟩ = some (.string x.s) := box_cell w x.cells.toArray 41 3 _ rfl
  have x4 : (w.alloc (.cells x.cells.toArray 41)).cell? ⟨w.heap.size, 4, none⟩ = some (.string x.t) := box_cell w x.cells.toArray 41 4 _ rfl
  have x5 : (w.alloc (.cells x.cells.toArray 41)).cell? ⟨w.heap.size, 5, none⟩ = some (.string x.u) := box_cell w x.cells.toArray 41 5 _ rfl
  unfold Nd.val
  unfold Nd.cells at *
  rw [hk] at hb x2 x3 x4 x5 ⊢
  have HB := Lib.hid hb
  clear hk hb
  clear x2 ht hu h2 hfl hal
  go_enter Tryz.func79, Tryz.ntmps79
  go_wp2_with fail
  refine (HR.out _).mono ?_
  rintro E w1 ⟨f', a', rfl, hfa, hb1⟩
  obtain ⟨rfl, rfl⟩ := hfa _ _ H2.out
  generalize hwb : w.alloc (.cells _ 41) = wb at *
  clear hfa
  have HF : Hid (({ data := f.toArray } : ByteArray) = bs f) := Lib.hid rfl
  have HA : Hid (({ data := a.toArray } : ByteArray) = bs a) := Lib.hid rfl
  rw [HF.out, HA.out]
  generalize hbf : bs f = sf at *
  generalize hba : bs a = sa at *
  have HBF := Lib.hid hbf
  have HBA := Lib.hid hba
  clear hbf hba HF HA
  go_wp2_with fail
  replace x3 := cell_later hb1 x3
  replace x4 := cell_later hb1 x4
  replace x5 := cell_later hb1 x5
  have HB1 := Lib.hid (below_later hb1 HB.out)
  clear hb1 HB hwb
  have HB := HB1
  obtain ⟨wb, rfl⟩ : ∃ wb, wb = w1 := ⟨_, rfl⟩
  refine wp_region_plan (S := fun w' => w'.cell? ⟨w.heap.size, 3, none⟩ = some (.string x.s) ∧ w'.cell? ⟨w.heap.size, 4, none⟩ = some (.string x.t) ∧ w'.cell? ⟨w.heap.size, 5, none⟩ = some (.string x.u))
    [(0, true), (1, true), (2, true), (3, true), (4, true), (5, true), (6, true), (10, true), (11, true), (7, false), (8, true), (9, true), (12, false), (13, true), (14, true), (15, true), (16, true), (17, true)] (by kernel_rfl) (by kernel_rfl) (by kernel_rfl) (fun _ _ _ _ _ h => h) ⟨x3, x4, x5⟩ ?_
  intro HS
  repeat (first | (apply wpPlan_look; rfl; rfl; (intro wq hq; (try dsimp only at hq); go_split_ands; go_simp; (try rw [if_neg (by omega)]); (try rw [if_pos (by omega)]); try with_reducible rfl); simp only [Act.put, List.setIfInBounds_toArray, List.set_cons_zero, List.set_cons_succ]) | (apply wpPlan_skip; rfl; rfl; simp only [Act.put, List.setIfInBounds_toArray, List.set_cons_zero, List.set_cons_succ]) | (apply wpPlan_pass; rfl; rfl; assumption; simp only [Act.put, List.setIfInBounds_toArray, List.set_cons_zero, List.set_cons_succ]))
  apply wpPlan_call; rfl; rfl; rfl; rfl; kernel_rfl; exact HD.out _; rfl; rintro e w2 ⟨rfl, hb2⟩
  have hb2' : Below wb.heap.size wb w2 := ((Below.refl wb.heap.size wb).drew).trans (hb2.mono ((Below.refl wb.heap.size wb).drew.size))
  refine ⟨_, rfl, as_S ⟨cell_later hb2' x3, cell_later hb2' x4, cell_later hb2' x5⟩ ?_⟩
  clear HS
  intro HS
  simp only [Act.put, List.setIfInBounds_toArray, List.set_cons_zero, List.set_cons_succ]
  repeat (first | (apply wpPlan_look; rfl; rfl; (intro wq hq; (try dsimp only at hq); go_split_ands; go_simp; (try rw [if_neg (by omega)]); (try rw [if_pos (by omega)]); try with_reducible rfl); simp only [Act.put, List.setIfInBounds_toArray, List.set_cons_zero, List.set_cons_succ]) | (apply wpPlan_skip; rfl; rfl; simp only [Act.put, List.setIfInBounds_toArray, List.set_cons_zero, List.set_cons_succ]) | (apply wpPlan_pass; rfl; rfl; assumption; simp only [Act.put, List.setIfInBounds_toArray, List.set_cons_zero, List.set_cons_succ]))
  apply wpPlan_call; rfl; rfl; rfl; rfl; kernel_rfl; exact HU.out _; rfl; rintro e w3 ⟨rfl, hb3⟩
  have hb3' : Below wb.heap.size wb w3 := hb2'.trans (hb3.mono hb2'.size)
  refine ⟨_, rfl, as_S ⟨cell_later hb3' x3, cell_later hb3' x4, cell_later hb3' x5⟩ ?_⟩
  clear HS
  intro HS
  simp only [Act.put, List.setIfInBounds_toArray, List.set_cons_zero, List.set_cons_succ]
  repeat (first | (apply wpPlan_look; rfl; rfl; (intro wq hq; (try dsimp only at hq); go_split_ands; go_simp; (try rw [if_neg (by omega)]); (try rw [if_pos (by omega)]); try with_reducible rfl); simp only [Act.put, List.setIfInBounds_toArray, List.set_cons_zero, List.set_cons_succ]) | (apply wpPlan_skip; rfl; rfl; simp only [Act.put, List.setIfInBounds_toArray, List.set_cons_zero, List.set_cons_succ]) | (apply wpPlan_pass; rfl; rfl; assumption; simp only [Act.put, List.setIfInBounds_toArray, List.set_cons_zero, List.set_cons_succ]))
  apply wpPlan_done
  have HB3 := Lib.hid (below_later2 hb3' HB.out)
  clear HS hb2 hb2' hb3 hb3' x3 x4 x5
  go_wp2_with fail
  refine bodyPost_ret (by simp [results, Tryz.results79, go_sem]; rfl) rfl ?_
  refine Makes.mk ?_ HB3.out
  have hk := HK.out
  have hf2 := HBF.out
  have ha2 := HBA.out
  have h2 := H2.out
  subst hf2 ha2
  have e1 : ({ data := #[114, 101, 99, 32] } : ByteArray) ++ bs f ++ { data := #[32, 40] } ++ bs a ++ bs (Pt.note x.t) ++ { data := #[41] } ++ bs (Pt.note x.u) ++ { data := #[32, 61, 62, 32] } = bs (Pt.pre x) := str_inj' (by simp [Pt.pre, hk, bs, h2])
  rw [e1]
  simp [pieces, Pt.sep, Pt.post, hk, bs]
set_option maxRecDepth 100000 in
set_option maxHeartbeats 12800000 in
theorem pieces_let (x : Nd) (w : World) (hk : x.kind = 8) (hs : x.s.size ≤ 140737488351232) (ht : x.t.size = 0 ∨ isTy x.t.data.toList = true) : Calls Tryz.prog 79 #[x.val] w (Makes (pieces x) w) := by
  have HD := Lib.hid (fun w => r7Note_any x.t ht w)
  have hl : (bs (Pt.note x.t)).size ≤ 400 := by rw [bs_size]; exact note_len _ ht
  have hb : Below w.heap.size w (w.alloc (.cells x.cells.toArray 41)) := (Below.refl _ _).alloc (Nat.le_refl _) _
  have HK := Lib.hid hk
  have x2 : (w.alloc (.cells x.cells.toArray 41)).cell? ⟨w.heap.size, 2, none⟩ = some (.int .i64 x.n) := box_cell w x.cells.toArray 41 2 _ rfl
  have x3 : (w.alloc (.cells x.cells.toArray 41)).cell? ⟨w.heap.size, 3, none⟩ = some (.string x.s) := box_cell w x.cells.toArray 41 3 _ rfl
  have x4 : (w.alloc (.cells x.cells.toArray 41)).cell? ⟨w.heap.size, 4, none⟩ = some (.string x.t) := box_cell w x.cells.toArray 41 4 _ rfl
  have x5 : (w.alloc (.cells x.cells.toArray 41)).cell? ⟨w.heap.size, 5, none⟩ = some (.string x.u) := box_cell w x.cells.toArray 41 5 _ rfl
  unfold Nd.val
  unfold Nd.cells at *
  rw [hk] at hb x2 x3 x4 x5 ⊢
  have HB := Lib.hid hb
  clear hk hb
  clear x2 ht x5
  go_enter Tryz.func79, Tryz.ntmps79
  go_wp2_with fail
  generalize hwb : w.alloc (.cells _ 41) = wb at *
  refine wp_region_plan (S := fun w' => w'.cell? ⟨w.heap.size, 3, none⟩ = some (.string x.s) ∧ w'.cell? ⟨w.heap.size, 4, none⟩ = some (.string x.t))
    [(0, true), (1, true), (2, true), (3, true), (4, true), (5, false), (6, true), (7, true), (8, true), (9, true), (10, true)] (by kernel_rfl) (by kernel_rfl) (by kernel_rfl) (fun _ _ _ _ _ h => h) ⟨x3, x4⟩ ?_
  intro HS
  repeat (first | (apply wpPlan_look; rfl; rfl; (intro wq hq; (try dsimp only at hq); go_split_ands; go_simp; (try rw [if_neg (by omega)]); (try rw [if_pos (by omega)]); try with_reducible rfl); simp only [Act.put, List.setIfInBounds_toArray, List.set_cons_zero, List.set_cons_succ]) | (apply wpPlan_skip; rfl; rfl; simp only [Act.put, List.setIfInBounds_toArray, List.set_cons_zero, List.set_cons_succ]) | (apply wpPlan_pass; rfl; rfl; assumption; simp only [Act.put, List.setIfInBounds_toArray, List.set_cons_zero, List.set_cons_succ]))
  apply wpPlan_call; rfl; rfl; rfl; rfl; kernel_rfl; exact HD.out _; rfl; rintro e w2 ⟨rfl, hb2⟩
  have hb2' : Below wb.heap.size wb w2 := ((Below.refl wb.heap.size wb).drew).trans (hb2.mono ((Below.refl wb.heap.size wb).drew.size))
  refine ⟨_, rfl, as_S ⟨cell_later hb2' x3, cell_later hb2' x4⟩ ?_⟩
  clear HS
  intro HS
  simp only [Act.put, List.setIfInBounds_toArray, List.set_cons_zero, List.set_cons_succ]
  repeat (first | (apply wpPlan_look; rfl; rfl; (intro wq hq; (try dsimp only at hq); go_split_ands; go_simp; (try rw [if_neg (by omega)]); (try rw [if_pos (by omega)]); try with_reducible rfl); simp only [Act.put, List.setIfInBounds_toArray, List.set_cons_zero, List.set_cons_succ]) | (apply wpPlan_skip; rfl; rfl; simp only [Act.put, List.setIfInBounds_toArray, List.set_cons_zero, List.set_cons_succ]) | (apply wpPlan_pass; rfl; rfl; assumption; simp only [Act.put, List.setIfInBounds_toArray, List.set_cons_zero, List.set_cons_succ]))
  apply wpPlan_done
  have HB3 := Lib.hid (below_later2 hb2' HB.out)
  clear HS hb2 hb2' x3 x4
  go_wp2_with fail
  refine bodyPost_ret (by simp [results, Tryz.results79, go_sem]; rfl) rfl ?_
  refine Makes.mk ?_ HB3.out
  have hk := HK.out
  have e1 : ({ data := #[108, 101, 116, 32] } : ByteArray) ++ x.s ++ bs (Pt.note x.t) ++ { data := #[32, 61, 32] } = bs (Pt.pre x) := str_inj' (by simp [Pt.pre, hk, bs])
  rw [e1]
  simp [pieces, Pt.sep, Pt.post, hk, bs]
/-- All kinds but one. -/
theorem pieces_any (x : Nd) (w : World) (hm : Tr.may x = true) (hk : x.kind ≠ 9) (hs : x.s.size ≤ 140737488351232) (hn : x.n ≤ 9223372036854775807) : Calls Tryz.prog 79 #[x.val] w (Makes (pieces x) w) := by
  obtain ⟨k30, kar⟩ := Tr.may_kind hm
  rcases Tr.kind_or kar k30 with h | h | h | h | h | h | h | h | ⟨h, -⟩ | h
  · exact pieces_num x w h (Tr.may_n hm h) hn
  · obtain ⟨q, hq⟩ := Tr.may_str hm h
    exact pieces_str x w h hs hq
  · exact pieces_truth x w h
  · exact pieces_var x w h
  · exact pieces_word x w (by omega)
  · exact pieces_as x w h (Tr.may_as hm h)
  · exact pieces_word x w (by omega)
  · exact pieces_word x w (by omega)
  · exact pieces_word x w (by omega)
  · rcases h with h | h | h | h | h
    · exact pieces_fn x w h hs (Tr.may_t hm (.inl h)) (Tr.may_u hm (.inl h))
    · obtain ⟨f, a, h2⟩ := Tr.may_two hm h
      have hl := Tr.may_two_len hm h h2
      exact pieces_rec x w h hs (Tr.may_t hm (.inr (.inl h))) (Tr.may_u hm (.inr h)) h2 hl.1 hl.2
    · exact pieces_let x w h hs (Tr.may_t hm (.inr (.inr h)))
    · exact absurd h hk
    · exact pieces_word x w (by omega)
end Go.Proofs.YtacihffkjadbbaaGreatDoor


/- Walks of insert: the node of the term, without its kids. -/
import Derived.Test.YtdfadmhomjcmeaaGreatDoorNm
namespace Go.Proofs.YtdfadmhomjcmeaaGreatDoor
set_option linter.unusedSimpArgs false
set_option linter.unusedVariables false
open Go.RowKit Culp
/-- A node that is answered, and what was there stays. -/
def NodeRes (y : Nd) (w : World) (E : Ending) (w' : World) : Prop := E = .returned y.val ∧ Below w.heap.size w w'
theorem alloc3 (w : World) (a b c : Obj) : (((w.alloc a).alloc b).alloc c).heap[w.heap.size]? = some a := by
  have h1 : (w.alloc a).heap[w.heap.size]? = some a := (MapKept.heap_alloc w a).1
  have hb : Below (w.alloc a).heap.size (w.alloc a) (((w.alloc a).alloc b).alloc c) := ((Below.refl _ _).alloc (Nat.le_refl _) _).alloc (by simp) _
  exact (hb.block _ (by simp)).trans h1
theorem alloc3_below (w : World) (a b c : Obj) : Below w.heap.size w (((w.alloc a).alloc b).alloc c) := (((Below.refl _ _).alloc (Nat.le_refl _) _).alloc (by simp) _).alloc (by simp; omega) _
theorem alloc3_top (w : World) (a b c : Obj) : (((w.alloc a).alloc b).alloc c).heap[w.heap.size + 1 + 1]? = some c := by
  have h := (MapKept.heap_alloc ((w.alloc a).alloc b) c).1
  rwa [show ((w.alloc a).alloc b).heap.size = w.heap.size + 1 + 1 by simp] at h
theorem node_cells : (Tryz.prog.info? 38).map (·.size) = some 8 := by kernel_rfl
section
variable {W w : World} {c : Nat} {m : ByteArray} {tv yv sv kv nv : Value} {S : List Ins.Sit} {ys : List ByteArray} {T : List Nd} {x : Nd} {p p0 p1 p2 : Nat} {t0 t1 t2 : Ty} {Kl : List (Nat × Ty)}
set_option maxRecDepth 100000 in
set_option maxHeartbeats 1600000 in
theorem bare_1 (hx : T[p]? = some x) (hk : x.kind = 1) (hN : Nodes W tv T) (hTl : T.length ≤ 1000000) (h : InAt W c m tv yv sv S w) :
    Calls Tryz.prog 69 #[.pointer (some ⟨c, 0, none⟩), .int .i64 (p : Int), kv, nv] w (NodeRes (⟨1, x.kids, x.n, Ins.no, Ins.no, Ins.no, x.line, x.col⟩) w) := by
  have HI := Lib.hid h
  have hp := (List.getElem?_eq_some_iff.1 hx).1
  obtain ⟨k, kd, n, s, t, u, l, cl⟩ := x
  obtain rfl : k = 1 := hk
  have hb1 := (Below.refl w.heap.size w).alloc (Nat.le_refl _) (.cells #[.int .i8 0, .int .i64 0, .int .i64 0, .string { data := #[] }, .string { data := #[] }, .string { data := #[] }, .int .i64 0, .int .i64 0] 38)
  have c1 := (h.later hb1).c1
  obtain ⟨A, C, rfl, hlc, hNN⟩ := (hN.later h.low).later hb1
  obtain ⟨b, off, rfl, hM⟩ := hNN (by omega)
  obtain ⟨n0, n1, n2, n3, n4, n5, n6, n7⟩ := hM.at_ hx
  clear hM hNN hN h hx hb1
  simp only at n0 n1 n2 n3 n4 n5 n6 n7
  have HB3 := Lib.hid (fun a b c => alloc3_below w a b c)
  clear HI
  go_enter Tryz.func69, Tryz.ntmps69
  go_wp2_with fail
  refine bodyPost_ret (results_cell_row rfl _ _ w.heap.size 38 _ (0, 0) _ rfl (alloc3 _ _ _ _) Tryz.underlying38 rfl node_cells) rfl ⟨rfl, HB3.out _ _ _⟩
set_option maxRecDepth 100000 in
set_option maxHeartbeats 1600000 in
theorem bare_3 (hx : T[p]? = some x) (hk : x.kind = 3) (hN : Nodes W tv T) (hTl : T.length ≤ 1000000) (h : InAt W c m tv yv sv S w) :
    Calls Tryz.prog 69 #[.pointer (some ⟨c, 0, none⟩), .int .i64 (p : Int), kv, nv] w (NodeRes (⟨3, x.kids, x.n, Ins.no, Ins.no, Ins.no, x.line, x.col⟩) w) := by
  have HI := Lib.hid h
  have hp := (List.getElem?_eq_some_iff.1 hx).1
  obtain ⟨k, kd, n, s, t, u, l, cl⟩ := x
  obtain rfl : k = 3 := hk
  have hb1 := (Below.refl w.heap.size w).alloc (Nat.le_refl _) (.cells #[.int .i8 0, .int .i64 0, .int .i64 0, .string { data := #[] }, .string { data := #[] }, .string { data := #[] }, .int .i64 0, .int .i64 0] 38)
  have c1 := (h.later hb1).c1
  obtain ⟨A, C, rfl, hlc, hNN⟩ := (hN.later h.low).later hb1
  obtain ⟨b, off, rfl, hM⟩ := hNN (by omega)
  obtain ⟨n0, n1, n2, n3, n4, n5, n6, n7⟩ := hM.at_ hx
  clear hM hNN hN h hx hb1
  simp only at n0 n1 n2 n3 n4 n5 n6 n7
  have HB3 := Lib.hid (fun a b c => alloc3_below w a b c)
  clear HI
  go_enter Tryz.func69, Tryz.ntmps69
  go_wp2_with fail
  refine bodyPost_ret (results_cell_row rfl _ _ w.heap.size 38 _ (0, 0) _ rfl (alloc3 _ _ _ _) Tryz.underlying38 rfl node_cells) rfl ⟨rfl, HB3.out _ _ _⟩
set_option maxRecDepth 100000 in
set_option maxHeartbeats 1600000 in
theorem bare_2 (hx : T[p]? = some x) (hk : x.kind = 2) (hN : Nodes W tv T) (hTl : T.length ≤ 1000000) (h : InAt W c m tv yv sv S w) :
    Calls Tryz.prog 69 #[.pointer (some ⟨c, 0, none⟩), .int .i64 (p : Int), kv, nv] w (NodeRes (⟨2, x.kids, 0, x.s, Ins.no, Ins.no, x.line, x.col⟩) w) := by
  have HI := Lib.hid h
  have hp := (List.getElem?_eq_some_iff.1 hx).1
  obtain ⟨k, kd, n, s, t, u, l, cl⟩ := x
  obtain rfl : k = 2 := hk
  have hb1 := (Below.refl w.heap.size w).alloc (Nat.le_refl _) (.cells #[.int .i8 0, .int .i64 0, .int .i64 0, .string { data := #[] }, .string { data := #[] }, .string { data := #[] }, .int .i64 0, .int .i64 0] 38)
  have c1 := (h.later hb1).c1
  obtain ⟨A, C, rfl, hlc, hNN⟩ := (hN.later h.low).later hb1
  obtain ⟨b, off, rfl, hM⟩ := hNN (by omega)
  obtain ⟨n0, n1, n2, n3, n4, n5, n6, n7⟩ := hM.at_ hx
  clear hM hNN hN h hx hb1
  simp only at n0 n1 n2 n3 n4 n5 n6 n7
  have HB3 := Lib.hid (fun a b c => alloc3_below w a b c)
  clear HI
  go_enter Tryz.func69, Tryz.ntmps69
  go_wp2_with fail
  refine bodyPost_ret (results_cell_row rfl _ _ w.heap.size 38 _ (0, 0) _ rfl (alloc3 _ _ _ _) Tryz.underlying38 rfl node_cells) rfl ⟨rfl, HB3.out _ _ _⟩
set_option maxRecDepth 100000 in
set_option maxHeartbeats 1600000 in
theorem bare_rest (hx : T[p]? = some x) (h1 : ¬ x.kind = 1) (h2 : ¬ x.kind = 2) (h3 : ¬ x.kind = 3) (h4 : ¬ x.kind = 4) (h5 : ¬ x.kind = 5) (h6 : ¬ x.kind = 6) (h8 : ¬ x.kind = 8) (h21 : ¬ x.kind = 21) (hN : Nodes W tv T) (hTl : T.length ≤ 1000000) (h : InAt W c m tv yv sv S w) :
    Calls Tryz.prog 69 #[.pointer (some ⟨c, 0, none⟩), .int .i64 (p : Int), kv, nv] w (NodeRes ⟨x.kind, x.kids, 0, Ins.no, Ins.no, Ins.no, x.line, x.col⟩ w) := by
  have hp := (List.getElem?_eq_some_iff.1 hx).1
  obtain ⟨k, kd, n, s, t, u, l, cl⟩ := x
  have hb1 := (Below.refl w.heap.size w).alloc (Nat.le_refl _) (.cells #[.int .i8 0, .int .i64 0, .int .i64 0, .string { data := #[] }, .string { data := #[] }, .string { data := #[] }, .int .i64 0, .int .i64 0] 38)
  have c1 := (h.later hb1).c1
  obtain ⟨A, C, rfl, hlc, hNN⟩ := (hN.later h.low).later hb1
  obtain ⟨b, off, rfl, hM⟩ := hNN (by omega)
  obtain ⟨n0, n1, n2, n3, n4, n5, n6, n7⟩ := hM.at_ hx
  have HB3 := Lib.hid (fun a b c => alloc3_below w a b c)
  clear hM hNN hN h hx hb1
  simp only at n0 n1 n2 n3 n4 n5 n6 n7 h1 h2 h3 h4 h5 h6 h8 h21
  go_enter Tryz.func69, Tryz.ntmps69
  go_wp2_with fail
  refine bodyPost_ret (results_cell_row rfl _ _ w.heap.size 38 _ (0, 0) _ rfl (alloc3 _ _ _ _) Tryz.underlying38 rfl node_cells) rfl ⟨rfl, HB3.out _ _ _⟩
end
end Go.Proofs.YtdfadmhomjcmeaaGreatDoor

/- Walks of insert: the node of the term: names, annotations, lists. -/
namespace Go.Proofs.YtdfadmhomjcmeaaGreatDoor
set_option linter.unusedSimpArgs false
set_option linter.unusedVariables false
open Go.RowKit Culp
section
variable {W w : World} {c : Nat} {m : ByteArray} {tv yv sv kv nv : Value} {S : List Ins.Sit} {ys : List ByteArray} {T : List Nd} {x : Nd} {p p0 p1 p2 : Nat} {t0 t1 t2 : Ty} {Kl : List (Nat × Ty)}
set_option maxRecDepth 100000 in
set_option maxHeartbeats 1600000 in
theorem bare_4 (hx : T[p]? = some x) (hk : x.kind = 4) (hN : Nodes W tv T) (hTl : T.length ≤ 1000000) (h : InAt W c m tv yv sv S w) (N : List ByteArray) (hNm : Txts w nv N) (hNl : N.length ≤ 1000000000):
    Calls Tryz.prog 69 #[.pointer (some ⟨c, 0, none⟩), .int .i64 (p : Int), kv, nv] w (NodeRes (⟨4, x.kids, (Ins.dist N.reverse x.s : Int), Ins.no, Ins.no, Ins.no, x.line, x.col⟩) w) := by
  have HI := Lib.hid h
  have hp := (List.getElem?_eq_some_iff.1 hx).1
  obtain ⟨k, kd, n, s, t, u, l, cl⟩ := x
  obtain rfl : k = 4 := hk
  have hb1 := (Below.refl w.heap.size w).alloc (Nat.le_refl _) (.cells #[.int .i8 0, .int .i64 0, .int .i64 0, .string { data := #[] }, .string { data := #[] }, .string { data := #[] }, .int .i64 0, .int .i64 0] 38)
  have c1 := (h.later hb1).c1
  obtain ⟨A, C, rfl, hlc, hNN⟩ := (hN.later h.low).later hb1
  obtain ⟨b, off, rfl, hM⟩ := hNN (by omega)
  obtain ⟨n0, n1, n2, n3, n4, n5, n6, n7⟩ := hM.at_ hx
  clear hM hNN hN h hx hb1
  simp only at n0 n1 n2 n3 n4 n5 n6 n7
  have HB3 := Lib.hid (fun a b c => alloc3_below w a b c)
  have HD := Lib.hid (fun a b c => distance_any N nv s _ (hNm.later (alloc3_below w a b c)) hNl)
  clear HI hNm
  go_enter Tryz.func69, Tryz.ntmps69
  go_wp2_with fail
  refine (HD.out _ _ _).mono ?_
  rintro E w5 ⟨rfl, rfl⟩
  go_wp2_with fail
  refine bodyPost_ret (results_cell_row rfl _ _ w.heap.size 38 _ (0, 0) _ rfl (alloc3 _ _ _ _) Tryz.underlying38 rfl node_cells) rfl ⟨rfl, HB3.out _ _ _⟩
set_option maxRecDepth 100000 in
set_option maxHeartbeats 1600000 in
theorem bare_8 (hx : T[p]? = some x) (hk : x.kind = 8) (hN : Nodes W tv T) (hTl : T.length ≤ 1000000) (h : InAt W c m tv yv sv S w) (hn : NoteOk x.t):
    Calls Tryz.prog 69 #[.pointer (some ⟨c, 0, none⟩), .int .i64 (p : Int), kv, nv] w (NodeRes (⟨8, x.kids, 0, Ins.no, (Tr.noteT x.t).str, Ins.no, x.line, x.col⟩) w) := by
  have HI := Lib.hid h
  have hp := (List.getElem?_eq_some_iff.1 hx).1
  obtain ⟨k, kd, n, s, t, u, l, cl⟩ := x
  obtain rfl : k = 8 := hk
  have hb1 := (Below.refl w.heap.size w).alloc (Nat.le_refl _) (.cells #[.int .i8 0, .int .i64 0, .int .i64 0, .string { data := #[] }, .string { data := #[] }, .string { data := #[] }, .int .i64 0, .int .i64 0] 38)
  have c1 := (h.later hb1).c1
  obtain ⟨A, C, rfl, hlc, hNN⟩ := (hN.later h.low).later hb1
  obtain ⟨b, off, rfl, hM⟩ := hNN (by omega)
  obtain ⟨n0, n1, n2, n3, n4, n5, n6, n7⟩ := hM.at_ hx
  clear hM hNN hN h hx hb1
  simp only at n0 n1 n2 n3 n4 n5 n6 n7
  have HB3 := Lib.hid (fun a b c => alloc3_below w a b c)
  have HU := Lib.hid (fun w' => iunknown_any t hn w')
  clear HI
  go_enter Tryz.func69, Tryz.ntmps69
  go_wp2_with fail
  refine (HU.out _).mono ?_
  rintro E w5 ⟨rfl, rfl⟩
  go_wp2_with fail
  refine bodyPost_ret (results_cell_row rfl _ _ w.heap.size 38 _ (0, 0) _ rfl (alloc3 _ _ _ _) Tryz.underlying38 rfl node_cells) rfl ⟨rfl, HB3.out _ _ _⟩
end
end Go.Proofs.YtdfadmhomjcmeaaGreatDoor

/- Walks of insert: the node of the term: lists. -/
namespace Go.Proofs.YtdfadmhomjcmeaaGreatDoor
set_option linter.unusedSimpArgs false
set_option linter.unusedVariables false
open Go.RowKit Culp
section
variable {W w : World} {c : Nat} {m : ByteArray} {tv yv sv kv nv : Value} {S : List Ins.Sit} {ys : List ByteArray} {T : List Nd} {x : Nd} {p p0 p1 p2 : Nat} {t0 t1 t2 : Ty} {Kl : List (Nat × Ty)}
theorem stop_mark {p : Prop} (h : Hid p) : p := h.out
set_option maxRecDepth 100000 in
set_option maxHeartbeats 1600000 in
theorem bare_21 (hx : T[p]? = some x) (hk : x.kind = 21) (hN : Nodes W tv T) (hTl : T.length ≤ 1000000) (h : InAt W c m tv yv sv S w) (hk2 : KidsV c w kv (Kl.map Prod.fst) ∨ (Kl = [] ∧ ∃ A C, kv = .slice A 0 C)) (hT : Told ys Kl) (hMC : Ins.MetC .dyn (Kl.map Prod.snd)) (hl : Kl.length ≤ 1000000) (hY : Nms W yv ys):
    Calls Tryz.prog 69 #[.pointer (some ⟨c, 0, none⟩), .int .i64 (p : Int), kv, nv] w (NodeRes (⟨21, x.kids, 0, Ins.no, (Ins.met (Kl.map Prod.snd)).str, Ins.no, x.line, x.col⟩) w) := by
  have HI := Lib.hid h
  have hp := (List.getElem?_eq_some_iff.1 hx).1
  obtain ⟨k, kd, n, s, t, u, l, cl⟩ := x
  obtain rfl : k = 21 := hk
  have hb1 := (Below.refl w.heap.size w).alloc (Nat.le_refl _) (.cells #[.int .i8 0, .int .i64 0, .int .i64 0, .string { data := #[] }, .string { data := #[] }, .string { data := #[] }, .int .i64 0, .int .i64 0] 38)
  have c1 := (h.later hb1).c1
  obtain ⟨A, C, rfl, hlc, hNN⟩ := (hN.later h.low).later hb1
  obtain ⟨b, off, rfl, hM⟩ := hNN (by omega)
  obtain ⟨n0, n1, n2, n3, n4, n5, n6, n7⟩ := hM.at_ hx
  clear hM hNN hN h hx hb1
  simp only at n0 n1 n2 n3 n4 n5 n6 n7
  have HB3 := Lib.hid (fun a b c => alloc3_below w a b c)
  have HMT := Lib.hid (fun a3 b3 c3 => imet_any (W := W) (m := m) (tv := .slice (some ⟨b, off, none⟩) T.length C) (sv := sv) (S := S) (w := ((w.alloc a3).alloc b3).alloc c3) (c := c) Kl kv (hk2.imp (fun h => h.keep (Keep.of (alloc3_below w a3 b3 c3))) id) hT hMC hl hY (HI.out.later (alloc3_below w a3 b3 c3)))
  clear HI hk2 hT hMC hY
  go_enter Tryz.func69, Tryz.ntmps69
  go_wp2_with fail
  refine (HMT.out _ _ _).mono ?_
  rintro E w5 ⟨rfl, hb5⟩
  generalize hw3 : ((w.alloc _).alloc _).alloc _ = w3 at hb5
  have HB5 : Hid (Below w.heap.size w w5) := Lib.hid (by rw [← hw3] at hb5; exact below_later hb5 (HB3.out _ _ _))
  have HX0 : Hid (Box w.heap.size ⟨0, 0, 0, Ins.no, Ins.no, Ins.no, 0, 0⟩ w5) := Lib.hid (by
    have : w3.heap[w.heap.size]? = some (.cells (Nd.cells ⟨0, 0, 0, Ins.no, Ins.no, Ins.no, 0, 0⟩).toArray 38 (0, 0)) := by rw [← hw3]; exact alloc3 _ _ _ _
    exact (hb5.block _ (Array.getElem?_eq_some_iff.1 this).1).trans this)
  have HX2 : Hid (Box (w.heap.size + 1 + 1) ⟨21, kd, 0, Ins.no, Ins.no, Ins.no, l, cl⟩ w5) := Lib.hid (by
    have : w3.heap[w.heap.size + 1 + 1]? = some (.cells (Nd.cells ⟨21, kd, 0, Ins.no, Ins.no, Ins.no, l, cl⟩).toArray 38 (0, 0)) := by rw [← hw3]; exact alloc3_top _ _ _ _
    exact (hb5.block _ (Array.getElem?_eq_some_iff.1 this).1).trans this)
  clear hb5 hw3 HMT c1 n0 n1 n2 n3 n4 n5 n6 n7
  have HY6 : Hid ((w5.setCell ⟨w.heap.size + 1 + 1, 4, none⟩ (.string (Ins.met (Kl.map Prod.snd)).str)).heap[w.heap.size + 1 + 1]? = some (.cells #[.int .i8 21, .int .i64 kd, .int .i64 0, .string { data := #[] }, .string (Ins.met (Kl.map Prod.snd)).str, .string { data := #[] }, .int .i64 l, .int .i64 cl] 38 (0, 0))) := Lib.hid (heap_setCell_same w5 _ 4 _ _ _ HX2.out)
  have HZ6 : Hid ((w5.setCell ⟨w.heap.size + 1 + 1, 4, none⟩ (.string (Ins.met (Kl.map Prod.snd)).str)).heap[w.heap.size]? = some (.cells #[.int .i8 0, .int .i64 0, .int .i64 0, .string { data := #[] }, .string { data := #[] }, .string { data := #[] }, .int .i64 0, .int .i64 0] 38 (0, 0))) := Lib.hid ((heap_setCell_other w5 _ _ _ (by show w.heap.size ≠ w.heap.size + 1 + 1; omega)).trans HX0.out)
  have HB6 : Hid (Below w.heap.size w (w5.setCell ⟨w.heap.size + 1 + 1, 4, none⟩ (.string (Ins.met (Kl.map Prod.snd)).str))) := Lib.hid (HB5.out.trans ⟨rfl, rfl, rfl, by simp [World.setCell], fun k hk => heap_setCell_other w5 _ _ _ (by show k ≠ w.heap.size + 1 + 1; omega)⟩)
  have f2 : w5.frozen? ⟨w.heap.size + 1 + 1, 4, none⟩ = false := frozen_of_row _ _ _ _ _ HX2.out
  have y4 : w5.cell? ⟨w.heap.size + 1 + 1, 4, none⟩ = some (.string Ins.no) := HX2.out.cell 4
  go_wp2_with (refine wpList_load_row rfl _ _ rfl (w.heap.size + 1 + 1) rfl 38 _ (0, 0) _ HY6.out Tryz.underlying38 rfl node_cells ?_; apply stop_mark)
  refine Lib.hid ?_
  refine wpList_store_row rfl _ _ _ rfl w.heap.size #[.int .i8 21, .int .i64 kd, .int .i64 0, .string { data := #[] }, .string (Ins.met (Kl.map Prod.snd)).str, .string { data := #[] }, .int .i64 l, .int .i64 cl] rfl rfl 38 _ HZ6.out node_cells rfl (by simp [Value.oneCell']) ?_
  go_wp2_with fail
  refine bodyPost_ret (results_cell_row rfl _ _ w.heap.size 38 #[.int .i8 21, .int .i64 kd, .int .i64 0, .string { data := #[] }, .string (Ins.met (Kl.map Prod.snd)).str, .string { data := #[] }, .int .i64 l, .int .i64 cl] (0, 0) _ rfl (setRow_heap _ _ _ _ _ _ HZ6.out) Tryz.underlying38 rfl node_cells) rfl ⟨rfl, HB6.out.trans ⟨rfl, rfl, rfl, by simp [World.setRow], fun k hk => setRow_other _ _ k _ (by omega)⟩⟩
end
end Go.Proofs.YtdfadmhomjcmeaaGreatDoor

/- Walks of insert: the node of the term: functions. -/
namespace Go.Proofs.YtdfadmhomjcmeaaGreatDoor
set_option linter.unusedSimpArgs false
set_option linter.unusedVariables false
open Go.RowKit Culp
section
variable {W w : World} {c : Nat} {m : ByteArray} {tv yv sv kv nv : Value} {S : List Ins.Sit} {ys : List ByteArray} {T : List Nd} {x : Nd} {p p0 p1 p2 : Nat} {t0 t1 t2 : Ty} {Kl : List (Nat × Ty)}
set_option maxRecDepth 100000 in
set_option maxHeartbeats 1600000 in
theorem bare_5 (hx : T[p]? = some x) (hk : x.kind = 5) (hN : Nodes W tv T) (hTl : T.length ≤ 1000000) (h : InAt W c m tv yv sv S w) (hn : NoteOk x.t) (hn2 : NoteOk x.u):
    Calls Tryz.prog 69 #[.pointer (some ⟨c, 0, none⟩), .int .i64 (p : Int), kv, nv] w (NodeRes (⟨5, x.kids, 0, Ins.no, (Tr.noteT x.t).str, (Tr.noteT x.u).str, x.line, x.col⟩) w) := by
  have HI := Lib.hid h
  have hp := (List.getElem?_eq_some_iff.1 hx).1
  obtain ⟨k, kd, n, s, t, u, l, cl⟩ := x
  obtain rfl : k = 5 := hk
  have hb1 := (Below.refl w.heap.size w).alloc (Nat.le_refl _) (.cells #[.int .i8 0, .int .i64 0, .int .i64 0, .string { data := #[] }, .string { data := #[] }, .string { data := #[] }, .int .i64 0, .int .i64 0] 38)
  have c1 := (h.later hb1).c1
  obtain ⟨A, C, rfl, hlc, hNN⟩ := (hN.later h.low).later hb1
  obtain ⟨b, off, rfl, hM⟩ := hNN (by omega)
  obtain ⟨n0, n1, n2, n3, n4, n5, n6, n7⟩ := hM.at_ hx
  clear hM hNN hN h hx hb1
  simp only at n0 n1 n2 n3 n4 n5 n6 n7
  have HB3 := Lib.hid (fun (w' : World) (hb : Below w.heap.size w w') a b c => alloc3_below w' a b c)
  have HU1 := Lib.hid (fun w' => iunknown_any t hn w')
  have HU2 := Lib.hid (fun w' => iunknown_any u hn2 w')
  clear HI
  go_enter Tryz.func69, Tryz.ntmps69
  go_wp2_with fail
  have x4 : (((w.alloc (.cells #[.int .i8 0, .int .i64 0, .int .i64 0, .string { data := #[] }, .string { data := #[] }, .string { data := #[] }, .int .i64 0, .int .i64 0] 38)).alloc (.cells #[.int .i8 5, .int .i64 kd, .int .i64 n, .string s, .string t, .string u, .int .i64 l, .int .i64 cl] 38)).alloc (.cells #[.int .i8 5, .int .i64 kd, .int .i64 0, .string { data := #[] }, .string { data := #[] }, .string { data := #[] }, .int .i64 l, .int .i64 cl] 38)).cell? ⟨w.heap.size + 1, 4, none⟩ = some (.string t) := by simp [go_sem]
  have x5 : (((w.alloc (.cells #[.int .i8 0, .int .i64 0, .int .i64 0, .string { data := #[] }, .string { data := #[] }, .string { data := #[] }, .int .i64 0, .int .i64 0] 38)).alloc (.cells #[.int .i8 5, .int .i64 kd, .int .i64 n, .string s, .string t, .string u, .int .i64 l, .int .i64 cl] 38)).alloc (.cells #[.int .i8 5, .int .i64 kd, .int .i64 0, .string { data := #[] }, .string { data := #[] }, .string { data := #[] }, .int .i64 l, .int .i64 cl] 38)).cell? ⟨w.heap.size + 1, 5, none⟩ = some (.string u) := by simp [go_sem]
  refine wp_region_plan (S := fun w' => w'.cell? ⟨w.heap.size + 1, 4, none⟩ = some (.string t) ∧ w'.cell? ⟨w.heap.size + 1, 5, none⟩ = some (.string u)) [(0, true), (1, true), (3, true), (4, true), (2, false), (6, true), (5, false), (7, false), (8, true), (9, false)] (by kernel_rfl) (by kernel_rfl) (by kernel_rfl) (fun _ _ _ _ _ h => h) ⟨x4, x5⟩ ?_
  intro HS
  repeat (first | (apply wpPlan_look; rfl; rfl; (intro wq hq; (try dsimp only at hq); go_split_ands; go_simp; (try rw [if_neg (by omega)]); (try rw [if_pos (by omega)]); try with_reducible rfl); simp only [Act.put, List.setIfInBounds_toArray, List.set_cons_zero, List.set_cons_succ]) | (apply wpPlan_skip; rfl; rfl; simp only [Act.put, List.setIfInBounds_toArray, List.set_cons_zero, List.set_cons_succ]) | (apply wpPlan_pass; rfl; rfl; assumption; simp only [Act.put, List.setIfInBounds_toArray, List.set_cons_zero, List.set_cons_succ]))
  apply wpPlan_call; rfl; rfl; rfl; rfl; kernel_rfl; exact HU1.out _; rfl; rintro E w5 ⟨rfl, rfl⟩
  refine ⟨_, rfl, as_S HS ?_⟩
  intro HS
  simp only [Act.put, List.setIfInBounds_toArray, List.set_cons_zero, List.set_cons_succ]
  repeat (first | (apply wpPlan_look; rfl; rfl; (intro wq hq; (try dsimp only at hq); go_split_ands; go_simp; (try rw [if_neg (by omega)]); (try rw [if_pos (by omega)]); try with_reducible rfl); simp only [Act.put, List.setIfInBounds_toArray, List.set_cons_zero, List.set_cons_succ]) | (apply wpPlan_skip; rfl; rfl; simp only [Act.put, List.setIfInBounds_toArray, List.set_cons_zero, List.set_cons_succ]) | (apply wpPlan_pass; rfl; rfl; assumption; simp only [Act.put, List.setIfInBounds_toArray, List.set_cons_zero, List.set_cons_succ]))
  apply wpPlan_call; rfl; rfl; rfl; rfl; kernel_rfl; exact HU2.out _; rfl; rintro E w5 ⟨rfl, rfl⟩
  refine ⟨_, rfl, as_S HS ?_⟩
  intro HS
  simp only [Act.put, List.setIfInBounds_toArray, List.set_cons_zero, List.set_cons_succ]
  repeat (first | (apply wpPlan_look; rfl; rfl; (intro wq hq; (try dsimp only at hq); go_split_ands; go_simp; (try rw [if_neg (by omega)]); (try rw [if_pos (by omega)]); try with_reducible rfl); simp only [Act.put, List.setIfInBounds_toArray, List.set_cons_zero, List.set_cons_succ]) | (apply wpPlan_skip; rfl; rfl; simp only [Act.put, List.setIfInBounds_toArray, List.set_cons_zero, List.set_cons_succ]) | (apply wpPlan_pass; rfl; rfl; assumption; simp only [Act.put, List.setIfInBounds_toArray, List.set_cons_zero, List.set_cons_succ]))
  change wpPlan _ _ _ _ _ _ (((w.drew.alloc (.cells #[.int .i8 0, .int .i64 0, .int .i64 0, .string { data := #[] }, .string { data := #[] }, .string { data := #[] }, .int .i64 0, .int .i64 0] 38)).alloc (.cells #[.int .i8 5, .int .i64 kd, .int .i64 n, .string s, .string t, .string u, .int .i64 l, .int .i64 cl] 38)).alloc (.cells #[.int .i8 5, .int .i64 kd, .int .i64 0, .string { data := #[] }, .string { data := #[] }, .string { data := #[] }, .int .i64 l, .int .i64 cl] 38))
  refine wpPlan_run0 rfl rfl (by simp [execOp, go_sem]; rfl) _ (fun _ h => h) ⟨by simp [go_sem], by simp [go_sem]⟩ ?_
  simp only [Act.put, List.setIfInBounds_toArray, List.set_cons_zero, List.set_cons_succ]
  repeat (first | (apply wpPlan_look; rfl; rfl; (intro wq hq; (try dsimp only at hq); go_split_ands; go_simp; (try rw [if_neg (by omega)]); (try rw [if_pos (by omega)]); try with_reducible rfl); simp only [Act.put, List.setIfInBounds_toArray, List.set_cons_zero, List.set_cons_succ]) | (apply wpPlan_skip; rfl; rfl; simp only [Act.put, List.setIfInBounds_toArray, List.set_cons_zero, List.set_cons_succ]) | (apply wpPlan_pass; rfl; rfl; assumption; simp only [Act.put, List.setIfInBounds_toArray, List.set_cons_zero, List.set_cons_succ]))
  refine wpPlan_run0 rfl rfl (by simp [execOp, go_sem]; rfl) _ (fun _ h => h) ⟨by simp [go_sem], by simp [go_sem]⟩ ?_
  simp only [Act.put, List.setIfInBounds_toArray, List.set_cons_zero, List.set_cons_succ]
  repeat (first | (apply wpPlan_look; rfl; rfl; (intro wq hq; (try dsimp only at hq); go_split_ands; go_simp; (try rw [if_neg (by omega)]); (try rw [if_pos (by omega)]); try with_reducible rfl); simp only [Act.put, List.setIfInBounds_toArray, List.set_cons_zero, List.set_cons_succ]) | (apply wpPlan_skip; rfl; rfl; simp only [Act.put, List.setIfInBounds_toArray, List.set_cons_zero, List.set_cons_succ]) | (apply wpPlan_pass; rfl; rfl; assumption; simp only [Act.put, List.setIfInBounds_toArray, List.set_cons_zero, List.set_cons_succ]))
  apply wpPlan_done
  go_wp2_with fail
  refine bodyPost_ret (results_cell_row rfl _ _ w.heap.size 38 _ (0, 0) _ rfl (alloc3 w.drew _ _ _) Tryz.underlying38 rfl node_cells) rfl ⟨rfl, (Below.refl _ _).drew.trans (alloc3_below w.drew _ _ _)⟩
set_option maxRecDepth 100000 in
set_option maxHeartbeats 1600000 in
theorem bare_6 (hx : T[p]? = some x) (hk : x.kind = 6) (hN : Nodes W tv T) (hTl : T.length ≤ 1000000) (h : InAt W c m tv yv sv S w) (hn : NoteOk x.t) (hn2 : NoteOk x.u):
    Calls Tryz.prog 69 #[.pointer (some ⟨c, 0, none⟩), .int .i64 (p : Int), kv, nv] w (NodeRes (⟨6, x.kids, 0, Ins.no, (Tr.noteT x.t).str, (Tr.noteT x.u).str, x.line, x.col⟩) w) := by
  have HI := Lib.hid h
  have hp := (List.getElem?_eq_some_iff.1 hx).1
  obtain ⟨k, kd, n, s, t, u, l, cl⟩ := x
  obtain rfl : k = 6 := hk
  have hb1 := (Below.refl w.heap.size w).alloc (Nat.le_refl _) (.cells #[.int .i8 0, .int .i64 0, .int .i64 0, .string { data := #[] }, .string { data := #[] }, .string { data := #[] }, .int .i64 0, .int .i64 0] 38)
  have c1 := (h.later hb1).c1
  obtain ⟨A, C, rfl, hlc, hNN⟩ := (hN.later h.low).later hb1
  obtain ⟨b, off, rfl, hM⟩ := hNN (by omega)
  obtain ⟨n0, n1, n2, n3, n4, n5, n6, n7⟩ := hM.at_ hx
  clear hM hNN hN h hx hb1
  simp only at n0 n1 n2 n3 n4 n5 n6 n7
  have HB3 := Lib.hid (fun (w' : World) (hb : Below w.heap.size w w') a b c => alloc3_below w' a b c)
  have HU1 := Lib.hid (fun w' => iunknown_any t hn w')
  have HU2 := Lib.hid (fun w' => iunknown_any u hn2 w')
  clear HI
  go_enter Tryz.func69, Tryz.ntmps69
  go_wp2_with fail
  have x4 : (((w.alloc (.cells #[.int .i8 0, .int .i64 0, .int .i64 0, .string { data := #[] }, .string { data := #[] }, .string { data := #[] }, .int .i64 0, .int .i64 0] 38)).alloc (.cells #[.int .i8 6, .int .i64 kd, .int .i64 n, .string s, .string t, .string u, .int .i64 l, .int .i64 cl] 38)).alloc (.cells #[.int .i8 6, .int .i64 kd, .int .i64 0, .string { data := #[] }, .string { data := #[] }, .string { data := #[] }, .int .i64 l, .int .i64 cl] 38)).cell? ⟨w.heap.size + 1, 4, none⟩ = some (.string t) := by simp [go_sem]
  have x5 : (((w.alloc (.cells #[.int .i8 0, .int .i64 0, .int .i64 0, .string { data := #[] }, .string { data := #[] }, .string { data := #[] }, .int .i64 0, .int .i64 0] 38)).alloc (.cells #[.int .i8 6, .int .i64 kd, .int .i64 n, .string s, .string t, .string u, .int .i64 l, .int .i64 cl] 38)).alloc (.cells #[.int .i8 6, .int .i64 kd, .int .i64 0, .string { data := #[] }, .string { data := #[] }, .string { data := #[] }, .int .i64 l, .int .i64 cl] 38)).cell? ⟨w.heap.size + 1, 5, none⟩ = some (.string u) := by simp [go_sem]
  refine wp_region_plan (S := fun w' => w'.cell? ⟨w.heap.size + 1, 4, none⟩ = some (.string t) ∧ w'.cell? ⟨w.heap.size + 1, 5, none⟩ = some (.string u)) [(0, true), (1, true), (3, true), (4, true), (2, false), (6, true), (5, false), (7, false), (8, true), (9, false)] (by kernel_rfl) (by kernel_rfl) (by kernel_rfl) (fun _ _ _ _ _ h => h) ⟨x4, x5⟩ ?_
  intro HS
  repeat (first | (apply wpPlan_look; rfl; rfl; (intro wq hq; (try dsimp only at hq); go_split_ands; go_simp; (try rw [if_neg (by omega)]); (try rw [if_pos (by omega)]); try with_reducible rfl); simp only [Act.put, List.setIfInBounds_toArray, List.set_cons_zero, List.set_cons_succ]) | (apply wpPlan_skip; rfl; rfl; simp only [Act.put, List.setIfInBounds_toArray, List.set_cons_zero, List.set_cons_succ]) | (apply wpPlan_pass; rfl; rfl; assumption; simp only [Act.put, List.setIfInBounds_toArray, List.set_cons_zero, List.set_cons_succ]))
  apply wpPlan_call; rfl; rfl; rfl; rfl; kernel_rfl; exact HU1.out _; rfl; rintro E w5 ⟨rfl, rfl⟩
  refine ⟨_, rfl, as_S HS ?_⟩
  intro HS
  simp only [Act.put, List.setIfInBounds_toArray, List.set_cons_zero, List.set_cons_succ]
  repeat (first | (apply wpPlan_look; rfl; rfl; (intro wq hq; (try dsimp only at hq); go_split_ands; go_simp; (try rw [if_neg (by omega)]); (try rw [if_pos (by omega)]); try with_reducible rfl); simp only [Act.put, List.setIfInBounds_toArray, List.set_cons_zero, List.set_cons_succ]) | (apply wpPlan_skip; rfl; rfl; simp only [Act.put, List.setIfInBounds_toArray, List.set_cons_zero, List.set_cons_succ]) | (apply wpPlan_pass; rfl; rfl; assumption; simp only [Act.put, List.setIfInBounds_toArray, List.set_cons_zero, List.set_cons_succ]))
  apply wpPlan_call; rfl; rfl; rfl; rfl; kernel_rfl; exact HU2.out _; rfl; rintro E w5 ⟨rfl, rfl⟩
  refine ⟨_, rfl, as_S HS ?_⟩
  intro HS
  simp only [Act.put, List.setIfInBounds_toArray, List.set_cons_zero, List.set_cons_succ]
  repeat (first | (apply wpPlan_look; rfl; rfl; (intro wq hq; (try dsimp only at hq); go_split_ands; go_simp; (try rw [if_neg (by omega)]); (try rw [if_pos (by omega)]); try with_reducible rfl); simp only [Act.put, List.setIfInBounds_toArray, List.set_cons_zero, List.set_cons_succ]) | (apply wpPlan_skip; rfl; rfl; simp only [Act.put, List.setIfInBounds_toArray, List.set_cons_zero, List.set_cons_succ]) | (apply wpPlan_pass; rfl; rfl; assumption; simp only [Act.put, List.setIfInBounds_toArray, List.set_cons_zero, List.set_cons_succ]))
  change wpPlan _ _ _ _ _ _ (((w.drew.alloc (.cells #[.int .i8 0, .int .i64 0, .int .i64 0, .string { data := #[] }, .string { data := #[] }, .string { data := #[] }, .int .i64 0, .int .i64 0] 38)).alloc (.cells #[.int .i8 6, .int .i64 kd, .int .i64 n, .string s, .string t, .string u, .int .i64 l, .int .i64 cl] 38)).alloc (.cells #[.int .i8 6, .int .i64 kd, .int .i64 0, .string { data := #[] }, .string { data := #[] }, .string { data := #[] }, .int .i64 l, .int .i64 cl] 38))
  refine wpPlan_run0 rfl rfl (by simp [execOp, go_sem]; rfl) _ (fun _ h => h) ⟨by simp [go_sem], by simp [go_sem]⟩ ?_
  simp only [Act.put, List.setIfInBounds_toArray, List.set_cons_zero, List.set_cons_succ]
  repeat (first | (apply wpPlan_look; rfl; rfl; (intro wq hq; (try dsimp only at hq); go_split_ands; go_simp; (try rw [if_neg (by omega)]); (try rw [if_pos (by omega)]); try with_reducible rfl); simp only [Act.put, List.setIfInBounds_toArray, List.set_cons_zero, List.set_cons_succ]) | (apply wpPlan_skip; rfl; rfl; simp only [Act.put, List.setIfInBounds_toArray, List.set_cons_zero, List.set_cons_succ]) | (apply wpPlan_pass; rfl; rfl; assumption; simp only [Act.put, List.setIfInBounds_toArray, List.set_cons_zero, List.set_cons_succ]))
  refine wpPlan_run0 rfl rfl (by simp [execOp, go_sem]; rfl) _ (fun _ h => h) ⟨by simp [go_sem], by simp [go_sem]⟩ ?_
  simp only [Act.put, List.setIfInBounds_toArray, List.set_cons_zero, List.set_cons_succ]
  repeat (first | (apply wpPlan_look; rfl; rfl; (intro wq hq; (try dsimp only at hq); go_split_ands; go_simp; (try rw [if_neg (by omega)]); (try rw [if_pos (by omega)]); try with_reducible rfl); simp only [Act.put, List.setIfInBounds_toArray, List.set_cons_zero, List.set_cons_succ]) | (apply wpPlan_skip; rfl; rfl; simp only [Act.put, List.setIfInBounds_toArray, List.set_cons_zero, List.set_cons_succ]) | (apply wpPlan_pass; rfl; rfl; assumption; simp only [Act.put, List.setIfInBounds_toArray, List.set_cons_zero, List.set_cons_succ]))
  apply wpPlan_done
  go_wp2_with fail
  refine bodyPost_ret (results_cell_row rfl _ _ w.heap.size 38 _ (0, 0) _ rfl (alloc3 w.drew _ _ _) Tryz.underlying38 rfl node_cells) rfl ⟨rfl, (Below.refl _ _).drew.trans (alloc3_below w.drew _ _ _)⟩
end
end Go.Proofs.YtdfadmhomjcmeaaGreatDoor

/- Walks of insert: the node of the term, whatever its kind. -/
namespace Go.Proofs.YtdfadmhomjcmeaaGreatDoor
set_option linter.unusedSimpArgs false
set_option linter.unusedVariables false
open Go.RowKit Culp
theorem bare_any {W w : World} {c : Nat} {m : ByteArray} {tv yv sv kv nv : Value} {S : List Ins.Sit} {ys : List ByteArray} {T : List Nd} {x : Nd} {p : Nat} {Kl : List (Nat × Ty)}
    (hx : T[p]? = some x) (hN : Nodes W tv T) (hTl : T.length ≤ 1000000) (h : InAt W c m tv yv sv S w) (N : List ByteArray) (hNm : Txts w nv N) (hNl : N.length ≤ 1000000000)
    (hn : x.kind = 5 ∨ x.kind = 6 ∨ x.kind = 8 → NoteOk x.t) (hu : x.kind = 5 ∨ x.kind = 6 → NoteOk x.u) (hk2 : x.kind = 21 → KidsV c w kv (Kl.map Prod.fst) ∨ (Kl = [] ∧ ∃ A C, kv = .slice A 0 C)) (hT : Told ys Kl) (hMC : x.kind = 21 → Ins.MetC .dyn (Kl.map Prod.snd)) (hl : Kl.length ≤ 1000000) (hY : Nms W yv ys) :
    Calls Tryz.prog 69 #[.pointer (some ⟨c, 0, none⟩), .int .i64 (p : Int), kv, nv] w (NodeRes (Ins.bare x N.reverse (Kl.map Prod.snd)) w) := by
  by_cases h1 : x.kind = 1
  · have := bare_1 (kv := kv) (nv := nv) hx h1 hN hTl h
    rwa [show Ins.bare x N.reverse (Kl.map Prod.snd) = ⟨1, x.kids, x.n, Ins.no, Ins.no, Ins.no, x.line, x.col⟩ by simp [Ins.bare, h1]]
  by_cases h2 : x.kind = 2
  · have := bare_2 (kv := kv) (nv := nv) hx h2 hN hTl h
    rwa [show Ins.bare x N.reverse (Kl.map Prod.snd) = ⟨2, x.kids, 0, x.s, Ins.no, Ins.no, x.line, x.col⟩ by simp [Ins.bare, h2]]
  by_cases h3 : x.kind = 3
  · have := bare_3 (kv := kv) (nv := nv) hx h3 hN hTl h
    rwa [show Ins.bare x N.reverse (Kl.map Prod.snd) = ⟨3, x.kids, x.n, Ins.no, Ins.no, Ins.no, x.line, x.col⟩ by simp [Ins.bare, h3]]
  by_cases h4 : x.kind = 4
  · have := bare_4 (kv := kv) hx h4 hN hTl h N hNm hNl
    rwa [show Ins.bare x N.reverse (Kl.map Prod.snd) = ⟨4, x.kids, (Ins.dist N.reverse x.s : Int), Ins.no, Ins.no, Ins.no, x.line, x.col⟩ by simp [Ins.bare, h4]]
  by_cases h5 : x.kind = 5
  · have := bare_5 (kv := kv) (nv := nv) hx h5 hN hTl h (hn (.inl h5)) (hu (.inl h5))
    rwa [show Ins.bare x N.reverse (Kl.map Prod.snd) = ⟨5, x.kids, 0, Ins.no, (Tr.noteT x.t).str, (Tr.noteT x.u).str, x.line, x.col⟩ by simp [Ins.bare, h5]]
  by_cases h6 : x.kind = 6
  · have := bare_6 (kv := kv) (nv := nv) hx h6 hN hTl h (hn (.inr (.inl h6))) (hu (.inr h6))
    rwa [show Ins.bare x N.reverse (Kl.map Prod.snd) = ⟨6, x.kids, 0, Ins.no, (Tr.noteT x.t).str, (Tr.noteT x.u).str, x.line, x.col⟩ by simp [Ins.bare, h6]]
  by_cases h8 : x.kind = 8
  · have := bare_8 (kv := kv) (nv := nv) hx h8 hN hTl h (hn (.inr (.inr h8)))
    rwa [show Ins.bare x N.reverse (Kl.map Prod.snd) = ⟨8, x.kids, 0, Ins.no, (Tr.noteT x.t).str, Ins.no, x.line, x.col⟩ by simp [Ins.bare, h8]]
  by_cases h21 : x.kind = 21
  · have := bare_21 (nv := nv) hx h21 hN hTl h (hk2 h21) hT (hMC h21) hl hY
    rwa [show Ins.bare x N.reverse (Kl.map Prod.snd) = ⟨21, x.kids, 0, Ins.no, (Ins.met (Kl.map Prod.snd)).str, Ins.no, x.line, x.col⟩ by simp [Ins.bare, h21]]
  have := bare_rest (kv := kv) (nv := nv) hx h1 h2 h3 h4 h5 h6 h8 h21 hN hTl h
  rwa [show Ins.bare x N.reverse (Kl.map Prod.snd) = ⟨x.kind, x.kids, 0, Ins.no, Ins.no, Ins.no, x.line, x.col⟩ by simp [Ins.bare, h1, h2, h3, h4, h5, h6, h8, h21]]
end Go.Proofs.YtdfadmhomjcmeaaGreatDoor

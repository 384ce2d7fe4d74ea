/- Walks of the document's answer for layer 10: the type of one node. -/
import Derived.Test.YtnmhiddahfnkoaaRefF
namespace Go.Proofs.Ytnmhiddahfnkoaa
set_option linter.unusedSimpArgs false
set_option linter.unusedVariables false
open Go.RowKit Culp

theorem setcell_node (w : World) (g : Nat) (v : Value) (x : Nd) (j : Nat) (u : Value) (hu : x.cells[j]? = some u) : ((w.setCell ⟨g, 1, none⟩ v).alloc (nodeCells x)).cell? ⟨w.heap.size, j, none⟩ = some u := by
  unfold nodeCells
  rw [World.cell?_alloc_at _ _ _ _ (by simp [World.setCell])]
  simpa [Nd.cells] using hu

set_option maxRecDepth 100000 in
set_option maxHeartbeats 1600000 in
theorem one_bad {T : List Nd} (hT : T.length ≤ 16384) (f : Nat)  (g a : Nat) (tv av ev : Value) (env : List Ty) (p q : Nat) (w : World) (hA : Args T (f + 1) g a tv av ev env p q w)
    (x : Nd) (hx : T[p]? = some x) (hk : kidsOk x = true) (hq : timesM (shapeM T f) x.kids.toNat (p + 1) = .ok q) (wr : Option Int) (hwd : wordsM x env.length = wr) (e0 : Int) (he0 : wr = some e0) (X : Hid (typedM T (f + 1) env p = .error (e0, p))) :
    Calls Try.prog 58 #[.pointer (some ⟨g, 0, none⟩), ev] w (TyRes T g a tv av w (typedM T (f + 1) env p)) := by
  obtain ⟨hI, hw, he, hfit, hlen, hsz, _⟩ := hA
  have hwk : Wk g tv p 0 0 av w := hw
  obtain ⟨A, c, rfl, hlc, hN⟩ := hI.nodes
  obtain ⟨EA, ec, rfl⟩ := tys_form he.1
  have c0 := hwk.c0
  have c1 := hwk.c1
  have fz := hwk.free 1
  have hgl := hwk.lt
  have hpl : p < T.length := (List.getElem?_eq_some_iff.1 hx).1
  obtain ⟨b, off, rfl, hM⟩ := hN (by omega)
  obtain ⟨n0, n1, n2, n3, n4, n5, n6, n7⟩ := hM.at_ hx
  have i1 : (p : Int) < (T.length : Int) := by omega
  have fz2 : ∀ o, (w.alloc o).frozen? ⟨g, 1, none⟩ = false := fun o => by rw [World.frozen?_alloc_old _ _ _ (by simp; omega)]; exact fz
  have c12 : ∀ o, (w.alloc o).cell? ⟨g, 1, none⟩ = some (.int .i64 p) := fun o => by rw [World.cell?_alloc_lt w o _ (by simpa using hgl)]; exact c1
  have hB1 : Below (w.setCell ⟨g, 1, none⟩ (.int .i64 ((p : Int) + 1))).heap.size (w.setCell ⟨g, 1, none⟩ (.int .i64 ((p : Int) + 1))) ((w.setCell ⟨g, 1, none⟩ (.int .i64 ((p : Int) + 1))).alloc (nodeCells x)) := (Below.refl _ _).alloc (Nat.le_refl _) _
  have hK0 : Keep g w ((w.setCell ⟨g, 1, none⟩ (.int .i64 ((p : Int) + 1))).alloc (nodeCells x)) := ((Keep.refl g w).setCell 1 _).alloc _
  have hW0 : WkS g (.slice (some ⟨b, off, none⟩) T.length c) ((p : Int) + 1) none av ((w.setCell ⟨g, 1, none⟩ (.int .i64 ((p : Int) + 1))).alloc (nodeCells x)) := (hwk.set1 ((p : Int) + 1)).later hB1
  have haw := hI.all.lt
  have HNE := Lib.hid hI.ne
  have HTS := Lib.hid hI.ts
  have HAS := Lib.hid hI.as
  have HI0 := Lib.hid (hI.keep hK0)
  have HE0 := Lib.hid (he.keep (Keep2.one hK0) hw hI.ts hI.as)
  have HK0 := Lib.hid hK0
  have HW0 := Lib.hid hW0
  have HF := Lib.hid hfit
  have HSZ := Lib.hid hsz
  have HX := Lib.hid hx
  have HKid := Lib.hid hk
  have HQ := Lib.hid hq
  have HWD := Lib.hid hwd
  have hszx := hsz x (List.mem_of_getElem? hx)
  clear hx hN hM hk hq hI he hfit hwd hsz hw hwk hK0 hW0 hB1
  go_enter Try.func58, Try.ntmps58
  go_wp2_with fail
  refine (show Calls Try.prog 65 #[.pointer (some ⟨g, 0, none⟩), x.val, .int .i64 p, .int .i64 env.length] _ (AskRes g _ _ (wordsS x env.length p) av (.tuple #[]) _) from ahead_any x g _ av _ p env.length _ HW0.out hszx (by omega)).mono ?_
  subst he0
  rw [wordsS_some HWD.out]
  rintro e w' ⟨rfl, hk, hw⟩
  have c2 := hw.2.c2
  have e0' : (e0 != 0) = true := by simpa [bne] using hw.1
  have HK := Lib.hid (HK0.out.trans hk)
  have HAl := Lib.hid (HI0.out.keep hk).all
  have HW := Lib.hid hw
  clear hk hw n0 n1 n2 n3 n4 n5 n6 n7 c0 c1 c12 fz fz2
  go_wp2_with fail
  go_ret
  unfold TyRes
  rw [X.out]
  exact ⟨_, rfl, Keep2.one HK.out, HAl.out, _, HW.out⟩

set_option maxRecDepth 100000 in
set_option maxHeartbeats 1600000 in
theorem one_num {T : List Nd} (hT : T.length ≤ 16384) (f : Nat)  (g a : Nat) (tv av ev : Value) (env : List Ty) (p q : Nat) (w : World) (hA : Args T (f + 1) g a tv av ev env p q w)
    (x : Nd) (hx : T[p]? = some x) (hk : kidsOk x = true) (hq : timesM (shapeM T f) x.kids.toNat (p + 1) = .ok q) (wr : Option Int) (hwd : wordsM x env.length = wr) (he0 : wr = none) (h4 : Hid (x.kind = 1)) (X : Hid (typedM T (f + 1) env p = .ok (.int, p + 1))) :
    Calls Try.prog 58 #[.pointer (some ⟨g, 0, none⟩), ev] w (TyRes T g a tv av w (typedM T (f + 1) env p)) := by
  obtain ⟨hI, hw, he, hfit, hlen, hsz, _⟩ := hA
  have hwk : Wk g tv p 0 0 av w := hw
  obtain ⟨A, c, rfl, hlc, hN⟩ := hI.nodes
  obtain ⟨EA, ec, rfl⟩ := tys_form he.1
  have c0 := hwk.c0
  have c1 := hwk.c1
  have fz := hwk.free 1
  have hgl := hwk.lt
  have hpl : p < T.length := (List.getElem?_eq_some_iff.1 hx).1
  obtain ⟨b, off, rfl, hM⟩ := hN (by omega)
  obtain ⟨n0, n1, n2, n3, n4, n5, n6, n7⟩ := hM.at_ hx
  have i1 : (p : Int) < (T.length : Int) := by omega
  have fz2 : ∀ o, (w.alloc o).frozen? ⟨g, 1, none⟩ = false := fun o => by rw [World.frozen?_alloc_old _ _ _ (by simp; omega)]; exact fz
  have c12 : ∀ o, (w.alloc o).cell? ⟨g, 1, none⟩ = some (.int .i64 p) := fun o => by rw [World.cell?_alloc_lt w o _ (by simpa using hgl)]; exact c1
  have hB1 : Below (w.setCell ⟨g, 1, none⟩ (.int .i64 ((p : Int) + 1))).heap.size (w.setCell ⟨g, 1, none⟩ (.int .i64 ((p : Int) + 1))) ((w.setCell ⟨g, 1, none⟩ (.int .i64 ((p : Int) + 1))).alloc (nodeCells x)) := (Below.refl _ _).alloc (Nat.le_refl _) _
  have hK0 : Keep g w ((w.setCell ⟨g, 1, none⟩ (.int .i64 ((p : Int) + 1))).alloc (nodeCells x)) := ((Keep.refl g w).setCell 1 _).alloc _
  have hW0 : WkS g (.slice (some ⟨b, off, none⟩) T.length c) ((p : Int) + 1) none av ((w.setCell ⟨g, 1, none⟩ (.int .i64 ((p : Int) + 1))).alloc (nodeCells x)) := (hwk.set1 ((p : Int) + 1)).later hB1
  have haw := hI.all.lt
  have HNE := Lib.hid hI.ne
  have HTS := Lib.hid hI.ts
  have HAS := Lib.hid hI.as
  have HI0 := Lib.hid (hI.keep hK0)
  have HE0 := Lib.hid (he.keep (Keep2.one hK0) hw hI.ts hI.as)
  have HK0 := Lib.hid hK0
  have HW0 := Lib.hid hW0
  have HF := Lib.hid hfit
  have HSZ := Lib.hid hsz
  have HX := Lib.hid hx
  have HKid := Lib.hid hk
  have HQ := Lib.hid hq
  have HWD := Lib.hid hwd
  have hszx := hsz x (List.mem_of_getElem? hx)
  clear hx hN hM hk hq hI he hfit hwd hsz hw hwk hK0 hW0 hB1
  go_enter Try.func58, Try.ntmps58
  go_wp2_with fail
  refine (show Calls Try.prog 65 #[.pointer (some ⟨g, 0, none⟩), x.val, .int .i64 p, .int .i64 env.length] _ (AskRes g _ _ (wordsS x env.length p) av (.tuple #[]) _) from ahead_any x g _ av _ p env.length _ HW0.out hszx (by omega)).mono ?_
  subst he0
  rw [wordsS_none HWD.out]
  rintro e w1 ⟨rfl, hk, hw1⟩
  have hgn : w.heap.size ≠ g := by omega
  have han : w.heap.size ≠ a := by omega
  have hszw : w.heap.size + 1 ≤ w1.heap.size := by have := hk.size; simp [World.setCell] at this; omega
  have m0 : w1.cell? ⟨w.heap.size, 0, none⟩ = some (.int .i8 x.kind) := hk.cell (setcell_node w g _ x 0 _ rfl) hgn
  have m1 : w1.cell? ⟨w.heap.size, 1, none⟩ = some (.int .i64 x.kids) := hk.cell (setcell_node w g _ x 1 _ rfl) hgn
  have m2 : w1.cell? ⟨w.heap.size, 2, none⟩ = some (.int .i64 x.n) := hk.cell (setcell_node w g _ x 2 _ rfl) hgn
  have m3 : w1.cell? ⟨w.heap.size, 3, none⟩ = some (.string x.s) := hk.cell (setcell_node w g _ x 3 _ rfl) hgn
  have m4 : w1.cell? ⟨w.heap.size, 4, none⟩ = some (.string x.t) := hk.cell (setcell_node w g _ x 4 _ rfl) hgn
  have m5 : w1.cell? ⟨w.heap.size, 5, none⟩ = some (.string x.u) := hk.cell (setcell_node w g _ x 5 _ rfl) hgn
  have m6 : w1.cell? ⟨w.heap.size, 6, none⟩ = some (.int .i64 x.line) := hk.cell (setcell_node w g _ x 6 _ rfl) hgn
  have m7 : w1.cell? ⟨w.heap.size, 7, none⟩ = some (.int .i64 x.col) := hk.cell (setcell_node w g _ x 7 _ rfl) hgn
  have HI1 := Lib.hid (HI0.out.keep hk)
  have HE1 := Lib.hid (HE0.out.keep (Keep2.one hk) HW0.out HTS.out HAS.out)
  have HK1 := Lib.hid (HK0.out.trans hk)
  have HW1 := Lib.hid hw1
  have c2 := Wk.c2 (show Wk g _ _ 0 0 av w1 from hw1)
  clear hk hw1 n0 n1 n2 n3 n4 n5 n6 n7 c0 c1 c12 fz fz2
  rw [h4.out] at m0
  clear m1 m2 m3 m4 m5 m6 m7
  go_wp2_with fail
  go_ret
  unfold TyRes
  rw [X.out]
  exact ⟨_, rfl, Keep2.one HK1.out, HI1.out.all, rfl, HW1.out⟩
set_option maxRecDepth 100000 in
set_option maxHeartbeats 1600000 in
theorem one_str {T : List Nd} (hT : T.length ≤ 16384) (f : Nat)  (g a : Nat) (tv av ev : Value) (env : List Ty) (p q : Nat) (w : World) (hA : Args T (f + 1) g a tv av ev env p q w)
    (x : Nd) (hx : T[p]? = some x) (hk : kidsOk x = true) (hq : timesM (shapeM T f) x.kids.toNat (p + 1) = .ok q) (wr : Option Int) (hwd : wordsM x env.length = wr) (he0 : wr = none) (h4 : Hid (x.kind = 2)) (X : Hid (typedM T (f + 1) env p = .ok (.text, p + 1))) :
    Calls Try.prog 58 #[.pointer (some ⟨g, 0, none⟩), ev] w (TyRes T g a tv av w (typedM T (f + 1) env p)) := by
  obtain ⟨hI, hw, he, hfit, hlen, hsz, _⟩ := hA
  have hwk : Wk g tv p 0 0 av w := hw
  obtain ⟨A, c, rfl, hlc, hN⟩ := hI.nodes
  obtain ⟨EA, ec, rfl⟩ := tys_form he.1
  have c0 := hwk.c0
  have c1 := hwk.c1
  have fz := hwk.free 1
  have hgl := hwk.lt
  have hpl : p < T.length := (List.getElem?_eq_some_iff.1 hx).1
  obtain ⟨b, off, rfl, hM⟩ := hN (by omega)
  obtain ⟨n0, n1, n2, n3, n4, n5, n6, n7⟩ := hM.at_ hx
  have i1 : (p : Int) < (T.length : Int) := by omega
  have fz2 : ∀ o, (w.alloc o).frozen? ⟨g, 1, none⟩ = false := fun o => by rw [World.frozen?_alloc_old _ _ _ (by simp; omega)]; exact fz
  have c12 : ∀ o, (w.alloc o).cell? ⟨g, 1, none⟩ = some (.int .i64 p) := fun o => by rw [World.cell?_alloc_lt w o _ (by simpa using hgl)]; exact c1
  have hB1 : Below (w.setCell ⟨g, 1, none⟩ (.int .i64 ((p : Int) + 1))).heap.size (w.setCell ⟨g, 1, none⟩ (.int .i64 ((p : Int) + 1))) ((w.setCell ⟨g, 1, none⟩ (.int .i64 ((p : Int) + 1))).alloc (nodeCells x)) := (Below.refl _ _).alloc (Nat.le_refl _) _
  have hK0 : Keep g w ((w.setCell ⟨g, 1, none⟩ (.int .i64 ((p : Int) + 1))).alloc (nodeCells x)) := ((Keep.refl g w).setCell 1 _).alloc _
  have hW0 : WkS g (.slice (some ⟨b, off, none⟩) T.length c) ((p : Int) + 1) none av ((w.setCell ⟨g, 1, none⟩ (.int .i64 ((p : Int) + 1))).alloc (nodeCells x)) := (hwk.set1 ((p : Int) + 1)).later hB1
  have haw := hI.all.lt
  have HNE := Lib.hid hI.ne
  have HTS := Lib.hid hI.ts
  have HAS := Lib.hid hI.as
  have HI0 := Lib.hid (hI.keep hK0)
  have HE0 := Lib.hid (he.keep (Keep2.one hK0) hw hI.ts hI.as)
  have HK0 := Lib.hid hK0
  have HW0 := Lib.hid hW0
  have HF := Lib.hid hfit
  have HSZ := Lib.hid hsz
  have HX := Lib.hid hx
  have HKid := Lib.hid hk
  have HQ := Lib.hid hq
  have HWD := Lib.hid hwd
  have hszx := hsz x (List.mem_of_getElem? hx)
  clear hx hN hM hk hq hI he hfit hwd hsz hw hwk hK0 hW0 hB1
  go_enter Try.func58, Try.ntmps58
  go_wp2_with fail
  refine (show Calls Try.prog 65 #[.pointer (some ⟨g, 0, none⟩), x.val, .int .i64 p, .int .i64 env.length] _ (AskRes g _ _ (wordsS x env.length p) av (.tuple #[]) _) from ahead_any x g _ av _ p env.length _ HW0.out hszx (by omega)).mono ?_
  subst he0
  rw [wordsS_none HWD.out]
  rintro e w1 ⟨rfl, hk, hw1⟩
  have hgn : w.heap.size ≠ g := by omega
  have han : w.heap.size ≠ a := by omega
  have hszw : w.heap.size + 1 ≤ w1.heap.size := by have := hk.size; simp [World.setCell] at this; omega
  have m0 : w1.cell? ⟨w.heap.size, 0, none⟩ = some (.int .i8 x.kind) := hk.cell (setcell_node w g _ x 0 _ rfl) hgn
  have m1 : w1.cell? ⟨w.heap.size, 1, none⟩ = some (.int .i64 x.kids) := hk.cell (setcell_node w g _ x 1 _ rfl) hgn
  have m2 : w1.cell? ⟨w.heap.size, 2, none⟩ = some (.int .i64 x.n) := hk.cell (setcell_node w g _ x 2 _ rfl) hgn
  have m3 : w1.cell? ⟨w.heap.size, 3, none⟩ = some (.string x.s) := hk.cell (setcell_node w g _ x 3 _ rfl) hgn
  have m4 : w1.cell? ⟨w.heap.size, 4, none⟩ = some (.string x.t) := hk.cell (setcell_node w g _ x 4 _ rfl) hgn
  have m5 : w1.cell? ⟨w.heap.size, 5, none⟩ = some (.string x.u) := hk.cell (setcell_node w g _ x 5 _ rfl) hgn
  have m6 : w1.cell? ⟨w.heap.size, 6, none⟩ = some (.int .i64 x.line) := hk.cell (setcell_node w g _ x 6 _ rfl) hgn
  have m7 : w1.cell? ⟨w.heap.size, 7, none⟩ = some (.int .i64 x.col) := hk.cell (setcell_node w g _ x 7 _ rfl) hgn
  have HI1 := Lib.hid (HI0.out.keep hk)
  have HE1 := Lib.hid (HE0.out.keep (Keep2.one hk) HW0.out HTS.out HAS.out)
  have HK1 := Lib.hid (HK0.out.trans hk)
  have HW1 := Lib.hid hw1
  have c2 := Wk.c2 (show Wk g _ _ 0 0 av w1 from hw1)
  clear hk hw1 n0 n1 n2 n3 n4 n5 n6 n7 c0 c1 c12 fz fz2
  rw [h4.out] at m0
  clear m1 m2 m3 m4 m5 m6 m7
  go_wp2_with fail
  go_ret
  unfold TyRes
  rw [X.out]
  exact ⟨_, rfl, Keep2.one HK1.out, HI1.out.all, rfl, HW1.out⟩
set_option maxRecDepth 100000 in
set_option maxHeartbeats 1600000 in
theorem one_truth {T : List Nd} (hT : T.length ≤ 16384) (f : Nat)  (g a : Nat) (tv av ev : Value) (env : List Ty) (p q : Nat) (w : World) (hA : Args T (f + 1) g a tv av ev env p q w)
    (x : Nd) (hx : T[p]? = some x) (hk : kidsOk x = true) (hq : timesM (shapeM T f) x.kids.toNat (p + 1) = .ok q) (wr : Option Int) (hwd : wordsM x env.length = wr) (he0 : wr = none) (h4 : Hid (x.kind = 3)) (X : Hid (typedM T (f + 1) env p = .ok (.bool, p + 1))) :
    Calls Try.prog 58 #[.pointer (some ⟨g, 0, none⟩), ev] w (TyRes T g a tv av w (typedM T (f + 1) env p)) := by
  obtain ⟨hI, hw, he, hfit, hlen, hsz, _⟩ := hA
  have hwk : Wk g tv p 0 0 av w := hw
  obtain ⟨A, c, rfl, hlc, hN⟩ := hI.nodes
  obtain ⟨EA, ec, rfl⟩ := tys_form he.1
  have c0 := hwk.c0
  have c1 := hwk.c1
  have fz := hwk.free 1
  have hgl := hwk.lt
  have hpl : p < T.length := (List.getElem?_eq_some_iff.1 hx).1
  obtain ⟨b, off, rfl, hM⟩ := hN (by omega)
  obtain ⟨n0, n1, n2, n3, n4, n5, n6, n7⟩ := hM.at_ hx
  have i1 : (p : Int) < (T.length : Int) := by omega
  have fz2 : ∀ o, (w.alloc o).frozen? ⟨g, 1, none⟩ = false := fun o => by rw [World.frozen?_alloc_old _ _ _ (by simp; omega)]; exact fz
  have c12 : ∀ o, (w.alloc o).cell? ⟨g, 1, none⟩ = some (.int .i64 p) := fun o => by rw [World.cell?_alloc_lt w o _ (by simpa using hgl)]; exact c1
  have hB1 : Below (w.setCell ⟨g, 1, none⟩ (.int .i64 ((p : Int) + 1))).heap.size (w.setCell ⟨g, 1, none⟩ (.int .i64 ((p : Int) + 1))) ((w.setCell ⟨g, 1, none⟩ (.int .i64 ((p : Int) + 1))).alloc (nodeCells x)) := (Below.refl _ _).alloc (Nat.le_refl _) _
  have hK0 : Keep g w ((w.setCell ⟨g, 1, none⟩ (.int .i64 ((p : Int) + 1))).alloc (nodeCells x)) := ((Keep.refl g w).setCell 1 _).alloc _
  have hW0 : WkS g (.slice (some ⟨b, off, none⟩) T.length c) ((p : Int) + 1) none av ((w.setCell ⟨g, 1, none⟩ (.int .i64 ((p : Int) + 1))).alloc (nodeCells x)) := (hwk.set1 ((p : Int) + 1)).later hB1
  have haw := hI.all.lt
  have HNE := Lib.hid hI.ne
  have HTS := Lib.hid hI.ts
  have HAS := Lib.hid hI.as
  have HI0 := Lib.hid (hI.keep hK0)
  have HE0 := Lib.hid (he.keep (Keep2.one hK0) hw hI.ts hI.as)
  have HK0 := Lib.hid hK0
  have HW0 := Lib.hid hW0
  have HF := Lib.hid hfit
  have HSZ := Lib.hid hsz
  have HX := Lib.hid hx
  have HKid := Lib.hid hk
  have HQ := Lib.hid hq
  have HWD := Lib.hid hwd
  have hszx := hsz x (List.mem_of_getElem? hx)
  clear hx hN hM hk hq hI he hfit hwd hsz hw hwk hK0 hW0 hB1
  go_enter Try.func58, Try.ntmps58
  go_wp2_with fail
  refine (show Calls Try.prog 65 #[.pointer (some ⟨g, 0, none⟩), x.val, .int .i64 p, .int .i64 env.length] _ (AskRes g _ _ (wordsS x env.length p) av (.tuple #[]) _) from ahead_any x g _ av _ p env.length _ HW0.out hszx (by omega)).mono ?_
  subst he0
  rw [wordsS_none HWD.out]
  rintro e w1 ⟨rfl, hk, hw1⟩
  have hgn : w.heap.size ≠ g := by omega
  have han : w.heap.size ≠ a := by omega
  have hszw : w.heap.size + 1 ≤ w1.heap.size := by have := hk.size; simp [World.setCell] at this; omega
  have m0 : w1.cell? ⟨w.heap.size, 0, none⟩ = some (.int .i8 x.kind) := hk.cell (setcell_node w g _ x 0 _ rfl) hgn
  have m1 : w1.cell? ⟨w.heap.size, 1, none⟩ = some (.int .i64 x.kids) := hk.cell (setcell_node w g _ x 1 _ rfl) hgn
  have m2 : w1.cell? ⟨w.heap.size, 2, none⟩ = some (.int .i64 x.n) := hk.cell (setcell_node w g _ x 2 _ rfl) hgn
  have m3 : w1.cell? ⟨w.heap.size, 3, none⟩ = some (.string x.s) := hk.cell (setcell_node w g _ x 3 _ rfl) hgn
  have m4 : w1.cell? ⟨w.heap.size, 4, none⟩ = some (.string x.t) := hk.cell (setcell_node w g _ x 4 _ rfl) hgn
  have m5 : w1.cell? ⟨w.heap.size, 5, none⟩ = some (.string x.u) := hk.cell (setcell_node w g _ x 5 _ rfl) hgn
  have m6 : w1.cell? ⟨w.heap.size, 6, none⟩ = some (.int .i64 x.line) := hk.cell (setcell_node w g _ x 6 _ rfl) hgn
  have m7 : w1.cell? ⟨w.heap.size, 7, none⟩ = some (.int .i64 x.col) := hk.cell (setcell_node w g _ x 7 _ rfl) hgn
  have HI1 := Lib.hid (HI0.out.keep hk)
  have HE1 := Lib.hid (HE0.out.keep (Keep2.one hk) HW0.out HTS.out HAS.out)
  have HK1 := Lib.hid (HK0.out.trans hk)
  have HW1 := Lib.hid hw1
  have c2 := Wk.c2 (show Wk g _ _ 0 0 av w1 from hw1)
  clear hk hw1 n0 n1 n2 n3 n4 n5 n6 n7 c0 c1 c12 fz fz2
  rw [h4.out] at m0
  clear m1 m2 m3 m4 m5 m6 m7
  go_wp2_with fail
  go_ret
  unfold TyRes
  rw [X.out]
  exact ⟨_, rfl, Keep2.one HK1.out, HI1.out.all, rfl, HW1.out⟩

set_option maxRecDepth 100000 in
set_option maxHeartbeats 1600000 in
theorem one_var {T : List Nd} (hT : T.length ≤ 16384) (f : Nat)  (g a : Nat) (tv av ev : Value) (env : List Ty) (p q : Nat) (w : World) (hA : Args T (f + 1) g a tv av ev env p q w)
    (x : Nd) (hx : T[p]? = some x) (hk : kidsOk x = true) (hq : timesM (shapeM T f) x.kids.toNat (p + 1) = .ok q) (wr : Option Int) (hwd : wordsM x env.length = wr) (he0 : wr = none) (h4 : Hid (x.kind = 4)) (k : Nat) (hn : Hid (x.n = k)) (hkl : k < env.length) (X : Hid (typedM T (f + 1) env p = .ok (env[k], p + 1))) :
    Calls Try.prog 58 #[.pointer (some ⟨g, 0, none⟩), ev] w (TyRes T g a tv av w (typedM T (f + 1) env p)) := by
  obtain ⟨hI, hw, he, hfit, hlen, hsz, _⟩ := hA
  have hwk : Wk g tv p 0 0 av w := hw
  obtain ⟨A, c, rfl, hlc, hN⟩ := hI.nodes
  obtain ⟨EA, ec, rfl⟩ := tys_form he.1
  have c0 := hwk.c0
  have c1 := hwk.c1
  have fz := hwk.free 1
  have hgl := hwk.lt
  have hpl : p < T.length := (List.getElem?_eq_some_iff.1 hx).1
  obtain ⟨b, off, rfl, hM⟩ := hN (by omega)
  obtain ⟨n0, n1, n2, n3, n4, n5, n6, n7⟩ := hM.at_ hx
  have i1 : (p : Int) < (T.length : Int) := by omega
  have fz2 : ∀ o, (w.alloc o).frozen? ⟨g, 1, none⟩ = false := fun o => by rw [World.frozen?_alloc_old _ _ _ (by simp; omega)]; exact fz
  have c12 : ∀ o, (w.alloc o).cell? ⟨g, 1, none⟩ = some (.int .i64 p) := fun o => by rw [World.cell?_alloc_lt w o _ (by simpa using hgl)]; exact c1
  have hB1 : Below (w.setCell ⟨g, 1, none⟩ (.int .i64 ((p : Int) + 1))).heap.size (w.setCell ⟨g, 1, none⟩ (.int .i64 ((p : Int) + 1))) ((w.setCell ⟨g, 1, none⟩ (.int .i64 ((p : Int) + 1))).alloc (nodeCells x)) := (Below.refl _ _).alloc (Nat.le_refl _) _
  have hK0 : Keep g w ((w.setCell ⟨g, 1, none⟩ (.int .i64 ((p : Int) + 1))).alloc (nodeCells x)) := ((Keep.refl g w).setCell 1 _).alloc _
  have hW0 : WkS g (.slice (some ⟨b, off, none⟩) T.length c) ((p : Int) + 1) none av ((w.setCell ⟨g, 1, none⟩ (.int .i64 ((p : Int) + 1))).alloc (nodeCells x)) := (hwk.set1 ((p : Int) + 1)).later hB1
  have haw := hI.all.lt
  have HNE := Lib.hid hI.ne
  have HTS := Lib.hid hI.ts
  have HAS := Lib.hid hI.as
  have HI0 := Lib.hid (hI.keep hK0)
  have HE0 := Lib.hid (he.keep (Keep2.one hK0) hw hI.ts hI.as)
  have HK0 := Lib.hid hK0
  have HW0 := Lib.hid hW0
  have HF := Lib.hid hfit
  have HSZ := Lib.hid hsz
  have HX := Lib.hid hx
  have HKid := Lib.hid hk
  have HQ := Lib.hid hq
  have HWD := Lib.hid hwd
  have hszx := hsz x (List.mem_of_getElem? hx)
  clear hx hN hM hk hq hI he hfit hwd hsz hw hwk hK0 hW0 hB1
  go_enter Try.func58, Try.ntmps58
  go_wp2_with fail
  refine (show Calls Try.prog 65 #[.pointer (some ⟨g, 0, none⟩), x.val, .int .i64 p, .int .i64 env.length] _ (AskRes g _ _ (wordsS x env.length p) av (.tuple #[]) _) from ahead_any x g _ av _ p env.length _ HW0.out hszx (by omega)).mono ?_
  subst he0
  rw [wordsS_none HWD.out]
  rintro e w1 ⟨rfl, hk, hw1⟩
  have hgn : w.heap.size ≠ g := by omega
  have han : w.heap.size ≠ a := by omega
  have hszw : w.heap.size + 1 ≤ w1.heap.size := by have := hk.size; simp [World.setCell] at this; omega
  have m0 : w1.cell? ⟨w.heap.size, 0, none⟩ = some (.int .i8 x.kind) := hk.cell (setcell_node w g _ x 0 _ rfl) hgn
  have m1 : w1.cell? ⟨w.heap.size, 1, none⟩ = some (.int .i64 x.kids) := hk.cell (setcell_node w g _ x 1 _ rfl) hgn
  have m2 : w1.cell? ⟨w.heap.size, 2, none⟩ = some (.int .i64 x.n) := hk.cell (setcell_node w g _ x 2 _ rfl) hgn
  have m3 : w1.cell? ⟨w.heap.size, 3, none⟩ = some (.string x.s) := hk.cell (setcell_node w g _ x 3 _ rfl) hgn
  have m4 : w1.cell? ⟨w.heap.size, 4, none⟩ = some (.string x.t) := hk.cell (setcell_node w g _ x 4 _ rfl) hgn
  have m5 : w1.cell? ⟨w.heap.size, 5, none⟩ = some (.string x.u) := hk.cell (setcell_node w g _ x 5 _ rfl) hgn
  have m6 : w1.cell? ⟨w.heap.size, 6, none⟩ = some (.int .i64 x.line) := hk.cell (setcell_node w g _ x 6 _ rfl) hgn
  have m7 : w1.cell? ⟨w.heap.size, 7, none⟩ = some (.int .i64 x.col) := hk.cell (setcell_node w g _ x 7 _ rfl) hgn
  have HI1 := Lib.hid (HI0.out.keep hk)
  have HE1 := Lib.hid (HE0.out.keep (Keep2.one hk) HW0.out HTS.out HAS.out)
  have HK1 := Lib.hid (HK0.out.trans hk)
  have HW1 := Lib.hid hw1
  have c2 := Wk.c2 (show Wk g _ _ 0 0 av w1 from hw1)
  clear hk hw1 n0 n1 n2 n3 n4 n5 n6 n7 c0 c1 c12 fz fz2
  rw [h4.out] at m0
  rw [hn.out] at m2
  have hcell : ∃ gE, EA = some ⟨gE, 0, none⟩ ∧ w1.cell? ⟨gE, k, none⟩ = some (.string (env[k]).str) := by
    rcases HE1.out.1 with ⟨h1, _⟩ | ⟨gE, _, h1, h2⟩
    · subst h1; simp at hkl
    · simp only [Value.slice.injEq] at h1
      exact ⟨gE, h1.1, h2 k hkl⟩
  obtain ⟨gE, rfl, hce⟩ := hcell
  generalize env[k] = tk at hce X
  clear h4 hn m1 m3 m4 m5 m6 m7
  have hkl' : (k : Int) < (env.length : Int) := by omega
  go_wp2_with fail
  go_ret
  unfold TyRes
  rw [X.out]
  exact ⟨_, rfl, Keep2.one HK1.out, HI1.out.all, rfl, HW1.out⟩

set_option maxRecDepth 100000 in
set_option maxHeartbeats 1600000 in
theorem one_fn {T : List Nd} (hT : T.length ≤ 16384) (f : Nat) (ih : KidR T f) (g a : Nat) (tv av ev : Value) (env : List Ty) (p q : Nat) (w : World) (hA : Args T (f + 1) g a tv av ev env p q w)
    (x : Nd) (hx : T[p]? = some x) (hk : kidsOk x = true) (hq : timesM (shapeM T f) x.kids.toNat (p + 1) = .ok q) (wr : Option Int) (hwd : wordsM x env.length = wr) (he0 : wr = none) (h4 : Hid (x.kind = 5)) (t u : Ty) (ht : t.fits) (hu : u.fits) (hta : Hid (x.t = t.str)) (htu : Hid (x.u = u.str)) (hsq : Hid (shapeM T f (p + 1) = .ok q)) (X : Hid (typedM T (f + 1) env p = fnM T f (t :: env) p t u)) :
    Calls Try.prog 58 #[.pointer (some ⟨g, 0, none⟩), ev] w (TyRes T g a tv av w (typedM T (f + 1) env p)) := by
  obtain ⟨hI, hw, he, hfit, hlen, hsz, _⟩ := hA
  have hwk : Wk g tv p 0 0 av w := hw
  obtain ⟨A, c, rfl, hlc, hN⟩ := hI.nodes
  obtain ⟨EA, ec, rfl⟩ := tys_form he.1
  have c0 := hwk.c0
  have c1 := hwk.c1
  have fz := hwk.free 1
  have hgl := hwk.lt
  have hpl : p < T.length := (List.getElem?_eq_some_iff.1 hx).1
  obtain ⟨b, off, rfl, hM⟩ := hN (by omega)
  obtain ⟨n0, n1, n2, n3, n4, n5, n6, n7⟩ := hM.at_ hx
  have i1 : (p : Int) < (T.length : Int) := by omega
  have fz2 : ∀ o, (w.alloc o).frozen? ⟨g, 1, none⟩ = false := fun o => by rw [World.frozen?_alloc_old _ _ _ (by simp; omega)]; exact fz
  have c12 : ∀ o, (w.alloc o).cell? ⟨g, 1, none⟩ = some (.int .i64 p) := fun o => by rw [World.cell?_alloc_lt w o _ (by simpa using hgl)]; exact c1
  have hB1 : Below (w.setCell ⟨g, 1, none⟩ (.int .i64 ((p : Int) + 1))).heap.size (w.setCell ⟨g, 1, none⟩ (.int .i64 ((p : Int) + 1))) ((w.setCell ⟨g, 1, none⟩ (.int .i64 ((p : Int) + 1))).alloc (nodeCells x)) := (Below.refl _ _).alloc (Nat.le_refl _) _
  have hK0 : Keep g w ((w.setCell ⟨g, 1, none⟩ (.int .i64 ((p : Int) + 1))).alloc (nodeCells x)) := ((Keep.refl g w).setCell 1 _).alloc _
  have hW0 : WkS g (.slice (some ⟨b, off, none⟩) T.length c) ((p : Int) + 1) none av ((w.setCell ⟨g, 1, none⟩ (.int .i64 ((p : Int) + 1))).alloc (nodeCells x)) := (hwk.set1 ((p : Int) + 1)).later hB1
  have haw := hI.all.lt
  have HNE := Lib.hid hI.ne
  have HTS := Lib.hid hI.ts
  have HAS := Lib.hid hI.as
  have HI0 := Lib.hid (hI.keep hK0)
  have HE0 := Lib.hid (he.keep (Keep2.one hK0) hw hI.ts hI.as)
  have HK0 := Lib.hid hK0
  have HW0 := Lib.hid hW0
  have HF := Lib.hid hfit
  have HSZ := Lib.hid hsz
  have HX := Lib.hid hx
  have HKid := Lib.hid hk
  have HQ := Lib.hid hq
  have HWD := Lib.hid hwd
  have hszx := hsz x (List.mem_of_getElem? hx)
  clear hx hN hM hk hq hI he hfit hwd hsz hw hwk hK0 hW0 hB1
  go_enter Try.func58, Try.ntmps58
  go_wp2_with fail
  refine (show Calls Try.prog 65 #[.pointer (some ⟨g, 0, none⟩), x.val, .int .i64 p, .int .i64 env.length] _ (AskRes g _ _ (wordsS x env.length p) av (.tuple #[]) _) from ahead_any x g _ av _ p env.length _ HW0.out hszx (by omega)).mono ?_
  subst he0
  rw [wordsS_none HWD.out]
  rintro e w1 ⟨rfl, hk, hw1⟩
  have hgn : w.heap.size ≠ g := by omega
  have han : w.heap.size ≠ a := by omega
  have hszw : w.heap.size + 1 ≤ w1.heap.size := by have := hk.size; simp [World.setCell] at this; omega
  have m0 : w1.cell? ⟨w.heap.size, 0, none⟩ = some (.int .i8 x.kind) := hk.cell (setcell_node w g _ x 0 _ rfl) hgn
  have m1 : w1.cell? ⟨w.heap.size, 1, none⟩ = some (.int .i64 x.kids) := hk.cell (setcell_node w g _ x 1 _ rfl) hgn
  have m2 : w1.cell? ⟨w.heap.size, 2, none⟩ = some (.int .i64 x.n) := hk.cell (setcell_node w g _ x 2 _ rfl) hgn
  have m3 : w1.cell? ⟨w.heap.size, 3, none⟩ = some (.string x.s) := hk.cell (setcell_node w g _ x 3 _ rfl) hgn
  have m4 : w1.cell? ⟨w.heap.size, 4, none⟩ = some (.string x.t) := hk.cell (setcell_node w g _ x 4 _ rfl) hgn
  have m5 : w1.cell? ⟨w.heap.size, 5, none⟩ = some (.string x.u) := hk.cell (setcell_node w g _ x 5 _ rfl) hgn
  have m6 : w1.cell? ⟨w.heap.size, 6, none⟩ = some (.int .i64 x.line) := hk.cell (setcell_node w g _ x 6 _ rfl) hgn
  have m7 : w1.cell? ⟨w.heap.size, 7, none⟩ = some (.int .i64 x.col) := hk.cell (setcell_node w g _ x 7 _ rfl) hgn
  have HI1 := Lib.hid (HI0.out.keep hk)
  have HE1 := Lib.hid (HE0.out.keep (Keep2.one hk) HW0.out HTS.out HAS.out)
  have HK1 := Lib.hid (HK0.out.trans hk)
  have HW1 := Lib.hid hw1
  have c2 := Wk.c2 (show Wk g _ _ 0 0 av w1 from hw1)
  clear hk hw1 n0 n1 n2 n3 n4 n5 n6 n7 c0 c1 c12 fz fz2
  rw [h4.out] at m0
  rw [hta.out] at m4
  rw [htu.out] at m5
  go_wp2_with fail
  refine (rf_fn ih x.kids x.n x.s t u x.line x.col ht hu g a _ av _ env p q _ HI1.out HW1.out HE1.out HF.out hlen HSZ.out hsq.out).mono ?_
  rintro e w2 ⟨us, rfl, hk2, ha2, hr⟩
  have HH := Lib.hid hr
  have HK2 := Lib.hid ((Keep2.one (a := a) HK1.out).trans hk2)
  have HA2 := Lib.hid ha2
  clear hr hk2 ha2 c2 m0 m1 m2 m3 m4 m5 m6 m7
  go_wp2_with fail
  go_ret
  unfold TyRes
  rw [X.out]
  exact ⟨_, rfl, HK2.out, HA2.out, HH.out⟩
set_option maxRecDepth 100000 in
set_option maxHeartbeats 1600000 in
theorem one_rec {T : List Nd} (hT : T.length ≤ 16384) (f : Nat) (ih : KidR T f) (g a : Nat) (tv av ev : Value) (env : List Ty) (p q : Nat) (w : World) (hA : Args T (f + 1) g a tv av ev env p q w)
    (x : Nd) (hx : T[p]? = some x) (hk : kidsOk x = true) (hq : timesM (shapeM T f) x.kids.toNat (p + 1) = .ok q) (wr : Option Int) (hwd : wordsM x env.length = wr) (he0 : wr = none) (h4 : Hid (x.kind = 6)) (t u : Ty) (ht : t.fits) (hu : u.fits) (hta : Hid (x.t = t.str)) (htu : Hid (x.u = u.str)) (hsq : Hid (shapeM T f (p + 1) = .ok q)) (X : Hid (typedM T (f + 1) env p = fnM T f (t :: .fn t u :: env) p t u)) :
    Calls Try.prog 58 #[.pointer (some ⟨g, 0, none⟩), ev] w (TyRes T g a tv av w (typedM T (f + 1) env p)) := by
  obtain ⟨hI, hw, he, hfit, hlen, hsz, _⟩ := hA
  have hwk : Wk g tv p 0 0 av w := hw
  obtain ⟨A, c, rfl, hlc, hN⟩ := hI.nodes
  obtain ⟨EA, ec, rfl⟩ := tys_form he.1
  have c0 := hwk.c0
  have c1 := hwk.c1
  have fz := hwk.free 1
  have hgl := hwk.lt
  have hpl : p < T.length := (List.getElem?_eq_some_iff.1 hx).1
  obtain ⟨b, off, rfl, hM⟩ := hN (by omega)
  obtain ⟨n0, n1, n2, n3, n4, n5, n6, n7⟩ := hM.at_ hx
  have i1 : (p : Int) < (T.length : Int) := by omega
  have fz2 : ∀ o, (w.alloc o).frozen? ⟨g, 1, none⟩ = false := fun o => by rw [World.frozen?_alloc_old _ _ _ (by simp; omega)]; exact fz
  have c12 : ∀ o, (w.alloc o).cell? ⟨g, 1, none⟩ = some (.int .i64 p) := fun o => by rw [World.cell?_alloc_lt w o _ (by simpa using hgl)]; exact c1
  have hB1 : Below (w.setCell ⟨g, 1, none⟩ (.int .i64 ((p : Int) + 1))).heap.size (w.setCell ⟨g, 1, none⟩ (.int .i64 ((p : Int) + 1))) ((w.setCell ⟨g, 1, none⟩ (.int .i64 ((p : Int) + 1))).alloc (nodeCells x)) := (Below.refl _ _).alloc (Nat.le_refl _) _
  have hK0 : Keep g w ((w.setCell ⟨g, 1, none⟩ (.int .i64 ((p : Int) + 1))).alloc (nodeCells x)) := ((Keep.refl g w).setCell 1 _).alloc _
  have hW0 : WkS g (.slice (some ⟨b, off, none⟩) T.length c) ((p : Int) + 1) none av ((w.setCell ⟨g, 1, none⟩ (.int .i64 ((p : Int) + 1))).alloc (nodeCells x)) := (hwk.set1 ((p : Int) + 1)).later hB1
  have haw := hI.all.lt
  have HNE := Lib.hid hI.ne
  have HTS := Lib.hid hI.ts
  have HAS := Lib.hid hI.as
  have HI0 := Lib.hid (hI.keep hK0)
  have HE0 := Lib.hid (he.keep (Keep2.one hK0) hw hI.ts hI.as)
  have HK0 := Lib.hid hK0
  have HW0 := Lib.hid hW0
  have HF := Lib.hid hfit
  have HSZ := Lib.hid hsz
  have HX := Lib.hid hx
  have HKid := Lib.hid hk
  have HQ := Lib.hid hq
  have HWD := Lib.hid hwd
  have hszx := hsz x (List.mem_of_getElem? hx)
  clear hx hN hM hk hq hI he hfit hwd hsz hw hwk hK0 hW0 hB1
  go_enter Try.func58, Try.ntmps58
  go_wp2_with fail
  refine (show Calls Try.prog 65 #[.pointer (some ⟨g, 0, none⟩), x.val, .int .i64 p, .int .i64 env.length] _ (AskRes g _ _ (wordsS x env.length p) av (.tuple #[]) _) from ahead_any x g _ av _ p env.length _ HW0.out hszx (by omega)).mono ?_
  subst he0
  rw [wordsS_none HWD.out]
  rintro e w1 ⟨rfl, hk, hw1⟩
  have hgn : w.heap.size ≠ g := by omega
  have han : w.heap.size ≠ a := by omega
  have hszw : w.heap.size + 1 ≤ w1.heap.size := by have := hk.size; simp [World.setCell] at this; omega
  have m0 : w1.cell? ⟨w.heap.size, 0, none⟩ = some (.int .i8 x.kind) := hk.cell (setcell_node w g _ x 0 _ rfl) hgn
  have m1 : w1.cell? ⟨w.heap.size, 1, none⟩ = some (.int .i64 x.kids) := hk.cell (setcell_node w g _ x 1 _ rfl) hgn
  have m2 : w1.cell? ⟨w.heap.size, 2, none⟩ = some (.int .i64 x.n) := hk.cell (setcell_node w g _ x 2 _ rfl) hgn
  have m3 : w1.cell? ⟨w.heap.size, 3, none⟩ = some (.string x.s) := hk.cell (setcell_node w g _ x 3 _ rfl) hgn
  have m4 : w1.cell? ⟨w.heap.size, 4, none⟩ = some (.string x.t) := hk.cell (setcell_node w g _ x 4 _ rfl) hgn
  have m5 : w1.cell? ⟨w.heap.size, 5, none⟩ = some (.string x.u) := hk.cell (setcell_node w g _ x 5 _ rfl) hgn
  have m6 : w1.cell? ⟨w.heap.size, 6, none⟩ = some (.int .i64 x.line) := hk.cell (setcell_node w g _ x 6 _ rfl) hgn
  have m7 : w1.cell? ⟨w.heap.size, 7, none⟩ = some (.int .i64 x.col) := hk.cell (setcell_node w g _ x 7 _ rfl) hgn
  have HI1 := Lib.hid (HI0.out.keep hk)
  have HE1 := Lib.hid (HE0.out.keep (Keep2.one hk) HW0.out HTS.out HAS.out)
  have HK1 := Lib.hid (HK0.out.trans hk)
  have HW1 := Lib.hid hw1
  have c2 := Wk.c2 (show Wk g _ _ 0 0 av w1 from hw1)
  clear hk hw1 n0 n1 n2 n3 n4 n5 n6 n7 c0 c1 c12 fz fz2
  rw [h4.out] at m0
  rw [hta.out] at m4
  rw [htu.out] at m5
  go_wp2_with fail
  refine (rf_rec ih x.kids x.n x.s t u x.line x.col ht hu g a _ av _ env p q _ HI1.out HW1.out HE1.out HF.out hlen HSZ.out hsq.out).mono ?_
  rintro e w2 ⟨us, rfl, hk2, ha2, hr⟩
  have HH := Lib.hid hr
  have HK2 := Lib.hid ((Keep2.one (a := a) HK1.out).trans hk2)
  have HA2 := Lib.hid ha2
  clear hr hk2 ha2 c2 m0 m1 m2 m3 m4 m5 m6 m7
  go_wp2_with fail
  go_ret
  unfold TyRes
  rw [X.out]
  exact ⟨_, rfl, HK2.out, HA2.out, HH.out⟩
end Go.Proofs.Ytnmhiddahfnkoaa

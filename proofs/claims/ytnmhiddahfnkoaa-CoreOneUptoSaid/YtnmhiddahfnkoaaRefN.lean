/- Walks of the document's answer for layer 10: the type of one node: let, casts, the kinds that have rules. -/
import Derived.Test.YtnmhiddahfnkoaaRefO
import Derived.Test.YtnmhiddahfnkoaaCoreK
namespace Go.Proofs.Ytnmhiddahfnkoaa
set_option linter.unusedSimpArgs false
set_option linter.unusedVariables false
open Go.RowKit Culp

set_option maxRecDepth 100000 in
set_option maxHeartbeats 1600000 in
theorem one_let {T : List Nd} (hT : T.length ≤ 16384) (f : Nat) (ih : KidR T f) (g a : Nat) (tv av ev : Value) (env : List Ty) (p q : Nat) (w : World) (hA : Args T (f + 1) g a tv av ev env p q w)
    (x : Nd) (hx : T[p]? = some x) (hk : kidsOk x = true) (hq : timesM (shapeM T f) x.kids.toNat (p + 1) = .ok q) (wr : Option Int) (hwd : wordsM x env.length = wr) (he0 : wr = none) (h4 : Hid (x.kind = 8)) (q1 : Nat) (hs1 : Hid (shapeM T f (p + 1) = .ok q1)) (hs2 : Hid (shapeM T f q1 = .ok q)) (X : Hid (typedM T (f + 1) env p = match typedM T f env (p + 1) with | .error e => .error e | .ok (a, q) => typedM T f (a :: env) q)) :
    Calls Try.prog 58 #[.pointer (some ⟨g, 0, none⟩), ev] w (TyRes T g a tv av w (typedM T (f + 1) env p)) := by
  obtain ⟨hI, hw, he, hfit, hlen, hsz, _⟩ := hA
  have hwk : Wk g tv p 0 0 av w := hw
  obtain ⟨A, c, rfl, hlc, hN⟩ := hI.nodes
  obtain ⟨EA, ec, rfl⟩ := tys_form he.1
  have c0 := hwk.c0
  have c1 := hwk.c1
  have fz := hwk.free 1
  have hgl := hwk.lt
  have hpl : p < T.length := (List.getElem?_eq_some_iff.1 hx).1
  obtain ⟨b, off, rfl, hM⟩ := hN (by omega)
  obtain ⟨n0, n1, n2, n3, n4, n5, n6, n7⟩ := hM.at_ hx
  have i1 : (p : Int) < (T.length : Int) := by omega
  have fz2 : ∀ o, (w.alloc o).frozen? ⟨g, 1, none⟩ = false := fun o => by rw [World.frozen?_alloc_old _ _ _ (by simp; omega)]; exact fz
  have c12 : ∀ o, (w.alloc o).cell? ⟨g, 1, none⟩ = some (.int .i64 p) := fun o => by rw [World.cell?_alloc_lt w o _ (by simpa using hgl)]; exact c1
  have hB1 : Below (w.setCell ⟨g, 1, none⟩ (.int .i64 ((p : Int) + 1))).heap.size (w.setCell ⟨g, 1, none⟩ (.int .i64 ((p : Int) + 1))) ((w.setCell ⟨g, 1, none⟩ (.int .i64 ((p : Int) + 1))).alloc (nodeCells x)) := (Below.refl _ _).alloc (Nat.le_refl _) _
  have hK0 : Keep g w ((w.setCell ⟨g, 1, none⟩ (.int .i64 ((p : Int) + 1))).alloc (nodeCells x)) := ((Keep.refl g w).setCell 1 _).alloc _
  have hW0 : WkS g (.slice (some ⟨b, off, none⟩) T.length c) ((p : Int) + 1) none av ((w.setCell ⟨g, 1, none⟩ (.int .i64 ((p : Int) + 1))).alloc (nodeCells x)) := (hwk.set1 ((p : Int) + 1)).later hB1
  have haw := hI.all.lt
  have HNE := Lib.hid hI.ne
  have HTS := Lib.hid hI.ts
  have HAS := Lib.hid hI.as
  have HI0 := Lib.hid (hI.keep hK0)
  have HE0 := Lib.hid (he.keep (Keep2.one hK0) hw hI.ts hI.as)
  have HK0 := Lib.hid hK0
  have HW0 := Lib.hid hW0
  have HF := Lib.hid hfit
  have HSZ := Lib.hid hsz
  have HX := Lib.hid hx
  have HKid := Lib.hid hk
  have HQ := Lib.hid hq
  have HWD := Lib.hid hwd
  have hszx := hsz x (List.mem_of_getElem? hx)
  clear hx hN hM hk hq hI he hfit hwd hsz hw hwk hK0 hW0 hB1
  go_enter Try.func58, Try.ntmps58
  go_wp2_with fail
  refine (show Calls Try.prog 65 #[.pointer (some ⟨g, 0, none⟩), x.val, .int .i64 p, .int .i64 env.length] _ (AskRes g _ _ (wordsS x env.length p) av (.tuple #[]) _) from ahead_any x g _ av _ p env.length _ HW0.out hszx (by omega)).mono ?_
  subst he0
  rw [wordsS_none HWD.out]
  rintro e w1 ⟨rfl, hk, hw1⟩
  have hgn : w.heap.size ≠ g := by omega
  have han : w.heap.size ≠ a := by omega
  have hszw : w.heap.size + 1 ≤ w1.heap.size := by have := hk.size; simp [World.setCell] at this; omega
  have m0 : w1.cell? ⟨w.heap.size, 0, none⟩ = some (.int .i8 x.kind) := hk.cell (setcell_node w g _ x 0 _ rfl) hgn
  have m1 : w1.cell? ⟨w.heap.size, 1, none⟩ = some (.int .i64 x.kids) := hk.cell (setcell_node w g _ x 1 _ rfl) hgn
  have m2 : w1.cell? ⟨w.heap.size, 2, none⟩ = some (.int .i64 x.n) := hk.cell (setcell_node w g _ x 2 _ rfl) hgn
  have m3 : w1.cell? ⟨w.heap.size, 3, none⟩ = some (.string x.s) := hk.cell (setcell_node w g _ x 3 _ rfl) hgn
  have m4 : w1.cell? ⟨w.heap.size, 4, none⟩ = some (.string x.t) := hk.cell (setcell_node w g _ x 4 _ rfl) hgn
  have m5 : w1.cell? ⟨w.heap.size, 5, none⟩ = some (.string x.u) := hk.cell (setcell_node w g _ x 5 _ rfl) hgn
  have m6 : w1.cell? ⟨w.heap.size, 6, none⟩ = some (.int .i64 x.line) := hk.cell (setcell_node w g _ x 6 _ rfl) hgn
  have m7 : w1.cell? ⟨w.heap.size, 7, none⟩ = some (.int .i64 x.col) := hk.cell (setcell_node w g _ x 7 _ rfl) hgn
  have HI1 := Lib.hid (HI0.out.keep hk)
  have HE1 := Lib.hid (HE0.out.keep (Keep2.one hk) HW0.out HTS.out HAS.out)
  have HK1 := Lib.hid (HK0.out.trans hk)
  have HW1 := Lib.hid hw1
  have c2 := Wk.c2 (show Wk g _ _ 0 0 av w1 from hw1)
  clear hk hw1 n0 n1 n2 n3 n4 n5 n6 n7 c0 c1 c12 fz fz2
  rw [h4.out] at m0
  clear m1 m2 m3 m4 m5 m6 m7
  go_wp2_with fail
  refine (ih g a _ av (.slice EA env.length ec) env (p + 1) q1 _ ⟨HI1.out, HW1.out, HE1.out, HF.out, by omega, HSZ.out, hs1.out⟩).mono ?_
  unfold TyRes
  cases hr : typedM T f env (p + 1) with
  | error fl =>
    obtain ⟨e0, p0⟩ := fl
    rintro e w2 ⟨us, rfl, hk2, ha2, q2, hw2⟩
    have c2' := hw2.2.c2
    have e0' : (e0 != 0) = true := by simpa [bne] using hw2.1
    have HK2 := Lib.hid ((Keep2.one (a := a) HK1.out).trans hk2)
    have HA2 := Lib.hid ha2
    have HW2 := Lib.hid hw2
    have HR := Lib.hid hr
    clear hk2 ha2 hw2 hr c2 m0
    go_wp2_with fail
    go_ret
    unfold TyRes
    rw [X.out, HR.out]
    exact ⟨_, rfl, HK2.out, HA2.out, _, HW2.out⟩
  | ok bq =>
    obtain ⟨b0, q0⟩ := bq
    obtain ⟨rfl, hbf⟩ := typedM_ok T f env (p + 1) q1 b0 q0 HF.out hs1.out hr
    rintro e w2 ⟨us, rfl, hk2, ha2, rfl, hw2⟩
    have c2' := Wk.c2 (show Wk g _ _ 0 0 av w2 from hw2)
    have hsz2 : w.heap.size + 1 ≤ w2.heap.size := Nat.le_trans hszw hk2.size
    have HK2 := Lib.hid ((Keep2.one (a := a) HK1.out).trans hk2)
    have HI2 := Lib.hid (HI1.out.next hk2 ha2)
    have HE2 := Lib.hid (HE1.out.keep hk2 HW1.out HTS.out HAS.out)
    have HW2 := Lib.hid hw2
    have HR := Lib.hid hr
    clear hk2 ha2 hw2 hr c2 m0
    go_wp2_with fail
    have hB2 : ∀ o, Below w2.heap.size w2 (w2.alloc o) := fun o => (Below.refl _ _).alloc (Nat.le_refl _) o
    refine (under_x a (.slice EA env.length ec) _ [b0] env _ (by simp; omega) (tys_lit1 w2 b0) ((HE2.out.later (hB2 _)).1) (by simp; omega)).mono ?_
    rintro e w3 ⟨v3, rfl, ht3, hb3⟩
    have hb3' := (hB2 _).trans (hb3.mono (by simp))
    have HI3 := Lib.hid (HI2.out.later hb3')
    have HW3 := Lib.hid (HW2.out.later hb3')
    have HK3 := Lib.hid (HK2.out.trans (Keep2.of hb3'))
    have HT3 := Lib.hid ht3
    clear hb3 hb3' ht3 hB2 c2'
    go_wp2_with fail
    refine (ih g a _ av v3 (b0 :: env) q0 q _ ⟨HI3.out, HW3.out, HT3.out, fits_cons hbf HF.out, by simp; omega, HSZ.out, hs2.out⟩).mono ?_
    rintro e w4 ⟨us, rfl, hk4, ha4, hh⟩
    have HH := Lib.hid hh
    have HK4 := Lib.hid (HK3.out.trans hk4)
    have HA4 := Lib.hid ha4
    clear hh hk4 ha4
    go_wp2_with fail
    go_ret
    unfold TyRes
    rw [X.out, HR.out]
    exact ⟨_, rfl, HK4.out, HA4.out, HH.out⟩

set_option maxRecDepth 100000 in
set_option maxHeartbeats 1600000 in
theorem one_cast {T : List Nd} (hT : T.length ≤ 16384) (f : Nat) (ih : KidR T f) (g a : Nat) (tv av ev : Value) (env : List Ty) (p q : Nat) (w : World) (hA : Args T (f + 1) g a tv av ev env p q w)
    (x : Nd) (hx : T[p]? = some x) (hk : kidsOk x = true) (hq : timesM (shapeM T f) x.kids.toNat (p + 1) = .ok q) (wr : Option Int) (hwd : wordsM x env.length = wr) (he0 : wr = none) (h4 : Hid (x.kind = 30)) (t u : Ty) (hta : Hid (x.t = t.str)) (htu : Hid (x.u = u.str)) (hsq : Hid (shapeM T f (p + 1) = .ok q)) (X : Hid (typedM T (f + 1) env p = match typedM T f env (p + 1) with | .error e => .error e | .ok (b, q) => if b = t then .ok (u, q) else .error (23, p))) :
    Calls Try.prog 58 #[.pointer (some ⟨g, 0, none⟩), ev] w (TyRes T g a tv av w (typedM T (f + 1) env p)) := by
  obtain ⟨hI, hw, he, hfit, hlen, hsz, _⟩ := hA
  have hwk : Wk g tv p 0 0 av w := hw
  obtain ⟨A, c, rfl, hlc, hN⟩ := hI.nodes
  obtain ⟨EA, ec, rfl⟩ := tys_form he.1
  have c0 := hwk.c0
  have c1 := hwk.c1
  have fz := hwk.free 1
  have hgl := hwk.lt
  have hpl : p < T.length := (List.getElem?_eq_some_iff.1 hx).1
  obtain ⟨b, off, rfl, hM⟩ := hN (by omega)
  obtain ⟨n0, n1, n2, n3, n4, n5, n6, n7⟩ := hM.at_ hx
  have i1 : (p : Int) < (T.length : Int) := by omega
  have fz2 : ∀ o, (w.alloc o).frozen? ⟨g, 1, none⟩ = false := fun o => by rw [World.frozen?_alloc_old _ _ _ (by simp; omega)]; exact fz
  have c12 : ∀ o, (w.alloc o).cell? ⟨g, 1, none⟩ = some (.int .i64 p) := fun o => by rw [World.cell?_alloc_lt w o _ (by simpa using hgl)]; exact c1
  have hB1 : Below (w.setCell ⟨g, 1, none⟩ (.int .i64 ((p : Int) + 1))).heap.size (w.setCell ⟨g, 1, none⟩ (.int .i64 ((p : Int) + 1))) ((w.setCell ⟨g, 1, none⟩ (.int .i64 ((p : Int) + 1))).alloc (nodeCells x)) := (Below.refl _ _).alloc (Nat.le_refl _) _
  have hK0 : Keep g w ((w.setCell ⟨g, 1, none⟩ (.int .i64 ((p : Int) + 1))).alloc (nodeCells x)) := ((Keep.refl g w).setCell 1 _).alloc _
  have hW0 : WkS g (.slice (some ⟨b, off, none⟩) T.length c) ((p : Int) + 1) none av ((w.setCell ⟨g, 1, none⟩ (.int .i64 ((p : Int) + 1))).alloc (nodeCells x)) := (hwk.set1 ((p : Int) + 1)).later hB1
  have haw := hI.all.lt
  have HNE := Lib.hid hI.ne
  have HTS := Lib.hid hI.ts
  have HAS := Lib.hid hI.as
  have HI0 := Lib.hid (hI.keep hK0)
  have HE0 := Lib.hid (he.keep (Keep2.one hK0) hw hI.ts hI.as)
  have HK0 := Lib.hid hK0
  have HW0 := Lib.hid hW0
  have HF := Lib.hid hfit
  have HSZ := Lib.hid hsz
  have HX := Lib.hid hx
  have HKid := Lib.hid hk
  have HQ := Lib.hid hq
  have HWD := Lib.hid hwd
  have hszx := hsz x (List.mem_of_getElem? hx)
  clear hx hN hM hk hq hI he hfit hwd hsz hw hwk hK0 hW0 hB1
  go_enter Try.func58, Try.ntmps58
  go_wp2_with fail
  refine (show Calls Try.prog 65 #[.pointer (some ⟨g, 0, none⟩), x.val, .int .i64 p, .int .i64 env.length] _ (AskRes g _ _ (wordsS x env.length p) av (.tuple #[]) _) from ahead_any x g _ av _ p env.length _ HW0.out hszx (by omega)).mono ?_
  subst he0
  rw [wordsS_none HWD.out]
  rintro e w1 ⟨rfl, hk, hw1⟩
  have hgn : w.heap.size ≠ g := by omega
  have han : w.heap.size ≠ a := by omega
  have hszw : w.heap.size + 1 ≤ w1.heap.size := by have := hk.size; simp [World.setCell] at this; omega
  have m0 : w1.cell? ⟨w.heap.size, 0, none⟩ = some (.int .i8 x.kind) := hk.cell (setcell_node w g _ x 0 _ rfl) hgn
  have m1 : w1.cell? ⟨w.heap.size, 1, none⟩ = some (.int .i64 x.kids) := hk.cell (setcell_node w g _ x 1 _ rfl) hgn
  have m2 : w1.cell? ⟨w.heap.size, 2, none⟩ = some (.int .i64 x.n) := hk.cell (setcell_node w g _ x 2 _ rfl) hgn
  have m3 : w1.cell? ⟨w.heap.size, 3, none⟩ = some (.string x.s) := hk.cell (setcell_node w g _ x 3 _ rfl) hgn
  have m4 : w1.cell? ⟨w.heap.size, 4, none⟩ = some (.string x.t) := hk.cell (setcell_node w g _ x 4 _ rfl) hgn
  have m5 : w1.cell? ⟨w.heap.size, 5, none⟩ = some (.string x.u) := hk.cell (setcell_node w g _ x 5 _ rfl) hgn
  have m6 : w1.cell? ⟨w.heap.size, 6, none⟩ = some (.int .i64 x.line) := hk.cell (setcell_node w g _ x 6 _ rfl) hgn
  have m7 : w1.cell? ⟨w.heap.size, 7, none⟩ = some (.int .i64 x.col) := hk.cell (setcell_node w g _ x 7 _ rfl) hgn
  have HI1 := Lib.hid (HI0.out.keep hk)
  have HE1 := Lib.hid (HE0.out.keep (Keep2.one hk) HW0.out HTS.out HAS.out)
  have HK1 := Lib.hid (HK0.out.trans hk)
  have HW1 := Lib.hid hw1
  have c2 := Wk.c2 (show Wk g _ _ 0 0 av w1 from hw1)
  clear hk hw1 n0 n1 n2 n3 n4 n5 n6 n7 c0 c1 c12 fz fz2
  rw [h4.out] at m0
  rw [hta.out] at m4
  rw [htu.out] at m5
  clear m1 m2 m3 m6 m7
  go_wp2_with fail
  refine (ih g a _ av (.slice EA env.length ec) env (p + 1) q _ ⟨HI1.out, HW1.out, HE1.out, HF.out, by omega, HSZ.out, hsq.out⟩).mono ?_
  have he := fun b0 : Ty => str_same b0 t
  unfold TyRes
  cases hr : typedM T f env (p + 1) with
  | error fl =>
    rintro e w2 ⟨us, rfl, hk2, ha2, q2, hw2⟩
    have m4' := hk2.cell m4 hgn han
    have m5' := hk2.cell m5 hgn han
    have HK2 := Lib.hid ((Keep2.one (a := a) HK1.out).trans hk2)
    have HA2 := Lib.hid ha2
    have HW2 := Lib.hid hw2
    have HR := Lib.hid hr
    clear hk2 ha2 hw2 hr c2 m0 m4 m5 he
    go_wp2_with fail
    refine (want_any g _ q2 (some fl) av _ p _ HW2.out).mono ?_
    rintro e w5 ⟨rfl, hk5, hw5⟩
    have m5n := hk5.cell m5' hgn
    have HK5 := Lib.hid (HK2.out.trans (Keep2.one hk5))
    have HA5 := Lib.hid (HA2.out.keep hk5 HNE.out)
    have HW5 : Hid (WkS g (.slice (some ⟨b, off, none⟩) T.length c) q2 (some fl) av w5) := by
      have : ∀ b : Bool, (if b then some fl else failS (some fl) (23, p)) = some fl := fun b => by cases b <;> rfl
      rw [this] at hw5
      exact hw5
    clear hk5 hw5 m4' m5'
    go_wp2_with fail
    go_ret
    unfold TyRes
    rw [X.out, HR.out]
    exact ⟨_, rfl, HK5.out, HA5.out, _, HW5.out⟩
  | ok bq =>
    obtain ⟨b0, q0⟩ := bq
    rintro e w2 ⟨us, rfl, hk2, ha2, rfl, hw2⟩
    have m4' := hk2.cell m4 hgn han
    have m5' := hk2.cell m5 hgn han
    have HK2 := Lib.hid ((Keep2.one (a := a) HK1.out).trans hk2)
    have HA2 := Lib.hid ha2
    have HW2 := Lib.hid hw2
    have HR := Lib.hid hr
    have heb := he b0
    clear hk2 ha2 hw2 hr c2 m0 m4 m5 he
    go_wp2_with fail
    refine (want_any g _ q0 none av (b0 == t) p _ HW2.out).mono ?_
    rintro e w5 ⟨rfl, hk5, hw5⟩
    have m5n := hk5.cell m5' hgn
    have HK5 := Lib.hid (HK2.out.trans (Keep2.one hk5))
    have HA5 := Lib.hid (HA2.out.keep hk5 HNE.out)
    have HW5 := Lib.hid hw5
    clear hk5 hw5 m4' m5' heb
    go_wp2_with fail
    go_ret
    unfold TyRes
    rw [X.out, HR.out]
    by_cases hbu : b0 = t
    · subst hbu
      have h5 := HW5.out
      rw [beq_self_eq_true, if_pos rfl] at h5
      simp only [if_true]
      exact ⟨_, rfl, HK5.out, HA5.out, rfl, h5⟩
    · have h5 := HW5.out
      rw [beq_eq_false_iff_ne.2 hbu] at h5
      simp only [if_neg hbu]
      exact ⟨_, rfl, HK5.out, HA5.out, _, h5⟩

theorem ownK.keep2 {v : Value} {n : Nat} {xs : List Value} {B g a : Nat} {w w' : World} (h : ownK v n xs B w) (hg : g < B) (ha : a < B) (hk : Keep2 g a w w') : ownK v n xs B w' := by
  refine ⟨h.1, ?_⟩
  rcases h.2 with hn | ⟨b, cap, cur, rfl, hb, hgg, rest⟩
  · exact .inl hn
  · refine .inr ⟨b, cap, cur, rfl, hb, ?_, rest⟩
    rw [hk.block b (Array.getElem?_eq_some_iff.1 hgg).1 (by omega) (by omega)]
    exact hgg
theorem WkS.grow {g : Nat} {tv : Value} {p : Int} {s : Option Flt} {av : Value} {B : Nat} {w w' : World} (h : WkS g tv p s av w) (hg : g < B) (hb : Below B w w') : WkS g tv p s av w' := by
  rcases s with _ | ⟨e, n⟩
  · exact (hb.block g hg).trans h
  · exact ⟨h.1, (hb.block g hg).trans h.2⟩
theorem AllAt.grow {a n B : Nat} {w w' : World} (h : AllAt a n w) (ha : a < B) (hb : Below B w w') : AllAt a n w' := by
  obtain ⟨cs, h1, h2⟩ := h
  exact ⟨cs, (hb.block a ha).trans h1, h2⟩
/-- What the kids have come to. -/
def KidsSt (T : List Nd) (f : Nat) (env : List Ty) (n p k q : Nat) (pk : Int) (s : Option Flt) (xs : List Value) : Prop :=
  (s = none ∧ ∃ (m : Nat) (ds : List Ty), pk = m ∧ xs = strs ds ∧ ds.length = k ∧ (∀ t ∈ ds, t.fits) ∧ timesM (shapeM T f) (n - k) m = .ok q ∧ kidsM (typedM T f env) n p = ahead ds (kidsM (typedM T f env) (n - k) m)) ∨
  (∃ fl, s = some fl ∧ kidsM (typedM T f env) n p = .error fl)

set_option maxRecDepth 100000 in
set_option maxHeartbeats 1600000 in
theorem one_rule {T : List Nd} (hT : T.length ≤ 16384) (f : Nat) (ih : KidR T f) (g a : Nat) (tv av ev : Value) (env : List Ty) (p q : Nat) (w : World) (hA : Args T (f + 1) g a tv av ev env p q w)
    (x : Nd) (hx : T[p]? = some x) (hk : kidsOk x = true) (hq : timesM (shapeM T f) x.kids.toNat (p + 1) = .ok q) (wr : Option Int) (hwd : wordsM x env.length = wr) (he0 : wr = none) (h1 : Hid (x.kind ≠ 1)) (h2 : Hid (x.kind ≠ 2)) (h3 : Hid (x.kind ≠ 3)) (h4 : Hid (x.kind ≠ 4)) (h5 : Hid (x.kind ≠ 5)) (h6 : Hid (x.kind ≠ 6)) (h8 : Hid (x.kind ≠ 8)) (h30 : Hid (x.kind ≠ 30)) (n : Nat) (hn : Hid (x.kids = n)) (X : Hid (typedM T (f + 1) env p = match kidsM (typedM T f env) n (p + 1) with | .error e => .error e | .ok (ks, q) => (match ruleM x ks with | .error e => .error (e, p) | .ok t => .ok (t, q)))) :
    Calls Try.prog 58 #[.pointer (some ⟨g, 0, none⟩), ev] w (TyRes T g a tv av w (typedM T (f + 1) env p)) := by
  obtain ⟨hI, hw, he, hfit, hlen, hsz, _⟩ := hA
  have hwk : Wk g tv p 0 0 av w := hw
  obtain ⟨A, c, rfl, hlc, hN⟩ := hI.nodes
  obtain ⟨EA, ec, rfl⟩ := tys_form he.1
  have c0 := hwk.c0
  have c1 := hwk.c1
  have fz := hwk.free 1
  have hgl := hwk.lt
  have hpl : p < T.length := (List.getElem?_eq_some_iff.1 hx).1
  obtain ⟨b, off, rfl, hM⟩ := hN (by omega)
  obtain ⟨n0, n1, n2, n3, n4, n5, n6, n7⟩ := hM.at_ hx
  have i1 : (p : Int) < (T.length : Int) := by omega
  have fz2 : ∀ o, (w.alloc o).frozen? ⟨g, 1, none⟩ = false := fun o => by rw [World.frozen?_alloc_old _ _ _ (by simp; omega)]; exact fz
  have c12 : ∀ o, (w.alloc o).cell? ⟨g, 1, none⟩ = some (.int .i64 p) := fun o => by rw [World.cell?_alloc_lt w o _ (by simpa using hgl)]; exact c1
  have hB1 : Below (w.setCell ⟨g, 1, none⟩ (.int .i64 ((p : Int) + 1))).heap.size (w.setCell ⟨g, 1, none⟩ (.int .i64 ((p : Int) + 1))) ((w.setCell ⟨g, 1, none⟩ (.int .i64 ((p : Int) + 1))).alloc (nodeCells x)) := (Below.refl _ _).alloc (Nat.le_refl _) _
  have hK0 : Keep g w ((w.setCell ⟨g, 1, none⟩ (.int .i64 ((p : Int) + 1))).alloc (nodeCells x)) := ((Keep.refl g w).setCell 1 _).alloc _
  have hW0 : WkS g (.slice (some ⟨b, off, none⟩) T.length c) ((p : Int) + 1) none av ((w.setCell ⟨g, 1, none⟩ (.int .i64 ((p : Int) + 1))).alloc (nodeCells x)) := (hwk.set1 ((p : Int) + 1)).later hB1
  have haw := hI.all.lt
  have HNE := Lib.hid hI.ne
  have HTS := Lib.hid hI.ts
  have HAS := Lib.hid hI.as
  have HI0 := Lib.hid (hI.keep hK0)
  have HE0 := Lib.hid (he.keep (Keep2.one hK0) hw hI.ts hI.as)
  have HK0 := Lib.hid hK0
  have HW0 := Lib.hid hW0
  have HF := Lib.hid hfit
  have HSZ := Lib.hid hsz
  have HX := Lib.hid hx
  have HKid := Lib.hid hk
  have HQ := Lib.hid hq
  have HWD := Lib.hid hwd
  have hszx := hsz x (List.mem_of_getElem? hx)
  clear hx hN hM hk hq hI he hfit hwd hsz hw hwk hK0 hW0 hB1
  go_enter Try.func58, Try.ntmps58
  go_wp2_with fail
  refine (show Calls Try.prog 65 #[.pointer (some ⟨g, 0, none⟩), x.val, .int .i64 p, .int .i64 env.length] _ (AskRes g _ _ (wordsS x env.length p) av (.tuple #[]) _) from ahead_any x g _ av _ p env.length _ HW0.out hszx (by omega)).mono ?_
  subst he0
  rw [wordsS_none HWD.out]
  rintro e w1 ⟨rfl, hk, hw1⟩
  have hgn : w.heap.size ≠ g := by omega
  have han : w.heap.size ≠ a := by omega
  have hszw : w.heap.size + 1 ≤ w1.heap.size := by have := hk.size; simp [World.setCell] at this; omega
  have m0 : w1.cell? ⟨w.heap.size, 0, none⟩ = some (.int .i8 x.kind) := hk.cell (setcell_node w g _ x 0 _ rfl) hgn
  have m1 : w1.cell? ⟨w.heap.size, 1, none⟩ = some (.int .i64 x.kids) := hk.cell (setcell_node w g _ x 1 _ rfl) hgn
  have m2 : w1.cell? ⟨w.heap.size, 2, none⟩ = some (.int .i64 x.n) := hk.cell (setcell_node w g _ x 2 _ rfl) hgn
  have m3 : w1.cell? ⟨w.heap.size, 3, none⟩ = some (.string x.s) := hk.cell (setcell_node w g _ x 3 _ rfl) hgn
  have m4 : w1.cell? ⟨w.heap.size, 4, none⟩ = some (.string x.t) := hk.cell (setcell_node w g _ x 4 _ rfl) hgn
  have m5 : w1.cell? ⟨w.heap.size, 5, none⟩ = some (.string x.u) := hk.cell (setcell_node w g _ x 5 _ rfl) hgn
  have m6 : w1.cell? ⟨w.heap.size, 6, none⟩ = some (.int .i64 x.line) := hk.cell (setcell_node w g _ x 6 _ rfl) hgn
  have m7 : w1.cell? ⟨w.heap.size, 7, none⟩ = some (.int .i64 x.col) := hk.cell (setcell_node w g _ x 7 _ rfl) hgn
  have HI1 := Lib.hid (HI0.out.keep hk)
  have HE1 := Lib.hid (HE0.out.keep (Keep2.one hk) HW0.out HTS.out HAS.out)
  have HK1 := Lib.hid (HK0.out.trans hk)
  have HW1 := Lib.hid hw1
  have c2 := Wk.c2 (show Wk g _ _ 0 0 av w1 from hw1)
  clear hk hw1 n0 n1 n2 n3 n4 n5 n6 n7 c0 c1 c12 fz fz2
  rw [hn.out] at m1
  have HQ1 : Hid (timesM (shapeM T f) n (p + 1) = .ok q) := by rw [Hid, ← HQ.out, hn.out]; simp
  have e1 : (x.kind == 1) = false := beq_eq_false_iff_ne.2 h1.out
  have e2 : (x.kind == 2) = false := beq_eq_false_iff_ne.2 h2.out
  have e3 : (x.kind == 3) = false := beq_eq_false_iff_ne.2 h3.out
  have e4 : (x.kind == 4) = false := beq_eq_false_iff_ne.2 h4.out
  have e5 : (x.kind == 5) = false := beq_eq_false_iff_ne.2 h5.out
  have e6 : (x.kind == 6) = false := beq_eq_false_iff_ne.2 h6.out
  have e8 : (x.kind == 8) = false := beq_eq_false_iff_ne.2 h8.out
  have e30 : (x.kind == 30) = false := beq_eq_false_iff_ne.2 h30.out
  have hnl : n ≤ 16384 := by have := times_len n (p + 1) q (by omega) HQ1.out; omega
  have hgw : g < w1.heap.size := by omega
  have haw1 : a < w1.heap.size := by omega
  go_wp2_with fail
  go_loopw [9, 10, 11] (fun v i _ wr => ∃ (k : Nat) (pk : Int) (s : Option Flt) (xs : List Value), k ≤ n ∧ i = .int .i64 k ∧ Hid (KidsSt T f env n (p + 1) k q pk s xs) ∧ Hid (WkS g (.slice (some ⟨b, off, none⟩) T.length c) pk s av wr) ∧ Hid (Keep2 g a w1 wr) ∧ Hid (AllAt a T.length wr) ∧ Hid (ownK v k xs w1.heap.size wr)) (fun _ i _ _ => n - (intOf i).toNat)
  case atStart => exact ⟨0, _, none, [], by omega, rfl, Lib.hid (.inl ⟨rfl, p + 1, [], rfl, rfl, rfl, by simp, HQ1.out, by rw [ahead_nil]; rfl⟩), HW1, Lib.hid (Keep2.refl _ _ _), Lib.hid HI1.out.all, Lib.hid (World.ownsRow_nil _ _ _ _)⟩
  case round =>
    obtain ⟨k, pk, s, xs, hk, rfl, HST, HWr, HKr, HAr, HO⟩ := hrel
    have m1r := HKr.out.cell m1 hgn han
    have HIr := Lib.hid (HI1.out.next HKr.out HAr.out)
    have HEr := Lib.hid (HE1.out.keep HKr.out HW1.out HTS.out HAS.out)
    by_cases hlt : k < n
    · obtain ⟨j, hj⟩ : ∃ j, n - k = j + 1 := ⟨n - k - 1, by omega⟩
      rcases HST.out with ⟨rfl, m, ds, rfl, rfl, hdl, hdf, hT1, hM1⟩ | ⟨fl, rfl, hE⟩
      · rw [hj] at hT1 hM1
        obtain ⟨pm, hs1, hT2⟩ := times_succ hT1
        simp only [kidsM] at hM1
        have HS1 := Lib.hid hs1
        have HT2 := Lib.hid hT2
        have HM1 := Lib.hid hM1
        have HDL := Lib.hid hdl
        have HDF := Lib.hid hdf
        have HJ := Lib.hid hj
        clear hT1 hT2 hM1 hs1 hdl hdf hj HST
        go_wp2_with fail
        refine (ih g a _ av (.slice EA env.length ec) env m pm _ ⟨HIr.out, HWr.out, HEr.out, HF.out, by omega, HSZ.out, HS1.out⟩).mono ?_
        unfold TyRes
        cases hr : typedM T f env m with
        | error fl =>
          rintro e w2 ⟨us, rfl, hk2, ha2, q2, hw2⟩
          have hM2 := HM1.out
          rw [hr] at hM2
          simp only at hM2
          have HST2 : Hid (KidsSt T f env n (p + 1) (k + 1) q q2 (some fl) (strs ds ++ [.string us])) := Lib.hid (.inr ⟨fl, rfl, hM2⟩)
          have HW2 := Lib.hid hw2
          have HK2 := Lib.hid (HKr.out.trans hk2)
          have HA2 := Lib.hid ha2
          have hown : w2.ownsRow w1.heap.size 9 1 _ k (strs ds) := HO.out.keep2 hgw haw1 hk2
          have hbase : w1.heap.size ≤ w2.heap.size := HK2.out.size
          clear hr hM2 hw2 hk2 ha2
          go_wp2_with (at_builtin; refine append_one rfl (.tmp 103) (.tmp 105) 61 9 rfl w1.heap.size _ 16 Try.underlying61 string_info rfl _ _ _ rfl hown _ rfl rfl ?_ ?_ ?_ ?_)
          · omega
          · omega
          · exact hbase
          · intro v' w' hown' hg hb'
            have hown2 : Hid (ownK v' (k + 1) _ w1.heap.size w') := Lib.hid hown'
            have HK3 := Lib.hid (Keep2.grow HK2.out rfl hb')
            have HW3 := Lib.hid (WkS.grow HW2.out hgw hb')
            have HA3 := Lib.hid (AllAt.grow HA2.out haw1 hb')
            clear hown' hg hb' hown m1r
            go_wp2
            go_roundw
            case rel => exact ⟨k + 1, _, _, _, by omega, by go_num, HST2, HW3, HK3, HA3, hown2⟩
            case measure => simp [intOf]; omega
        | ok bq =>
          obtain ⟨b0, q0⟩ := bq
          obtain ⟨rfl, hbf⟩ := typedM_ok T f env m pm b0 q0 HF.out HS1.out hr
          rintro e w2 ⟨us, rfl, hk2, ha2, rfl, hw2⟩
          have hM2 := HM1.out
          rw [hr] at hM2
          simp only at hM2
          have HST2 : Hid (KidsSt T f env n (p + 1) (k + 1) q (q0 : Int) none (strs ds ++ [.string b0.str])) := Lib.hid (.inl ⟨rfl, q0, ds ++ [b0], rfl, by simp [strs], by have := HDL.out; simp; omega, (by intro t ht; rcases List.mem_append.1 ht with h | h; exact HDF.out t h; simp at h; subst h; exact hbf), (by rw [show n - (k + 1) = j by have := HJ.out; omega]; exact HT2.out), (by rw [hM2, ahead_step, show n - (k + 1) = j by have := HJ.out; omega]; rcases kidsM (typedM T f env) j q0 with _ | ⟨_, _⟩ <;> rfl)⟩)
          have HW2 := Lib.hid hw2
          have HK2 := Lib.hid (HKr.out.trans hk2)
          have HA2 := Lib.hid ha2
          have hown : w2.ownsRow w1.heap.size 9 1 _ k (strs ds) := HO.out.keep2 hgw haw1 hk2
          have hbase : w1.heap.size ≤ w2.heap.size := HK2.out.size
          clear hr hM2 hw2 hk2 ha2
          go_wp2_with (at_builtin; refine append_one rfl (.tmp 103) (.tmp 105) 61 9 rfl w1.heap.size _ 16 Try.underlying61 string_info rfl _ _ _ rfl hown _ rfl rfl ?_ ?_ ?_ ?_)
          · omega
          · omega
          · exact hbase
          · intro v' w' hown' hg hb'
            have hown2 : Hid (ownK v' (k + 1) _ w1.heap.size w') := Lib.hid hown'
            have HK3 := Lib.hid (Keep2.grow HK2.out rfl hb')
            have HW3 := Lib.hid (WkS.grow HW2.out hgw hb')
            have HA3 := Lib.hid (AllAt.grow HA2.out haw1 hb')
            clear hown' hg hb' hown m1r
            go_wp2
            go_roundw
            case rel => exact ⟨k + 1, _, _, _, by omega, by go_num, HST2, HW3, HK3, HA3, hown2⟩
            case measure => simp [intOf]; omega
      · have HST2 : Hid (KidsSt T f env n (p + 1) (k + 1) q pk (some fl) (xs ++ [.string ⟨#[]⟩])) := Lib.hid (.inr ⟨fl, rfl, hE⟩)
        clear hE HST
        go_wp2_with fail
        refine (rkid_none g _ av (.slice EA env.length ec) pk fl _ HWr.out).mono ?_
        rintro e w2 ⟨rfl, rfl⟩
        have HW2 := HWr
        have HK2 := HKr
        have HA2 := HAr
        have hown : wr.ownsRow w1.heap.size 9 1 _ k xs := HO.out
        have hbase : w1.heap.size ≤ wr.heap.size := HKr.out.size
        go_wp2_with (at_builtin; refine append_one rfl (.tmp 103) (.tmp 105) 61 9 rfl w1.heap.size _ 16 Try.underlying61 string_info rfl _ _ _ rfl hown _ rfl rfl ?_ ?_ ?_ ?_)
        · omega
        · omega
        · exact hbase
        · intro v' w' hown' hg hb'
          have hown2 : Hid (ownK v' (k + 1) _ w1.heap.size w') := Lib.hid hown'
          have HK3 := Lib.hid (Keep2.grow HK2.out rfl hb')
          have HW3 := Lib.hid (WkS.grow HW2.out hgw hb')
          have HA3 := Lib.hid (AllAt.grow HA2.out haw1 hb')
          clear hown' hg hb' hown m1r
          go_wp2
          go_roundw
          case rel => exact ⟨k + 1, _, _, _, by omega, by go_num, HST2, HW3, HK3, HA3, hown2⟩
          case measure => simp [intOf]; omega
    · obtain rfl : k = n := by omega
      rcases HST.out with ⟨rfl, m, ds, rfl, rfl, hdl, hdf, hT1, hM1⟩ | ⟨fl, rfl, hE⟩
      · rw [Nat.sub_self] at hT1 hM1
        have hmq : m = q := times_zero hT1
        subst hmq
        have Y : Hid (kidsM (typedM T f env) k (p + 1) = .ok (ds, m)) := by rw [Hid, hM1]; simp [kidsM, ahead]
        have hks : Tys wr _ ds := Tys.own (n := k) HO.out
        obtain ⟨KA, kc, rfl⟩ := tys_form hks
        have HKS := Lib.hid hks
        have HDL := Lib.hid hdl
        have HDF := Lib.hid hdf
        clear hT1 hM1 hks hdl hdf HST c2
        have c2 := Wk.c2 (show Wk g _ _ 0 0 av wr from HWr.out)
        replace m0 := HKr.out.cell m0 hgn han
        replace m2 := HKr.out.cell m2 hgn han
        replace m3 := HKr.out.cell m3 hgn han
        replace m4 := HKr.out.cell m4 hgn han
        replace m5 := HKr.out.cell m5 hgn han
        replace m6 := HKr.out.cell m6 hgn han
        replace m7 := HKr.out.cell m7 hgn han
        rw [← hn.out] at m1 m1r
        have hxk : x.kids ≤ (k : Int) := by have := hn.out; omega
        go_wp2_with fail
        refine (show Calls Try.prog 70 #[.pointer (some ⟨g, 0, none⟩), x.val, .slice KA ds.length kc, .int .i64 p] _ (RRes (ruleM x ds) g _ _ p av _) from
          rd_any g _ av _ p env.length _ HWr.out HTS.out HAS.out x ds _ HKS.out HDF.out HWD.out HKid.out (by have := HDL.out; have := hn.out; omega) h1.out h2.out h3.out h4.out h5.out h6.out h8.out h30.out (by have := HDL.out; omega)).mono ?_
        rintro e w3 ⟨us, ⟨rfl, hk3, hw3⟩, hu⟩
        have HK3 := Lib.hid (((Keep2.one (a := a) HK1.out).trans HKr.out).trans (Keep2.one hk3))
        have HA3 := Lib.hid (HAr.out.keep hk3 HNE.out)
        have HW3 := Lib.hid hw3
        have HU := Lib.hid hu
        clear hk3 hw3 hu m0 m1 m1r m2 m3 m4 m5 m6 m7 c2
        go_wp2_with fail
        go_ret
        unfold TyRes
        rw [X.out, Y.out]
        have h3' := HW3.out
        cases hrr : ruleM x ds with
        | error e0 =>
          rw [hrr] at h3'
          simp only [hrr]
          exact ⟨_, rfl, HK3.out, HA3.out, _, h3'⟩
        | ok t0 =>
          rw [hrr] at h3'
          simp only [hrr]
          exact ⟨_, rfl, HK3.out, HA3.out, HU.out _ hrr, h3'⟩
      · obtain ⟨e0, p0⟩ := fl
        have hww := HWr.out
        have c2' := hww.2.c2
        have e0' : (e0 != 0) = true := by simpa [bne] using hww.1
        have HE0 := Lib.hid hE
        clear hE HST hww c2
        go_wp2_with fail
        go_ret
        unfold TyRes
        rw [X.out, HE0.out]
        exact ⟨_, rfl, (Keep2.one (a := a) HK1.out).trans HKr.out, HAr.out, _, HWr.out⟩
end Go.Proofs.Ytnmhiddahfnkoaa

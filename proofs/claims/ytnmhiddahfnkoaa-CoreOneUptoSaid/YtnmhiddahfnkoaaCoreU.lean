/- Walks of package core: the type of a node. -/
import Derived.Test.YtnmhiddahfnkoaaCoreT
import Derived.Test.YtnmhiddahfnkoaaCoreM
namespace Go.Proofs.Ytnmhiddahfnkoaa
set_option linter.unusedSimpArgs false
set_option linter.unusedVariables false
open Go.RowKit Culp

theorem tys_form {w : World} {v : Value} {l : List Ty} (h : Tys w v l) : ∃ A c, v = .slice A l.length c := by
  rcases h with ⟨rfl, rfl⟩ | ⟨g, c, rfl, _⟩
  · exact ⟨_, _, rfl⟩
  · exact ⟨_, _, rfl⟩
theorem Inv.step1 {T : List Nd} {g r : Nat} {tv : Value} {p : Nat} {w : World} (h : Inv T g r tv p w) : Inv T g r tv (p + 1) (w.setCell ⟨g, 1, none⟩ (.int .i64 ((p : Int) + 1))) := by
  have := h.step (p + 1)
  have e : ((p + 1 : Nat) : Int) = (p : Int) + 1 := by omega
  rw [e] at this
  exact this
def nodeCells (x : Nd) : Obj := .cells #[.int .i8 x.kind, .int .i64 x.kids, .int .i64 x.n, .string x.s, .string x.t, .string x.u, .int .i64 x.line, .int .i64 x.col] 44 

set_option maxHeartbeats 1600000 in
theorem typed_bad {T : List Nd} (hT : T.length ≤ 16384) (f : Nat)  (g r : Nat) (tv ev : Value) (env : List Ty) (p q : Nat) (w : World) (I : Inv T g r tv p w) (he : Tys w ev env) (hfit : ∀ t ∈ env, t.fits) (hlen : env.length + 2 * (f + 1) ≤ 3000)
    (x : Nd) (hx : T[p]? = some x) (hk : kidsOk x = true) (hq : timesM (shapeM T f) x.kids.toNat (p + 1) = .ok q) (wr : Option Int) (hw : wordsM x env.length = wr) (e0 : Int) (he0 : wr = some e0) (X : Hid (typedM T (f + 1) env p = .error (e0, p))) :
    Calls Try.prog 28 #[.pointer (some ⟨g, 0, none⟩), ev] w (TypedRes g tv (.map (some r)) w (typedM T (f + 1) env p)) := by
  obtain ⟨A, c, rfl, hlc, hN⟩ := I.nodes
  obtain ⟨EA, ec, rfl⟩ := tys_form he
  have c0 := I.ck.c0
  have c1 := I.ck.c1
  have fz := I.ck.free 1
  have hgl := I.ck.lt
  have hpl : p < T.length := (List.getElem?_eq_some_iff.1 hx).1
  obtain ⟨b, off, rfl, hM⟩ := hN (by omega)
  obtain ⟨n0, n1, n2, n3, n4, n5, n6, n7⟩ := hM.at_ hx
  have i1 : (p : Int) < (T.length : Int) := by omega
  have fz2 : ∀ o, (w.alloc o).frozen? ⟨g, 1, none⟩ = false := fun o => by rw [World.frozen?_alloc_old _ _ _ (by simp; omega)]; exact fz
  have c12 : ∀ o, (w.alloc o).cell? ⟨g, 1, none⟩ = some (.int .i64 p) := fun o => by rw [World.cell?_alloc_lt w o _ (by simpa using hgl)]; exact c1
  have HI := Lib.hid I; have HE := Lib.hid he; have HF := Lib.hid hfit; have HX := Lib.hid hx; have HK := Lib.hid hk; have HQ := Lib.hid hq
  have HX := Lib.hid hx
  have HW := Lib.hid hw
  clear hx hN hM hk hq I he hfit hw
  go_enter Try.func28, Try.ntmps28
  go_wp2_with fail
  refine (show Calls Try.prog 45 #[x.val, .int .i64 p, .int .i64 env.length] _ (WordsRes (wordsM x env.length) p _) from words_any x p env.length _ (by omega)).mono ?_
  rw [HW.out]
  subst he0
  rintro e w' ⟨hb, rfl⟩
  rw [X.out]
  exact ⟨rfl, TypedRes.bad rfl ((((Keep.refl g w).setCell 1 _).alloc _).trans (Keep.of hb))⟩

set_option maxHeartbeats 1600000 in
theorem typed_var {T : List Nd} (hT : T.length ≤ 16384) (f : Nat)  (g r : Nat) (tv ev : Value) (env : List Ty) (p q : Nat) (w : World) (I : Inv T g r tv p w) (he : Tys w ev env) (hfit : ∀ t ∈ env, t.fits) (hlen : env.length + 2 * (f + 1) ≤ 3000)
    (x : Nd) (hx : T[p]? = some x) (hk : kidsOk x = true) (hq : timesM (shapeM T f) x.kids.toNat (p + 1) = .ok q) (wr : Option Int) (hw : wordsM x env.length = wr) (he0 : wr = none) (h4 : Hid (x.kind = 4)) (k : Nat) (hn : Hid (x.n = k)) (hkl : k < env.length) (X : Hid (typedM T (f + 1) env p = .ok (env[k], p + 1))) :
    Calls Try.prog 28 #[.pointer (some ⟨g, 0, none⟩), ev] w (TypedRes g tv (.map (some r)) w (typedM T (f + 1) env p)) := by
  obtain ⟨A, c, rfl, hlc, hN⟩ := I.nodes
  obtain ⟨EA, ec, rfl⟩ := tys_form he
  have c0 := I.ck.c0
  have c1 := I.ck.c1
  have fz := I.ck.free 1
  have hgl := I.ck.lt
  have hpl : p < T.length := (List.getElem?_eq_some_iff.1 hx).1
  obtain ⟨b, off, rfl, hM⟩ := hN (by omega)
  obtain ⟨n0, n1, n2, n3, n4, n5, n6, n7⟩ := hM.at_ hx
  have i1 : (p : Int) < (T.length : Int) := by omega
  have fz2 : ∀ o, (w.alloc o).frozen? ⟨g, 1, none⟩ = false := fun o => by rw [World.frozen?_alloc_old _ _ _ (by simp; omega)]; exact fz
  have c12 : ∀ o, (w.alloc o).cell? ⟨g, 1, none⟩ = some (.int .i64 p) := fun o => by rw [World.cell?_alloc_lt w o _ (by simpa using hgl)]; exact c1
  have HI := Lib.hid I; have HE := Lib.hid he; have HF := Lib.hid hfit; have HX := Lib.hid hx; have HK := Lib.hid hk; have HQ := Lib.hid hq
  have HX := Lib.hid hx
  have HW := Lib.hid hw
  clear hx hN hM hk hq I he hfit hw
  go_enter Try.func28, Try.ntmps28
  go_wp2_with fail
  refine (show Calls Try.prog 45 #[x.val, .int .i64 p, .int .i64 env.length] _ (WordsRes (wordsM x env.length) p _) from words_any x p env.length _ (by omega)).mono ?_
  rw [HW.out]
  subst he0
  rintro e w1 ⟨hb, rfl⟩
  have hK0 : Keep g w ((w.setCell ⟨g, 1, none⟩ (.int .i64 ((p : Int) + 1))).alloc (nodeCells x)) := ((Keep.refl g w).setCell 1 _).alloc _
  have hI0 : Inv T g r (.slice (some ⟨b, off, none⟩) T.length c) (p + 1) ((w.setCell ⟨g, 1, none⟩ (.int .i64 ((p : Int) + 1))).alloc (nodeCells x)) := HI.out.step1.later ((Below.refl _ _).alloc (Nat.le_refl _) _)
  have HI1 := Lib.hid (hI0.later hb)
  have HK1 := Lib.hid (hK0.trans (Keep.of hb))
  have HE1 := Lib.hid (HI.out.tys (hK0.trans (Keep.of hb)) HE.out)
  have hsz : w.heap.size + 1 ≤ w1.heap.size := by have := hb.size; simp [World.setCell] at this; omega
  have m0 : w1.cell? ⟨w.heap.size, 0, none⟩ = some (.int .i8 x.kind) := cell_later hb (by rw [World.cell?_alloc_at _ _ _ _ (by simp [World.setCell])]; rfl)
  have m1 : w1.cell? ⟨w.heap.size, 1, none⟩ = some (.int .i64 x.kids) := cell_later hb (by rw [World.cell?_alloc_at _ _ _ _ (by simp [World.setCell])]; rfl)
  have m2 : w1.cell? ⟨w.heap.size, 2, none⟩ = some (.int .i64 x.n) := cell_later hb (by rw [World.cell?_alloc_at _ _ _ _ (by simp [World.setCell])]; rfl)
  have m3 : w1.cell? ⟨w.heap.size, 3, none⟩ = some (.string x.s) := cell_later hb (by rw [World.cell?_alloc_at _ _ _ _ (by simp [World.setCell])]; rfl)
  have m4 : w1.cell? ⟨w.heap.size, 4, none⟩ = some (.string x.t) := cell_later hb (by rw [World.cell?_alloc_at _ _ _ _ (by simp [World.setCell])]; rfl)
  have m5 : w1.cell? ⟨w.heap.size, 5, none⟩ = some (.string x.u) := cell_later hb (by rw [World.cell?_alloc_at _ _ _ _ (by simp [World.setCell])]; rfl)
  have m6 : w1.cell? ⟨w.heap.size, 6, none⟩ = some (.int .i64 x.line) := cell_later hb (by rw [World.cell?_alloc_at _ _ _ _ (by simp [World.setCell])]; rfl)
  have m7 : w1.cell? ⟨w.heap.size, 7, none⟩ = some (.int .i64 x.col) := cell_later hb (by rw [World.cell?_alloc_at _ _ _ _ (by simp [World.setCell])]; rfl)
  clear hI0 hK0 hb n0 n1 n2 n3 n4 n5 n6 n7 c0 c1 c12 fz fz2
  rw [h4.out] at m0
  rw [hn.out] at m2
  have hcell : ∃ gE, EA = some ⟨gE, 0, none⟩ ∧ w1.cell? ⟨gE, k, none⟩ = some (.string (env[k]).str) := by
    rcases HE1.out with ⟨h1, _⟩ | ⟨gE, _, h1, h2⟩
    · subst h1; simp at hkl
    · simp only [Value.slice.injEq] at h1
      exact ⟨gE, h1.1, h2 k hkl⟩
  obtain ⟨gE, rfl, hce⟩ := hcell
  generalize env[k] = tk at hce X
  clear h4 hn
  have hkl' : (k : Int) < (env.length : Int) := by omega
  go_wp2_with fail
  go_ret
  rw [X.out]
  exact TypedRes.ok_ rfl rfl HK1.out HI1.out.ck

set_option maxHeartbeats 1600000 in
theorem typed_fn {T : List Nd} (hT : T.length ≤ 16384) (f : Nat) (ih : TypedC T f) (g r : Nat) (tv ev : Value) (env : List Ty) (p q : Nat) (w : World) (I : Inv T g r tv p w) (he : Tys w ev env) (hfit : ∀ t ∈ env, t.fits) (hlen : env.length + 2 * (f + 1) ≤ 3000)
    (x : Nd) (hx : T[p]? = some x) (hk : kidsOk x = true) (hq : timesM (shapeM T f) x.kids.toNat (p + 1) = .ok q) (wr : Option Int) (hw : wordsM x env.length = wr) (he0 : wr = none) (h4 : Hid (x.kind = 5)) (a u : Ty) (ha : a.fits) (hu : u.fits) (hta : Hid (x.t = a.str)) (htu : Hid (x.u = u.str)) (hfn : Hid ((Ty.fn a u).fits)) (hsq : Hid (shapeM T f (p + 1) = .ok q)) (X : Hid (typedM T (f + 1) env p = bodyM p (.fn a u) u (typedM T f (a :: env) (p + 1)))) :
    Calls Try.prog 28 #[.pointer (some ⟨g, 0, none⟩), ev] w (TypedRes g tv (.map (some r)) w (typedM T (f + 1) env p)) := by
  obtain ⟨A, c, rfl, hlc, hN⟩ := I.nodes
  obtain ⟨EA, ec, rfl⟩ := tys_form he
  have c0 := I.ck.c0
  have c1 := I.ck.c1
  have fz := I.ck.free 1
  have hgl := I.ck.lt
  have hpl : p < T.length := (List.getElem?_eq_some_iff.1 hx).1
  obtain ⟨b, off, rfl, hM⟩ := hN (by omega)
  obtain ⟨n0, n1, n2, n3, n4, n5, n6, n7⟩ := hM.at_ hx
  have i1 : (p : Int) < (T.length : Int) := by omega
  have fz2 : ∀ o, (w.alloc o).frozen? ⟨g, 1, none⟩ = false := fun o => by rw [World.frozen?_alloc_old _ _ _ (by simp; omega)]; exact fz
  have c12 : ∀ o, (w.alloc o).cell? ⟨g, 1, none⟩ = some (.int .i64 p) := fun o => by rw [World.cell?_alloc_lt w o _ (by simpa using hgl)]; exact c1
  have HI := Lib.hid I; have HE := Lib.hid he; have HF := Lib.hid hfit; have HX := Lib.hid hx; have HK := Lib.hid hk; have HQ := Lib.hid hq
  have HX := Lib.hid hx
  have HW := Lib.hid hw
  clear hx hN hM hk hq I he hfit hw
  go_enter Try.func28, Try.ntmps28
  go_wp2_with fail
  refine (show Calls Try.prog 45 #[x.val, .int .i64 p, .int .i64 env.length] _ (WordsRes (wordsM x env.length) p _) from words_any x p env.length _ (by omega)).mono ?_
  rw [HW.out]
  subst he0
  rintro e w1 ⟨hb, rfl⟩
  have hK0 : Keep g w ((w.setCell ⟨g, 1, none⟩ (.int .i64 ((p : Int) + 1))).alloc (nodeCells x)) := ((Keep.refl g w).setCell 1 _).alloc _
  have hI0 : Inv T g r (.slice (some ⟨b, off, none⟩) T.length c) (p + 1) ((w.setCell ⟨g, 1, none⟩ (.int .i64 ((p : Int) + 1))).alloc (nodeCells x)) := HI.out.step1.later ((Below.refl _ _).alloc (Nat.le_refl _) _)
  have HI1 := Lib.hid (hI0.later hb)
  have HK1 := Lib.hid (hK0.trans (Keep.of hb))
  have HE1 := Lib.hid (HI.out.tys (hK0.trans (Keep.of hb)) HE.out)
  have hsz : w.heap.size + 1 ≤ w1.heap.size := by have := hb.size; simp [World.setCell] at this; omega
  have m0 : w1.cell? ⟨w.heap.size, 0, none⟩ = some (.int .i8 x.kind) := cell_later hb (by rw [World.cell?_alloc_at _ _ _ _ (by simp [World.setCell])]; rfl)
  have m1 : w1.cell? ⟨w.heap.size, 1, none⟩ = some (.int .i64 x.kids) := cell_later hb (by rw [World.cell?_alloc_at _ _ _ _ (by simp [World.setCell])]; rfl)
  have m2 : w1.cell? ⟨w.heap.size, 2, none⟩ = some (.int .i64 x.n) := cell_later hb (by rw [World.cell?_alloc_at _ _ _ _ (by simp [World.setCell])]; rfl)
  have m3 : w1.cell? ⟨w.heap.size, 3, none⟩ = some (.string x.s) := cell_later hb (by rw [World.cell?_alloc_at _ _ _ _ (by simp [World.setCell])]; rfl)
  have m4 : w1.cell? ⟨w.heap.size, 4, none⟩ = some (.string x.t) := cell_later hb (by rw [World.cell?_alloc_at _ _ _ _ (by simp [World.setCell])]; rfl)
  have m5 : w1.cell? ⟨w.heap.size, 5, none⟩ = some (.string x.u) := cell_later hb (by rw [World.cell?_alloc_at _ _ _ _ (by simp [World.setCell])]; rfl)
  have m6 : w1.cell? ⟨w.heap.size, 6, none⟩ = some (.int .i64 x.line) := cell_later hb (by rw [World.cell?_alloc_at _ _ _ _ (by simp [World.setCell])]; rfl)
  have m7 : w1.cell? ⟨w.heap.size, 7, none⟩ = some (.int .i64 x.col) := cell_later hb (by rw [World.cell?_alloc_at _ _ _ _ (by simp [World.setCell])]; rfl)
  clear hI0 hK0 hb n0 n1 n2 n3 n4 n5 n6 n7 c0 c1 c12 fz fz2
  rw [h4.out] at m0
  rw [hta.out] at m4
  rw [htu.out] at m5
  have hs := str_size_le ha
  have hs2 := str_size_le hu
  have hl := str_fn a u
  go_wp2_with fail
  refine (made_any _ (.fn a u) p _).mono ?_
  rw [show madeM (.fn a u) = .ok (.fn a u) by simp [madeM]; exact hfn.out]
  rintro e w2 ⟨hb2, rfl⟩
  have HI2 := Lib.hid (HI1.out.later hb2)
  have HK2 := Lib.hid (HK1.out.trans (Keep.of hb2))
  have HE2 := Lib.hid (HE1.out.later hb2)
  have hsz2 : w.heap.size + 1 ≤ w2.heap.size := Nat.le_trans hsz hb2.size
  replace m4 := cell_later hb2 m4
  replace m5 := cell_later hb2 m5
  clear m0 m1 m2 m3 m6 m7 hb2 HI1 HK1 HE1
  go_wp2_with fail
  refine wp_region_plan (S := fun w' => w'.cell? ⟨w.heap.size, 4, none⟩ = some (.string a.str) ∧ w'.cell? ⟨w.heap.size, 5, none⟩ = some (.string u.str))
    [(0, true), (1, true), (2, true), (3, true), (7, true), (8, true), (10, true), (4, false), (5, false), (6, false), (9, true), (11, false)] (by kernel_rfl) (by kernel_rfl) (by kernel_rfl) (fun _ _ _ _ _ h => h) ⟨m4, m5⟩ ?_
  intro HS
  repeat (first | (apply wpPlan_look; rfl; rfl; (intro wq hq; (try dsimp only at hq); go_split_ands; go_simp; (try rw [if_neg (by omega)]); try with_reducible rfl); simp only [Act.put, List.setIfInBounds_toArray, List.set_cons_zero, List.set_cons_succ]) | (apply wpPlan_skip; rfl; rfl; simp only [Act.put, List.setIfInBounds_toArray, List.set_cons_zero, List.set_cons_succ]) | (apply wpPlan_pass; rfl; rfl; assumption; simp only [Act.put, List.setIfInBounds_toArray, List.set_cons_zero, List.set_cons_succ]))
  have hbd : Below w2.heap.size w2 w2.drew := (Below.refl _ _).drew
  refine wpPlan_run rfl rfl (by simp [execOp, go_sem, build_1]; exact ⟨rfl, rfl⟩) _ (fun _ h => h) ⟨cell_later ((Below.refl _ _).alloc (Nat.le_refl _) _) HS.1, cell_later ((Below.refl _ _).alloc (Nat.le_refl _) _) HS.2⟩ ?_
  simp only [Act.put, List.setIfInBounds_toArray, List.set_cons_zero, List.set_cons_succ]
  apply wpPlan_call; rfl; rfl; rfl; rfl; kernel_rfl; exact push_1 a (.slice EA env.length ec) env w2.drew (HE2.out.later hbd) (by omega); rfl; rintro e w3 ⟨v3, rfl, ht3, hb3⟩
  have hb3' := hbd.trans (hb3.mono (Nat.le_refl _))
  have HI3 := HI2.out.later hb3'
  have HK3 := HK2.out.trans (Keep.of hb3')
  replace m4 := cell_later hb3' m4
  replace m5 := cell_later hb3' m5
  refine ⟨_, rfl, as_S ⟨m4, m5⟩ ?_⟩
  clear HS
  intro HS
  simp only [Act.put, List.setIfInBounds_toArray, List.set_cons_zero, List.set_cons_succ]
  repeat (first | (apply wpPlan_look; rfl; rfl; (intro wq hq; (try dsimp only at hq); go_split_ands; go_simp; (try rw [if_neg (by omega)]); try with_reducible rfl); simp only [Act.put, List.setIfInBounds_toArray, List.set_cons_zero, List.set_cons_succ]) | (apply wpPlan_skip; rfl; rfl; simp only [Act.put, List.setIfInBounds_toArray, List.set_cons_zero, List.set_cons_succ]) | (apply wpPlan_pass; rfl; rfl; assumption; simp only [Act.put, List.setIfInBounds_toArray, List.set_cons_zero, List.set_cons_succ]))
  apply wpPlan_call2; rfl; rfl; rfl; rfl; kernel_rfl; exact ih g r _ v3 (a :: env) (p + 1) q w3 HI3 ht3 (fits_cons ha HF.out) (by simp; omega) hsq.out; rfl
  cases hr : typedM T f (a :: env) (p + 1) with
  | error fl =>
    obtain ⟨e0, p0⟩ := fl
    rintro e w4 ⟨hk4, rfl⟩
    refine .inr ⟨_, rfl, ?_⟩
    rw [X.out, hr]
    exact ⟨rfl, TypedRes.bad rfl (HK3.trans hk4)⟩
  | ok bq =>
    obtain ⟨b0, q0⟩ := bq
    rintro e w4 ⟨hk4, rfl, hc4⟩
    have HK4 := HK3.trans hk4
    have hgn : w.heap.size ≠ g := by omega
    replace m4 := hk4.cell m4 hgn
    replace m5 := hk4.cell m5 hgn
    refine .inl ⟨_, rfl, as_S ⟨m4, m5⟩ ?_⟩
    clear HS
    intro HS
    simp only [Act.put, List.setIfInBounds_toArray, List.set_cons_zero, List.set_cons_succ]
    have he := str_eqv b0 u
    by_cases hbu : b0 = u
    all_goals
      first
        | rw [decide_eq_true hbu] at he
        | rw [decide_eq_false hbu] at he
      have HB := Lib.hid hbu
      have HR := Lib.hid hr
      clear hbu hr
      repeat (first | (apply wpPlan_look; rfl; rfl; (intro wq hq; (try dsimp only at hq); go_split_ands; go_simp; (try rw [if_neg (by omega)]); try with_reducible rfl); simp only [Act.put, List.setIfInBounds_toArray, List.set_cons_zero, List.set_cons_succ]) | (apply wpPlan_skip; rfl; rfl; simp only [Act.put, List.setIfInBounds_toArray, List.set_cons_zero, List.set_cons_succ]) | (apply wpPlan_pass; rfl; rfl; assumption; simp only [Act.put, List.setIfInBounds_toArray, List.set_cons_zero, List.set_cons_succ]))
      first
        | (apply wpPlan_call2; rfl; rfl; rfl; rfl; kernel_rfl; exact need_yes 23 p _; rfl; rintro e w' ⟨rfl, rfl⟩
           refine .inl ⟨_, rfl, HS, ?_⟩
           simp only [Act.put, List.setIfInBounds_toArray, List.set_cons_zero, List.set_cons_succ]
           apply wpPlan_done
           go_wp2
           go_ret
           rw [X.out, HR.out]
           exact TypedRes.ok_ (by simp [bodyM, HB.out]) rfl HK4 hc4)
        | (apply wpPlan_call2; rfl; rfl; rfl; rfl; kernel_rfl; exact need_no 23 p _; rfl; rintro e w' ⟨rfl, rfl⟩
           refine .inr ⟨_, rfl, ?_⟩
           rw [X.out, HR.out]
           exact ⟨rfl, TypedRes.bad (by simp [bodyM, HB.out]) HK4⟩)

set_option maxHeartbeats 1600000 in
theorem typed_rec {T : List Nd} (hT : T.length ≤ 16384) (f : Nat) (ih : TypedC T f) (g r : Nat) (tv ev : Value) (env : List Ty) (p q : Nat) (w : World) (I : Inv T g r tv p w) (he : Tys w ev env) (hfit : ∀ t ∈ env, t.fits) (hlen : env.length + 2 * (f + 1) ≤ 3000)
    (x : Nd) (hx : T[p]? = some x) (hk : kidsOk x = true) (hq : timesM (shapeM T f) x.kids.toNat (p + 1) = .ok q) (wr : Option Int) (hw : wordsM x env.length = wr) (he0 : wr = none) (h4 : Hid (x.kind = 6)) (a u : Ty) (ha : a.fits) (hu : u.fits) (hta : Hid (x.t = a.str)) (htu : Hid (x.u = u.str)) (hfn : Hid ((Ty.fn a u).fits)) (hsq : Hid (shapeM T f (p + 1) = .ok q)) (X : Hid (typedM T (f + 1) env p = bodyM p (.fn a u) u (typedM T f (a :: .fn a u :: env) (p + 1)))) :
    Calls Try.prog 28 #[.pointer (some ⟨g, 0, none⟩), ev] w (TypedRes g tv (.map (some r)) w (typedM T (f + 1) env p)) := by
  obtain ⟨A, c, rfl, hlc, hN⟩ := I.nodes
  obtain ⟨EA, ec, rfl⟩ := tys_form he
  have c0 := I.ck.c0
  have c1 := I.ck.c1
  have fz := I.ck.free 1
  have hgl := I.ck.lt
  have hpl : p < T.length := (List.getElem?_eq_some_iff.1 hx).1
  obtain ⟨b, off, rfl, hM⟩ := hN (by omega)
  obtain ⟨n0, n1, n2, n3, n4, n5, n6, n7⟩ := hM.at_ hx
  have i1 : (p : Int) < (T.length : Int) := by omega
  have fz2 : ∀ o, (w.alloc o).frozen? ⟨g, 1, none⟩ = false := fun o => by rw [World.frozen?_alloc_old _ _ _ (by simp; omega)]; exact fz
  have c12 : ∀ o, (w.alloc o).cell? ⟨g, 1, none⟩ = some (.int .i64 p) := fun o => by rw [World.cell?_alloc_lt w o _ (by simpa using hgl)]; exact c1
  have HI := Lib.hid I; have HE := Lib.hid he; have HF := Lib.hid hfit; have HX := Lib.hid hx; have HK := Lib.hid hk; have HQ := Lib.hid hq
  have HX := Lib.hid hx
  have HW := Lib.hid hw
  clear hx hN hM hk hq I he hfit hw
  go_enter Try.func28, Try.ntmps28
  go_wp2_with fail
  refine (show Calls Try.prog 45 #[x.val, .int .i64 p, .int .i64 env.length] _ (WordsRes (wordsM x env.length) p _) from words_any x p env.length _ (by omega)).mono ?_
  rw [HW.out]
  subst he0
  rintro e w1 ⟨hb, rfl⟩
  have hK0 : Keep g w ((w.setCell ⟨g, 1, none⟩ (.int .i64 ((p : Int) + 1))).alloc (nodeCells x)) := ((Keep.refl g w).setCell 1 _).alloc _
  have hI0 : Inv T g r (.slice (some ⟨b, off, none⟩) T.length c) (p + 1) ((w.setCell ⟨g, 1, none⟩ (.int .i64 ((p : Int) + 1))).alloc (nodeCells x)) := HI.out.step1.later ((Below.refl _ _).alloc (Nat.le_refl _) _)
  have HI1 := Lib.hid (hI0.later hb)
  have HK1 := Lib.hid (hK0.trans (Keep.of hb))
  have HE1 := Lib.hid (HI.out.tys (hK0.trans (Keep.of hb)) HE.out)
  have hsz : w.heap.size + 1 ≤ w1.heap.size := by have := hb.size; simp [World.setCell] at this; omega
  have m0 : w1.cell? ⟨w.heap.size, 0, none⟩ = some (.int .i8 x.kind) := cell_later hb (by rw [World.cell?_alloc_at _ _ _ _ (by simp [World.setCell])]; rfl)
  have m1 : w1.cell? ⟨w.heap.size, 1, none⟩ = some (.int .i64 x.kids) := cell_later hb (by rw [World.cell?_alloc_at _ _ _ _ (by simp [World.setCell])]; rfl)
  have m2 : w1.cell? ⟨w.heap.size, 2, none⟩ = some (.int .i64 x.n) := cell_later hb (by rw [World.cell?_alloc_at _ _ _ _ (by simp [World.setCell])]; rfl)
  have m3 : w1.cell? ⟨w.heap.size, 3, none⟩ = some (.string x.s) := cell_later hb (by rw [World.cell?_alloc_at _ _ _ _ (by simp [World.setCell])]; rfl)
  have m4 : w1.cell? ⟨w.heap.size, 4, none⟩ = some (.string x.t) := cell_later hb (by rw [World.cell?_alloc_at _ _ _ _ (by simp [World.setCell])]; rfl)
  have m5 : w1.cell? ⟨w.heap.size, 5, none⟩ = some (.string x.u) := cell_later hb (by rw [World.cell?_alloc_at _ _ _ _ (by simp [World.setCell])]; rfl)
  have m6 : w1.cell? ⟨w.heap.size, 6, none⟩ = some (.int .i64 x.line) := cell_later hb (by rw [World.cell?_alloc_at _ _ _ _ (by simp [World.setCell])]; rfl)
  have m7 : w1.cell? ⟨w.heap.size, 7, none⟩ = some (.int .i64 x.col) := cell_later hb (by rw [World.cell?_alloc_at _ _ _ _ (by simp [World.setCell])]; rfl)
  clear hI0 hK0 hb n0 n1 n2 n3 n4 n5 n6 n7 c0 c1 c12 fz fz2
  rw [h4.out] at m0
  rw [hta.out] at m4
  rw [htu.out] at m5
  have hs := str_size_le ha
  have hs2 := str_size_le hu
  have hl := str_fn a u
  go_wp2_with fail
  refine (made_any _ (.fn a u) p _).mono ?_
  rw [show madeM (.fn a u) = .ok (.fn a u) by simp [madeM]; exact hfn.out]
  rintro e w2 ⟨hb2, rfl⟩
  have HI2 := Lib.hid (HI1.out.later hb2)
  have HK2 := Lib.hid (HK1.out.trans (Keep.of hb2))
  have HE2 := Lib.hid (HE1.out.later hb2)
  have hsz2 : w.heap.size + 1 ≤ w2.heap.size := Nat.le_trans hsz hb2.size
  replace m4 := cell_later hb2 m4
  replace m5 := cell_later hb2 m5
  clear m0 m1 m2 m3 m6 m7 hb2 HI1 HK1 HE1
  go_wp2_with fail
  refine wp_region_plan (S := fun w' => w'.cell? ⟨w.heap.size, 4, none⟩ = some (.string a.str) ∧ w'.cell? ⟨w.heap.size, 5, none⟩ = some (.string u.str))
    [(0, true), (1, true), (2, true), (3, true), (4, true), (8, true), (9, true), (11, true), (5, false), (6, false), (7, false), (10, true), (12, false)] (by kernel_rfl) (by kernel_rfl) (by kernel_rfl) (fun _ _ _ _ _ h => h) ⟨m4, m5⟩ ?_
  intro HS
  repeat (first | (apply wpPlan_look; rfl; rfl; (intro wq hq; (try dsimp only at hq); go_split_ands; go_simp; (try rw [if_neg (by omega)]); try with_reducible rfl); simp only [Act.put, List.setIfInBounds_toArray, List.set_cons_zero, List.set_cons_succ]) | (apply wpPlan_skip; rfl; rfl; simp only [Act.put, List.setIfInBounds_toArray, List.set_cons_zero, List.set_cons_succ]) | (apply wpPlan_pass; rfl; rfl; assumption; simp only [Act.put, List.setIfInBounds_toArray, List.set_cons_zero, List.set_cons_succ]))
  have hbd : Below w2.heap.size w2 w2.drew := (Below.refl _ _).drew
  refine wpPlan_run rfl rfl (by simp [execOp, go_sem, build_2]; exact ⟨rfl, rfl⟩) _ (fun _ h => h) ⟨cell_later ((Below.refl _ _).alloc (Nat.le_refl _) _) HS.1, cell_later ((Below.refl _ _).alloc (Nat.le_refl _) _) HS.2⟩ ?_
  simp only [Act.put, List.setIfInBounds_toArray, List.set_cons_zero, List.set_cons_succ]
  apply wpPlan_call; rfl; rfl; rfl; rfl; kernel_rfl; exact push_2 a (.fn a u) (.slice EA env.length ec) env w2.drew (HE2.out.later hbd) (by omega); rfl; rintro e w3 ⟨v3, rfl, ht3, hb3⟩
  have hb3' := hbd.trans (hb3.mono (Nat.le_refl _))
  have HI3 := HI2.out.later hb3'
  have HK3 := HK2.out.trans (Keep.of hb3')
  replace m4 := cell_later hb3' m4
  replace m5 := cell_later hb3' m5
  refine ⟨_, rfl, as_S ⟨m4, m5⟩ ?_⟩
  clear HS
  intro HS
  simp only [Act.put, List.setIfInBounds_toArray, List.set_cons_zero, List.set_cons_succ]
  repeat (first | (apply wpPlan_look; rfl; rfl; (intro wq hq; (try dsimp only at hq); go_split_ands; go_simp; (try rw [if_neg (by omega)]); try with_reducible rfl); simp only [Act.put, List.setIfInBounds_toArray, List.set_cons_zero, List.set_cons_succ]) | (apply wpPlan_skip; rfl; rfl; simp only [Act.put, List.setIfInBounds_toArray, List.set_cons_zero, List.set_cons_succ]) | (apply wpPlan_pass; rfl; rfl; assumption; simp only [Act.put, List.setIfInBounds_toArray, List.set_cons_zero, List.set_cons_succ]))
  apply wpPlan_call2; rfl; rfl; rfl; rfl; kernel_rfl; exact ih g r _ v3 (a :: .fn a u :: env) (p + 1) q w3 HI3 ht3 (fits_cons ha (fits_cons hfn.out HF.out)) (by simp; omega) hsq.out; rfl
  cases hr : typedM T f (a :: .fn a u :: env) (p + 1) with
  | error fl =>
    obtain ⟨e0, p0⟩ := fl
    rintro e w4 ⟨hk4, rfl⟩
    refine .inr ⟨_, rfl, ?_⟩
    rw [X.out, hr]
    exact ⟨rfl, TypedRes.bad rfl (HK3.trans hk4)⟩
  | ok bq =>
    obtain ⟨b0, q0⟩ := bq
    rintro e w4 ⟨hk4, rfl, hc4⟩
    have HK4 := HK3.trans hk4
    have hgn : w.heap.size ≠ g := by omega
    replace m4 := hk4.cell m4 hgn
    replace m5 := hk4.cell m5 hgn
    refine .inl ⟨_, rfl, as_S ⟨m4, m5⟩ ?_⟩
    clear HS
    intro HS
    simp only [Act.put, List.setIfInBounds_toArray, List.set_cons_zero, List.set_cons_succ]
    have he := str_eqv b0 u
    by_cases hbu : b0 = u
    all_goals
      first
        | rw [decide_eq_true hbu] at he
        | rw [decide_eq_false hbu] at he
      have HB := Lib.hid hbu
      have HR := Lib.hid hr
      clear hbu hr
      repeat (first | (apply wpPlan_look; rfl; rfl; (intro wq hq; (try dsimp only at hq); go_split_ands; go_simp; (try rw [if_neg (by omega)]); try with_reducible rfl); simp only [Act.put, List.setIfInBounds_toArray, List.set_cons_zero, List.set_cons_succ]) | (apply wpPlan_skip; rfl; rfl; simp only [Act.put, List.setIfInBounds_toArray, List.set_cons_zero, List.set_cons_succ]) | (apply wpPlan_pass; rfl; rfl; assumption; simp only [Act.put, List.setIfInBounds_toArray, List.set_cons_zero, List.set_cons_succ]))
      first
        | (apply wpPlan_call2; rfl; rfl; rfl; rfl; kernel_rfl; exact need_yes 23 p _; rfl; rintro e w' ⟨rfl, rfl⟩
           refine .inl ⟨_, rfl, HS, ?_⟩
           simp only [Act.put, List.setIfInBounds_toArray, List.set_cons_zero, List.set_cons_succ]
           apply wpPlan_done
           go_wp2
           go_ret
           rw [X.out, HR.out]
           exact TypedRes.ok_ (by simp [bodyM, HB.out]) rfl HK4 hc4)
        | (apply wpPlan_call2; rfl; rfl; rfl; rfl; kernel_rfl; exact need_no 23 p _; rfl; rintro e w' ⟨rfl, rfl⟩
           refine .inr ⟨_, rfl, ?_⟩
           rw [X.out, HR.out]
           exact ⟨rfl, TypedRes.bad (by simp [bodyM, HB.out]) HK4⟩)

set_option maxHeartbeats 1600000 in
theorem typed_fn_large {T : List Nd} (hT : T.length ≤ 16384) (f : Nat)  (g r : Nat) (tv ev : Value) (env : List Ty) (p q : Nat) (w : World) (I : Inv T g r tv p w) (he : Tys w ev env) (hfit : ∀ t ∈ env, t.fits) (hlen : env.length + 2 * (f + 1) ≤ 3000)
    (x : Nd) (hx : T[p]? = some x) (hk : kidsOk x = true) (hq : timesM (shapeM T f) x.kids.toNat (p + 1) = .ok q) (wr : Option Int) (hw : wordsM x env.length = wr) (he0 : wr = none) (h4 : Hid (x.kind = 5)) (a u : Ty) (ha : a.fits) (hu : u.fits) (hta : Hid (x.t = a.str)) (htu : Hid (x.u = u.str)) (hfn : Hid (¬ (Ty.fn a u).fits)) (X : Hid (typedM T (f + 1) env p = .error (21, p))) :
    Calls Try.prog 28 #[.pointer (some ⟨g, 0, none⟩), ev] w (TypedRes g tv (.map (some r)) w (typedM T (f + 1) env p)) := by
  obtain ⟨A, c, rfl, hlc, hN⟩ := I.nodes
  obtain ⟨EA, ec, rfl⟩ := tys_form he
  have c0 := I.ck.c0
  have c1 := I.ck.c1
  have fz := I.ck.free 1
  have hgl := I.ck.lt
  have hpl : p < T.length := (List.getElem?_eq_some_iff.1 hx).1
  obtain ⟨b, off, rfl, hM⟩ := hN (by omega)
  obtain ⟨n0, n1, n2, n3, n4, n5, n6, n7⟩ := hM.at_ hx
  have i1 : (p : Int) < (T.length : Int) := by omega
  have fz2 : ∀ o, (w.alloc o).frozen? ⟨g, 1, none⟩ = false := fun o => by rw [World.frozen?_alloc_old _ _ _ (by simp; omega)]; exact fz
  have c12 : ∀ o, (w.alloc o).cell? ⟨g, 1, none⟩ = some (.int .i64 p) := fun o => by rw [World.cell?_alloc_lt w o _ (by simpa using hgl)]; exact c1
  have HI := Lib.hid I; have HE := Lib.hid he; have HF := Lib.hid hfit; have HX := Lib.hid hx; have HK := Lib.hid hk; have HQ := Lib.hid hq
  have HX := Lib.hid hx
  have HW := Lib.hid hw
  clear hx hN hM hk hq I he hfit hw
  go_enter Try.func28, Try.ntmps28
  go_wp2_with fail
  refine (show Calls Try.prog 45 #[x.val, .int .i64 p, .int .i64 env.length] _ (WordsRes (wordsM x env.length) p _) from words_any x p env.length _ (by omega)).mono ?_
  rw [HW.out]
  subst he0
  rintro e w1 ⟨hb, rfl⟩
  have hK0 : Keep g w ((w.setCell ⟨g, 1, none⟩ (.int .i64 ((p : Int) + 1))).alloc (nodeCells x)) := ((Keep.refl g w).setCell 1 _).alloc _
  have hI0 : Inv T g r (.slice (some ⟨b, off, none⟩) T.length c) (p + 1) ((w.setCell ⟨g, 1, none⟩ (.int .i64 ((p : Int) + 1))).alloc (nodeCells x)) := HI.out.step1.later ((Below.refl _ _).alloc (Nat.le_refl _) _)
  have HI1 := Lib.hid (hI0.later hb)
  have HK1 := Lib.hid (hK0.trans (Keep.of hb))
  have HE1 := Lib.hid (HI.out.tys (hK0.trans (Keep.of hb)) HE.out)
  have hsz : w.heap.size + 1 ≤ w1.heap.size := by have := hb.size; simp [World.setCell] at this; omega
  have m0 : w1.cell? ⟨w.heap.size, 0, none⟩ = some (.int .i8 x.kind) := cell_later hb (by rw [World.cell?_alloc_at _ _ _ _ (by simp [World.setCell])]; rfl)
  have m1 : w1.cell? ⟨w.heap.size, 1, none⟩ = some (.int .i64 x.kids) := cell_later hb (by rw [World.cell?_alloc_at _ _ _ _ (by simp [World.setCell])]; rfl)
  have m2 : w1.cell? ⟨w.heap.size, 2, none⟩ = some (.int .i64 x.n) := cell_later hb (by rw [World.cell?_alloc_at _ _ _ _ (by simp [World.setCell])]; rfl)
  have m3 : w1.cell? ⟨w.heap.size, 3, none⟩ = some (.string x.s) := cell_later hb (by rw [World.cell?_alloc_at _ _ _ _ (by simp [World.setCell])]; rfl)
  have m4 : w1.cell? ⟨w.heap.size, 4, none⟩ = some (.string x.t) := cell_later hb (by rw [World.cell?_alloc_at _ _ _ _ (by simp [World.setCell])]; rfl)
  have m5 : w1.cell? ⟨w.heap.size, 5, none⟩ = some (.string x.u) := cell_later hb (by rw [World.cell?_alloc_at _ _ _ _ (by simp [World.setCell])]; rfl)
  have m6 : w1.cell? ⟨w.heap.size, 6, none⟩ = some (.int .i64 x.line) := cell_later hb (by rw [World.cell?_alloc_at _ _ _ _ (by simp [World.setCell])]; rfl)
  have m7 : w1.cell? ⟨w.heap.size, 7, none⟩ = some (.int .i64 x.col) := cell_later hb (by rw [World.cell?_alloc_at _ _ _ _ (by simp [World.setCell])]; rfl)
  clear hI0 hK0 hb n0 n1 n2 n3 n4 n5 n6 n7 c0 c1 c12 fz fz2
  rw [h4.out] at m0
  rw [hta.out] at m4
  rw [htu.out] at m5
  have hs := str_size_le ha
  have hs2 := str_size_le hu
  have hl := str_fn a u
  go_wp2_with fail
  refine (made_any _ (.fn a u) p _).mono ?_
  rw [show madeM (.fn a u) = .error 21 by simp [madeM]; exact Nat.not_le.1 hfn.out]
  rintro e w2 ⟨hb2, rfl⟩
  rw [X.out]
  exact ⟨rfl, TypedRes.bad rfl (HK1.out.trans (Keep.of hb2))⟩
set_option maxHeartbeats 1600000 in
theorem typed_rec_large {T : List Nd} (hT : T.length ≤ 16384) (f : Nat)  (g r : Nat) (tv ev : Value) (env : List Ty) (p q : Nat) (w : World) (I : Inv T g r tv p w) (he : Tys w ev env) (hfit : ∀ t ∈ env, t.fits) (hlen : env.length + 2 * (f + 1) ≤ 3000)
    (x : Nd) (hx : T[p]? = some x) (hk : kidsOk x = true) (hq : timesM (shapeM T f) x.kids.toNat (p + 1) = .ok q) (wr : Option Int) (hw : wordsM x env.length = wr) (he0 : wr = none) (h4 : Hid (x.kind = 6)) (a u : Ty) (ha : a.fits) (hu : u.fits) (hta : Hid (x.t = a.str)) (htu : Hid (x.u = u.str)) (hfn : Hid (¬ (Ty.fn a u).fits)) (X : Hid (typedM T (f + 1) env p = .error (21, p))) :
    Calls Try.prog 28 #[.pointer (some ⟨g, 0, none⟩), ev] w (TypedRes g tv (.map (some r)) w (typedM T (f + 1) env p)) := by
  obtain ⟨A, c, rfl, hlc, hN⟩ := I.nodes
  obtain ⟨EA, ec, rfl⟩ := tys_form he
  have c0 := I.ck.c0
  have c1 := I.ck.c1
  have fz := I.ck.free 1
  have hgl := I.ck.lt
  have hpl : p < T.length := (List.getElem?_eq_some_iff.1 hx).1
  obtain ⟨b, off, rfl, hM⟩ := hN (by omega)
  obtain ⟨n0, n1, n2, n3, n4, n5, n6, n7⟩ := hM.at_ hx
  have i1 : (p : Int) < (T.length : Int) := by omega
  have fz2 : ∀ o, (w.alloc o).frozen? ⟨g, 1, none⟩ = false := fun o => by rw [World.frozen?_alloc_old _ _ _ (by simp; omega)]; exact fz
  have c12 : ∀ o, (w.alloc o).cell? ⟨g, 1, none⟩ = some (.int .i64 p) := fun o => by rw [World.cell?_alloc_lt w o _ (by simpa using hgl)]; exact c1
  have HI := Lib.hid I; have HE := Lib.hid he; have HF := Lib.hid hfit; have HX := Lib.hid hx; have HK := Lib.hid hk; have HQ := Lib.hid hq
  have HX := Lib.hid hx
  have HW := Lib.hid hw
  clear hx hN hM hk hq I he hfit hw
  go_enter Try.func28, Try.ntmps28
  go_wp2_with fail
  refine (show Calls Try.prog 45 #[x.val, .int .i64 p, .int .i64 env.length] _ (WordsRes (wordsM x env.length) p _) from words_any x p env.length _ (by omega)).mono ?_
  rw [HW.out]
  subst he0
  rintro e w1 ⟨hb, rfl⟩
  have hK0 : Keep g w ((w.setCell ⟨g, 1, none⟩ (.int .i64 ((p : Int) + 1))).alloc (nodeCells x)) := ((Keep.refl g w).setCell 1 _).alloc _
  have hI0 : Inv T g r (.slice (some ⟨b, off, none⟩) T.length c) (p + 1) ((w.setCell ⟨g, 1, none⟩ (.int .i64 ((p : Int) + 1))).alloc (nodeCells x)) := HI.out.step1.later ((Below.refl _ _).alloc (Nat.le_refl _) _)
  have HI1 := Lib.hid (hI0.later hb)
  have HK1 := Lib.hid (hK0.trans (Keep.of hb))
  have HE1 := Lib.hid (HI.out.tys (hK0.trans (Keep.of hb)) HE.out)
  have hsz : w.heap.size + 1 ≤ w1.heap.size := by have := hb.size; simp [World.setCell] at this; omega
  have m0 : w1.cell? ⟨w.heap.size, 0, none⟩ = some (.int .i8 x.kind) := cell_later hb (by rw [World.cell?_alloc_at _ _ _ _ (by simp [World.setCell])]; rfl)
  have m1 : w1.cell? ⟨w.heap.size, 1, none⟩ = some (.int .i64 x.kids) := cell_later hb (by rw [World.cell?_alloc_at _ _ _ _ (by simp [World.setCell])]; rfl)
  have m2 : w1.cell? ⟨w.heap.size, 2, none⟩ = some (.int .i64 x.n) := cell_later hb (by rw [World.cell?_alloc_at _ _ _ _ (by simp [World.setCell])]; rfl)
  have m3 : w1.cell? ⟨w.heap.size, 3, none⟩ = some (.string x.s) := cell_later hb (by rw [World.cell?_alloc_at _ _ _ _ (by simp [World.setCell])]; rfl)
  have m4 : w1.cell? ⟨w.heap.size, 4, none⟩ = some (.string x.t) := cell_later hb (by rw [World.cell?_alloc_at _ _ _ _ (by simp [World.setCell])]; rfl)
  have m5 : w1.cell? ⟨w.heap.size, 5, none⟩ = some (.string x.u) := cell_later hb (by rw [World.cell?_alloc_at _ _ _ _ (by simp [World.setCell])]; rfl)
  have m6 : w1.cell? ⟨w.heap.size, 6, none⟩ = some (.int .i64 x.line) := cell_later hb (by rw [World.cell?_alloc_at _ _ _ _ (by simp [World.setCell])]; rfl)
  have m7 : w1.cell? ⟨w.heap.size, 7, none⟩ = some (.int .i64 x.col) := cell_later hb (by rw [World.cell?_alloc_at _ _ _ _ (by simp [World.setCell])]; rfl)
  clear hI0 hK0 hb n0 n1 n2 n3 n4 n5 n6 n7 c0 c1 c12 fz fz2
  rw [h4.out] at m0
  rw [hta.out] at m4
  rw [htu.out] at m5
  have hs := str_size_le ha
  have hs2 := str_size_le hu
  have hl := str_fn a u
  go_wp2_with fail
  refine (made_any _ (.fn a u) p _).mono ?_
  rw [show madeM (.fn a u) = .error 21 by simp [madeM]; exact Nat.not_le.1 hfn.out]
  rintro e w2 ⟨hb2, rfl⟩
  rw [X.out]
  exact ⟨rfl, TypedRes.bad rfl (HK1.out.trans (Keep.of hb2))⟩

set_option maxHeartbeats 1600000 in
theorem typed_let {T : List Nd} (hT : T.length ≤ 16384) (f : Nat) (ih : TypedC T f) (g r : Nat) (tv ev : Value) (env : List Ty) (p q : Nat) (w : World) (I : Inv T g r tv p w) (he : Tys w ev env) (hfit : ∀ t ∈ env, t.fits) (hlen : env.length + 2 * (f + 1) ≤ 3000)
    (x : Nd) (hx : T[p]? = some x) (hk : kidsOk x = true) (hq : timesM (shapeM T f) x.kids.toNat (p + 1) = .ok q) (wr : Option Int) (hw : wordsM x env.length = wr) (he0 : wr = none) (h4 : Hid (x.kind = 8)) (q1 : Nat) (hs1 : Hid (shapeM T f (p + 1) = .ok q1)) (hs2 : Hid (shapeM T f q1 = .ok q)) (X : Hid (typedM T (f + 1) env p = match typedM T f env (p + 1) with | .error e => .error e | .ok (a, q) => typedM T f (a :: env) q)) :
    Calls Try.prog 28 #[.pointer (some ⟨g, 0, none⟩), ev] w (TypedRes g tv (.map (some r)) w (typedM T (f + 1) env p)) := by
  obtain ⟨A, c, rfl, hlc, hN⟩ := I.nodes
  obtain ⟨EA, ec, rfl⟩ := tys_form he
  have c0 := I.ck.c0
  have c1 := I.ck.c1
  have fz := I.ck.free 1
  have hgl := I.ck.lt
  have hpl : p < T.length := (List.getElem?_eq_some_iff.1 hx).1
  obtain ⟨b, off, rfl, hM⟩ := hN (by omega)
  obtain ⟨n0, n1, n2, n3, n4, n5, n6, n7⟩ := hM.at_ hx
  have i1 : (p : Int) < (T.length : Int) := by omega
  have fz2 : ∀ o, (w.alloc o).frozen? ⟨g, 1, none⟩ = false := fun o => by rw [World.frozen?_alloc_old _ _ _ (by simp; omega)]; exact fz
  have c12 : ∀ o, (w.alloc o).cell? ⟨g, 1, none⟩ = some (.int .i64 p) := fun o => by rw [World.cell?_alloc_lt w o _ (by simpa using hgl)]; exact c1
  have HI := Lib.hid I; have HE := Lib.hid he; have HF := Lib.hid hfit; have HX := Lib.hid hx; have HK := Lib.hid hk; have HQ := Lib.hid hq
  have HX := Lib.hid hx
  have HW := Lib.hid hw
  clear hx hN hM hk hq I he hfit hw
  go_enter Try.func28, Try.ntmps28
  go_wp2_with fail
  refine (show Calls Try.prog 45 #[x.val, .int .i64 p, .int .i64 env.length] _ (WordsRes (wordsM x env.length) p _) from words_any x p env.length _ (by omega)).mono ?_
  rw [HW.out]
  subst he0
  rintro e w1 ⟨hb, rfl⟩
  have hK0 : Keep g w ((w.setCell ⟨g, 1, none⟩ (.int .i64 ((p : Int) + 1))).alloc (nodeCells x)) := ((Keep.refl g w).setCell 1 _).alloc _
  have hI0 : Inv T g r (.slice (some ⟨b, off, none⟩) T.length c) (p + 1) ((w.setCell ⟨g, 1, none⟩ (.int .i64 ((p : Int) + 1))).alloc (nodeCells x)) := HI.out.step1.later ((Below.refl _ _).alloc (Nat.le_refl _) _)
  have HI1 := Lib.hid (hI0.later hb)
  have HK1 := Lib.hid (hK0.trans (Keep.of hb))
  have HE1 := Lib.hid (HI.out.tys (hK0.trans (Keep.of hb)) HE.out)
  have hsz : w.heap.size + 1 ≤ w1.heap.size := by have := hb.size; simp [World.setCell] at this; omega
  have m0 : w1.cell? ⟨w.heap.size, 0, none⟩ = some (.int .i8 x.kind) := cell_later hb (by rw [World.cell?_alloc_at _ _ _ _ (by simp [World.setCell])]; rfl)
  have m1 : w1.cell? ⟨w.heap.size, 1, none⟩ = some (.int .i64 x.kids) := cell_later hb (by rw [World.cell?_alloc_at _ _ _ _ (by simp [World.setCell])]; rfl)
  have m2 : w1.cell? ⟨w.heap.size, 2, none⟩ = some (.int .i64 x.n) := cell_later hb (by rw [World.cell?_alloc_at _ _ _ _ (by simp [World.setCell])]; rfl)
  have m3 : w1.cell? ⟨w.heap.size, 3, none⟩ = some (.string x.s) := cell_later hb (by rw [World.cell?_alloc_at _ _ _ _ (by simp [World.setCell])]; rfl)
  have m4 : w1.cell? ⟨w.heap.size, 4, none⟩ = some (.string x.t) := cell_later hb (by rw [World.cell?_alloc_at _ _ _ _ (by simp [World.setCell])]; rfl)
  have m5 : w1.cell? ⟨w.heap.size, 5, none⟩ = some (.string x.u) := cell_later hb (by rw [World.cell?_alloc_at _ _ _ _ (by simp [World.setCell])]; rfl)
  have m6 : w1.cell? ⟨w.heap.size, 6, none⟩ = some (.int .i64 x.line) := cell_later hb (by rw [World.cell?_alloc_at _ _ _ _ (by simp [World.setCell])]; rfl)
  have m7 : w1.cell? ⟨w.heap.size, 7, none⟩ = some (.int .i64 x.col) := cell_later hb (by rw [World.cell?_alloc_at _ _ _ _ (by simp [World.setCell])]; rfl)
  clear hI0 hK0 hb n0 n1 n2 n3 n4 n5 n6 n7 c0 c1 c12 fz fz2
  rw [h4.out] at m0
  clear m1 m2 m3 m4 m5 m6 m7
  go_wp2_with fail
  refine (ih g r _ (.slice EA env.length ec) env (p + 1) q1 _ HI1.out HE1.out HF.out (by omega) hs1.out).mono ?_
  cases hr : typedM T f env (p + 1) with
  | error fl =>
    obtain ⟨e0, p0⟩ := fl
    rintro e w2 ⟨hk2, rfl⟩
    rw [X.out, hr]
    exact ⟨rfl, TypedRes.bad rfl (HK1.out.trans hk2)⟩
  | ok bq =>
    obtain ⟨b0, q0⟩ := bq
    obtain ⟨rfl, hbf⟩ := typedM_ok T f env (p + 1) q1 b0 q0 HF.out hs1.out hr
    rintro e w2 ⟨hk2, rfl, hc2⟩
    have HI2 := Lib.hid (HI1.out.keep hk2 hc2)
    have HK2 := Lib.hid (HK1.out.trans hk2)
    have HE2 := Lib.hid (HI1.out.tys hk2 HE1.out)
    have HR := Lib.hid hr
    clear hr hk2 hc2 m0
    go_wp2_with fail
    refine (push_1 b0 (.slice EA env.length ec) env w2 HE2.out (by omega)).mono ?_
    rintro e w3 ⟨v3, rfl, ht3, hb3⟩
    have HI3 := Lib.hid (HI2.out.later hb3)
    have HK3 := Lib.hid (HK2.out.trans (Keep.of hb3))
    have HT3 := Lib.hid ht3
    clear hb3 ht3
    go_wp2_with fail
    refine (ih g r _ v3 (b0 :: env) q0 q _ HI3.out HT3.out (fits_cons hbf HF.out) (by simp; omega) hs2.out).mono ?_
    cases hr2 : typedM T f (b0 :: env) q0 with
    | error fl =>
      obtain ⟨e0, p0⟩ := fl
      rintro e w4 ⟨hk4, rfl⟩
      rw [X.out, HR.out]
      simp only [hr2]
      exact ⟨rfl, TypedRes.bad rfl (HK3.out.trans hk4)⟩
    | ok bq =>
      obtain ⟨b1, q2⟩ := bq
      rintro e w4 ⟨hk4, rfl, hc4⟩
      have HR2 := Lib.hid hr2
      have HC := Lib.hid hc4
      have HK4 := Lib.hid (HK3.out.trans hk4)
      clear hr2 hc4 hk4
      go_wp2_with fail
      go_ret
      rw [X.out, HR.out]
      simp only [HR2.out]
      exact TypedRes.ok_ rfl rfl HK4.out HC.out

end Go.Proofs.Ytnmhiddahfnkoaa

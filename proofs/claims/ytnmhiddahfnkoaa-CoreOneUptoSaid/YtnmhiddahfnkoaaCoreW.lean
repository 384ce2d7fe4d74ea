/- Walks of package core: the small ones, and the shape of a term. -/
import Derived.Test.YtnmhiddahfnkoaaRelW
import Derived.Test.YtnmhiddahfnkoaaNode
import Derived.Laws.EntriesVeiled
namespace Go.Proofs.Ytnmhiddahfnkoaa
set_option linter.unusedSimpArgs false
set_option linter.unusedVariables false
open Go.RowKit Culp

/-- A walk that was given up: the flaw, and its place. -/
def flawV (e : Int) (p : Nat) : List PanicEntry := [{ v := .iface 51 (.agg #[.int .i64 e, .int .i64 p]), recovered := false }]
def Flaws (e : Int) (p : Nat) (w : World) (en : Ending) (w' : World) : Prop := en = .panicked (flawV e p) ∧ w = w'

set_option maxHeartbeats 400000 in
theorem need_yes (e p : Int) (w : World) : Calls Try.prog 27 #[.bool true, .int .i64 e, .int .i64 p] w (Gives (.tuple #[]) w) := by
  go_enter Try.func27, Try.ntmps27
  go_wp2
  go_end0
  exact Gives.mk rfl
set_option maxHeartbeats 400000 in
theorem need_no (e : Int) (p : Nat) (w : World) : Calls Try.prog 27 #[.bool false, .int .i64 e, .int .i64 p] w (Flaws e p w) := by
  go_enter Try.func27, Try.ntmps27
  go_wp2
  exact ⟨rfl, rfl, rfl⟩

/-- What arity answers. -/
def arV (k : Int) : Value := match arM k with | some a => .tuple #[.int .i64 a, .bool true] | none => .tuple #[.int .i64 0, .bool false]
set_option maxHeartbeats 1600000 in
theorem carity_any (k : Int) (w : World) : Calls Try.prog 44 #[.int .i8 k] w (Gives (arV k) w) := by
  go_enter Try.func44, Try.ntmps44
  go_wp2
  all_goals
    go_ret2
    refine Gives.mk ?_
    simp_all [arV, arM]

set_option maxHeartbeats 400000 in
theorem push_any (ev lv : Value) (base n : Nat) (xs : List Value) (ts : List Ty) (w : World) (hown : w.ownsRow base 9 1 lv n xs) (he : Tys w ev ts) (hb : base ≤ w.heap.size) (hn : n + ts.length ≤ 100000) :
    Calls Try.prog 47 #[ev, lv] w fun e w' => ∃ v, e = .returned v ∧ w'.ownsRow base 9 1 v (n + ts.length) (xs ++ strs ts) ∧ w.grownBy w' lv.ownBlock ∧ Below base w w' := by
  rcases he with ⟨rfl, rfl⟩ | ⟨g, c, rfl, hc⟩
  · go_enter Try.func47, Try.ntmps47
    go_wp2_with (at_builtin; refine append_many rfl (.tmp 5) (.tmp 6) 61 9 rfl base _ 16 Try.underlying61 string_info rfl _ _ _ rfl hown none 0 0 [] rfl rfl ?_ ?_ ?_ ?_ hb ?_ ?_)
    all_goals first
      | (intro v' w' h1 h2 h3; go_wp2; go_ret; exact ⟨_, rfl, by simpa [strs] using h1, h2, h3⟩)
      | omega
      | (simp at hn; omega)
      | (intro _; exact .inl rfl)
      | (intro h; omega)
      | simp
      | (intro u hu; simp at hu)
  · go_enter Try.func47, Try.ntmps47
    go_wp2_with (at_builtin; refine append_many rfl (.tmp 5) (.tmp 6) 61 9 rfl base _ 16 Try.underlying61 string_info rfl _ _ _ rfl hown (some ⟨g, 0, none⟩) ts.length c (strs ts) rfl (by simp [strs]) ?_ ?_ ?_ ?_ hb ?_ ?_)
    all_goals first
      | (intro v' w' h1 h2 h3; go_wp2; go_ret; exact ⟨_, rfl, h1, h2, h3⟩)
      | omega
      | (intro _; exact .inr ⟨g, rfl⟩)
      | (intro u hu; simp [strs] at hu; obtain ⟨t, _, rfl⟩ := hu; rfl)
      | (intro _
         refine ⟨g, rfl, fun i u hu => ?_⟩
         have hi : i < ts.length := by have := (List.getElem?_eq_some_iff.1 hu).1; simpa [strs] using this
         rw [hc i hi]
         simpa [strs, hi] using hu)

/-- The checker's block: the term's slice, the place, the rules. -/
def Ck (g : Nat) (tv mv : Value) (p : Nat) (w : World) : Prop := Trio g 57 tv (.int .i64 p) mv w

/-- What the shape's walk of one node ends with. -/
def ShapeRes (g : Nat) (tv mv : Value) (w : World) (r : Except Flt Nat) (en : Ending) (w' : World) : Prop :=
  Keep g w w' ∧ match r with
    | .ok q => en = .returned (.tuple #[]) ∧ Ck g tv mv q w'
    | .error (e, p) => en = .panicked (flawV e p)
def ShapeC (T : List Nd) (f : Nat) : Prop := ∀ (g : Nat) (tv mv : Value) (p d : Nat) (w : World), d + f = 1025 → Ck g tv mv p w → (∀ k n, tv ≠ .int k n) → (∀ k n, mv ≠ .int k n) → Nodes w tv T → p ≤ T.length →
  Calls Try.prog 26 #[.pointer (some ⟨g, 0, none⟩), .int .i64 d] w (ShapeRes g tv mv w (shapeM T f p))

theorem kidsOk_of {x : Nd} {a : Int} (ha : arM x.kind = some a) : kidsOk x = (decide (0 ≤ x.kids) && (decide (a = -1) || decide (a = x.kids))) := by unfold kidsOk; rw [ha]
theorem kidsOk_none {x : Nd} (ha : arM x.kind = none) : kidsOk x = false := by unfold kidsOk; rw [ha]

set_option maxHeartbeats 1600000 in
/-- A place behind the last node. -/
theorem shape_end {T : List Nd} (hT : T.length ≤ 16384) (f : Nat) (g : Nat) (tv mv : Value) (p : Nat) (d : Int) (w : World) (hc : Ck g tv mv p w) (hn : Nodes w tv T) (hx : T[p]? = none) (hp : p ≤ T.length) :
    Calls Try.prog 26 #[.pointer (some ⟨g, 0, none⟩), .int .i64 d] w (ShapeRes g tv mv w (shapeM T f p)) := by
  obtain ⟨A, c, rfl, hlc, hN⟩ := hn
  have c0 := hc.c0
  have c1 := hc.c1
  have hpl : p = T.length := by have := List.getElem?_eq_none_iff.1 hx; omega
  have X : Hid (shapeM T f p = .error (18, p)) := by rw [Hid, shapeM.eq_def]; simp only [hx]
  subst hpl
  clear hx hN
  go_enter Try.func26, Try.ntmps26
  go_wp2_with fail
  refine (need_no _ _ _).mono ?_
  rintro e w' ⟨rfl, rfl⟩
  rw [X.out]
  exact ⟨rfl, Keep.refl _ _, rfl⟩

set_option maxHeartbeats 1600000 in
/-- A node whose kids don't fit its kind. -/
theorem shape_bad {T : List Nd} (hT : T.length ≤ 16384) (f : Nat) (g : Nat) (tv mv : Value) (p : Nat) (d : Int) (w : World) (x : Nd) (hc : Ck g tv mv p w) (hn : Nodes w tv T) (hx : T[p]? = some x) (hk : kidsOk x = false) :
    Calls Try.prog 26 #[.pointer (some ⟨g, 0, none⟩), .int .i64 d] w (ShapeRes g tv mv w (shapeM T f p)) := by
  obtain ⟨A, c, rfl, hlc, hN⟩ := hn
  have c0 := hc.c0
  have c1 := hc.c1
  have hpl : p < T.length := (List.getElem?_eq_some_iff.1 hx).1
  obtain ⟨b, off, rfl, hM⟩ := hN (by omega)
  obtain ⟨n0, n1, n2, n3, n4, n5, n6, n7⟩ := hM.at_ hx
  have X : Hid (shapeM T f p = .error (18, p)) := by rw [Hid, shapeM.eq_def]; simp only [hx, hk]; rfl
  have i1 : (p : Int) < (T.length : Int) := by omega
  clear hx hN hM
  cases ha : arM x.kind with
  | none =>
    have A := Lib.hid (carity_any x.kind)
    unfold arV at A
    rw [ha] at A
    clear ha hk
    go_enter Try.func26, Try.ntmps26
    go_wp2_with fail
    refine (need_yes _ _ _).mono ?_
    rintro e w' ⟨rfl, rfl⟩
    go_wp2_with fail
    refine (A.out _).mono ?_
    rintro e w' ⟨rfl, rfl⟩
    go_wp2_with fail
    refine (need_no _ _ _).mono ?_
    rintro e w' ⟨rfl, rfl⟩
    rw [X.out]
    exact ⟨rfl, (Keep.refl _ _).alloc _, rfl⟩
  | some a =>
    have A := Lib.hid (carity_any x.kind)
    unfold arV at A
    rw [ha] at A
    rw [kidsOk_of ha] at hk
    by_cases k0 : 0 ≤ x.kids
    · have e1 : (a == -1) = false := by rw [beq_eq_false_iff_ne]; intro h; simp [k0, h] at hk
      have e2 : (a == x.kids) = false := by rw [beq_eq_false_iff_ne]; intro h; simp [k0, h] at hk
      clear ha hk
      go_enter Try.func26, Try.ntmps26
      go_wp2_with fail
      refine (need_yes _ _ _).mono ?_
      rintro e w' ⟨rfl, rfl⟩
      go_wp2_with fail
      refine (A.out _).mono ?_
      rintro e w' ⟨rfl, rfl⟩
      go_wp2_with fail
      refine (need_no _ _ _).mono ?_
      rintro e w' ⟨rfl, rfl⟩
      rw [X.out]
      exact ⟨rfl, (Keep.refl _ _).alloc _, rfl⟩
    · clear ha hk
      go_enter Try.func26, Try.ntmps26
      go_wp2_with fail
      refine (need_yes _ _ _).mono ?_
      rintro e w' ⟨rfl, rfl⟩
      go_wp2_with fail
      refine (A.out _).mono ?_
      rintro e w' ⟨rfl, rfl⟩
      go_wp2_with fail
      refine (need_no _ _ _).mono ?_
      rintro e w' ⟨rfl, rfl⟩
      rw [X.out]
      exact ⟨rfl, (Keep.refl _ _).alloc _, rfl⟩

/-- A node whose kids fit: what was asked of it so far, and how it goes on. -/
theorem kids_facts {x : Nd} (hk : kidsOk x = true) : ∃ a, arM x.kind = some a ∧ 0 ≤ x.kids ∧ ((a == -1) = true ∨ ((a == -1) = false ∧ (a == x.kids) = true)) := by
  cases ha : arM x.kind with
  | none => rw [kidsOk_none ha] at hk; cases hk
  | some a =>
    rw [kidsOk_of ha] at hk
    simp only [Bool.and_eq_true, Bool.or_eq_true, decide_eq_true_eq] at hk
    refine ⟨a, rfl, hk.1, ?_⟩
    by_cases h : a = -1
    · left; simp [h]
    · right
      exact ⟨beq_eq_false_iff_ne.2 h, beq_iff_eq.2 (hk.2.resolve_left h)⟩

set_option maxHeartbeats 1600000 in
theorem shape_zero {T : List Nd} (hT : T.length ≤ 16384) : ShapeC T 0 := by
  intro g tv mv p d w hd hc htv hmv hn hp
  cases hx : T[p]? with
  | none => exact shape_end hT 0 g tv mv p d w hc hn hx hp
  | some x =>
    cases hk : kidsOk x with
    | false => exact shape_bad hT 0 g tv mv p d w x hc hn hx hk
    | true =>
      obtain ⟨A, c, rfl, hlc, hN⟩ := hn
      have c0 := hc.c0
      have c1 := hc.c1
      have hpl : p < T.length := (List.getElem?_eq_some_iff.1 hx).1
      obtain ⟨b, off, rfl, hM⟩ := hN (by omega)
      obtain ⟨n0, n1, n2, n3, n4, n5, n6, n7⟩ := hM.at_ hx
      have X : Hid (shapeM T 0 p = .error (16, p)) := by rw [Hid, shapeM.eq_def]; simp only [hx, hk]; rfl
      have i1 : (p : Int) < (T.length : Int) := by omega
      have i2 : decide ((d : Int) ≤ 1024) = false := decide_eq_false (by omega)
      obtain ⟨a, ha, k0, k1⟩ := kids_facts hk
      have A := Lib.hid (carity_any x.kind)
      unfold arV at A
      rw [ha] at A
      clear hx hN hM ha hk hd
      rcases k1 with k1 | ⟨k1, k2⟩
      all_goals
        go_enter Try.func26, Try.ntmps26
        go_wp2_with fail
        refine (need_yes _ _ _).mono ?_
        rintro e w' ⟨rfl, rfl⟩
        go_wp2_with fail
        refine (A.out _).mono ?_
        rintro e w' ⟨rfl, rfl⟩
        go_wp2_with fail
        refine (need_yes _ _ _).mono ?_
        rintro e w' ⟨rfl, rfl⟩
        go_wp2_with fail
        refine (need_no _ _ _).mono ?_
        rintro e w' ⟨rfl, rfl⟩
        rw [X.out]
        exact ⟨rfl, (Keep.refl _ _).alloc _, rfl⟩

end Go.Proofs.Ytnmhiddahfnkoaa

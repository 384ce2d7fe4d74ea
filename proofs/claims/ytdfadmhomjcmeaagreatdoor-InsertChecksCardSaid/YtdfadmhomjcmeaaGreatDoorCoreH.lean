
/- Walks of package core: the small ones, and the shape of a term. -/
import Derived.Test.YtdfadmhomjcmeaaGreatDoorR4W
import Derived.Laws.EntriesVeiled
import Derived.Laws.OwnMore
import Derived.Defers
import Derived.Recover
import Derived.Laws.Pointers
namespace Go.Proofs.YtdfadmhomjcmeaaGreatDoor
set_option linter.unusedSimpArgs false
set_option linter.unusedVariables false
open Go.RowKit Culp

/-- A walk that was given up: the flaw, and its place. -/
def flawV (e : Int) (p : Nat) : List PanicEntry := [{ v := .iface 91 (.agg #[.int .i64 e, .int .i64 p]), recovered := false }]
def Flaws (e : Int) (p : Nat) (w : World) (en : Ending) (w' : World) : Prop := en = .panicked (flawV e p) ∧ w = w'

set_option maxHeartbeats 400000 in
theorem need_yes (e p : Int) (w : World) : Calls Tryz.prog 31 #[.bool true, .int .i64 e, .int .i64 p] w (Gives (.tuple #[]) w) := by
  go_enter Tryz.func31, Tryz.ntmps31
  go_wp2
  go_end0
  exact Gives.mk rfl
set_option maxHeartbeats 400000 in
theorem need_no (e : Int) (p : Nat) (w : World) : Calls Tryz.prog 31 #[.bool false, .int .i64 e, .int .i64 p] w (Flaws e p w) := by
  go_enter Tryz.func31, Tryz.ntmps31
  go_wp2
  exact ⟨rfl, rfl, rfl⟩

/-- What arity answers. -/
def carV (k : Int) : Value := match arM k with | some a => .tuple #[.int .i64 a, .bool true] | none => .tuple #[.int .i64 0, .bool false]
set_option maxHeartbeats 1600000 in
theorem carity_any (k : Int) (w : World) : Calls Tryz.prog 83 #[.int .i8 k] w (Gives (carV k) w) := by
  go_enter Tryz.func83, Tryz.ntmps83
  go_wp2
  all_goals
    go_ret2
    refine Gives.mk ?_
    simp_all [carV, arM]

set_option maxHeartbeats 400000 in
theorem push_any (ev lv : Value) (base n : Nat) (xs : List Value) (ts : List Ty) (w : World) (hown : w.ownsRow base 9 1 lv n xs) (he : Tys w ev ts) (hb : base ≤ w.heap.size) (hn : n + ts.length ≤ 100000) :
    Calls Tryz.prog 86 #[ev, lv] w fun e w' => ∃ v, e = .returned v ∧ w'.ownsRow base 9 1 v (n + ts.length) (xs ++ strs ts) ∧ w.grownBy w' lv.ownBlock ∧ Below base w w' := by
  rcases he with ⟨rfl, rfl⟩ | ⟨g, c, rfl, hc⟩
  · go_enter Tryz.func86, Tryz.ntmps86
    go_wp2_with (at_builtin; refine append_many rfl (.tmp 5) (.tmp 6) 24 9 rfl base _ 16 Tryz.underlying24 string_info rfl _ _ _ rfl hown none 0 0 [] rfl rfl ?_ ?_ ?_ ?_ hb ?_ ?_)
    all_goals first
      | (intro v' w' h1 h2 h3; go_wp2; go_ret; exact ⟨_, rfl, by simpa [strs] using h1, h2, h3⟩)
      | omega
      | (simp at hn; omega)
      | (intro _; exact .inl rfl)
      | (intro h; omega)
      | simp
      | (intro u hu; simp at hu)
  · go_enter Tryz.func86, Tryz.ntmps86
    go_wp2_with (at_builtin; refine append_many rfl (.tmp 5) (.tmp 6) 24 9 rfl base _ 16 Tryz.underlying24 string_info rfl _ _ _ rfl hown (some ⟨g, 0, none⟩) ts.length c (strs ts) rfl (by simp [strs]) ?_ ?_ ?_ ?_ hb ?_ ?_)
    all_goals first
      | (intro v' w' h1 h2 h3; go_wp2; go_ret; exact ⟨_, rfl, h1, h2, h3⟩)
      | omega
      | (intro _; exact .inr ⟨g, rfl⟩)
      | (intro u hu; simp [strs] at hu; obtain ⟨t, _, rfl⟩ := hu; rfl)
      | (intro _
         refine ⟨g, rfl, fun i u hu => ?_⟩
         have hi : i < ts.length := by have := (List.getElem?_eq_some_iff.1 hu).1; simpa [strs] using this
         rw [hc i hi]
         simpa [strs, hi] using hu)

/-- The checker's block: the term's slice, the place, the rules. -/
def Ck (g : Nat) (tv mv : Value) (p : Nat) (w : World) : Prop := Trio g 97 tv (.int .i64 p) mv w

/-- What the shape's walk of one node ends with. -/
def ShapeRes (g : Nat) (tv mv : Value) (w : World) (r : Except Flt Nat) (en : Ending) (w' : World) : Prop :=
  Keep g w w' ∧ match r with
    | .ok q => en = .returned (.tuple #[]) ∧ Ck g tv mv q w'
    | .error (e, p) => en = .panicked (flawV e p)
def ShapeC (T : List Nd) (f : Nat) : Prop := ∀ (g : Nat) (tv mv : Value) (p d : Nat) (w : World), d + f = 1025 → Ck g tv mv p w → (∀ k n, tv ≠ .int k n) → (∀ k n, mv ≠ .int k n) → Nodes w tv T → p ≤ T.length →
  Calls Tryz.prog 30 #[.pointer (some ⟨g, 0, none⟩), .int .i64 d] w (ShapeRes g tv mv w (shapeM T f p))

theorem kidsOk_of {x : Nd} {a : Int} (ha : arM x.kind = some a) : kidsOk x = (decide (0 ≤ x.kids) && (decide (a = -1) || decide (a = x.kids))) := by unfold kidsOk; rw [ha]
theorem kidsOk_none {x : Nd} (ha : arM x.kind = none) : kidsOk x = false := by unfold kidsOk; rw [ha]

set_option maxHeartbeats 1600000 in
/-- A place behind the last node. -/
theorem shape_end {T : List Nd} (hT : T.length ≤ 16384) (f : Nat) (g : Nat) (tv mv : Value) (p : Nat) (d : Int) (w : World) (hc : Ck g tv mv p w) (hn : Nodes w tv T) (hx : T[p]? = none) (hp : p ≤ T.length) :
    Calls Tryz.prog 30 #[.pointer (some ⟨g, 0, none⟩), .int .i64 d] w (ShapeRes g tv mv w (shapeM T f p)) := by
  obtain ⟨A, c, rfl, hlc, hN⟩ := hn
  have c0 := hc.c0
  have c1 := hc.c1
  have hpl : p = T.length := by have := List.getElem?_eq_none_iff.1 hx; omega
  have X : Hid (shapeM T f p = .error (18, p)) := by rw [Hid, shapeM.eq_def]; simp only [hx]
  subst hpl
  clear hx hN
  go_enter Tryz.func30, Tryz.ntmps30
  go_wp2_with fail
  refine (need_no _ _ _).mono ?_
  rintro e w' ⟨rfl, rfl⟩
  rw [X.out]
  exact ⟨rfl, Keep.refl _ _, rfl⟩

set_option maxHeartbeats 1600000 in
/-- A node whose kids don't fit its kind. -/
theorem shape_bad {T : List Nd} (hT : T.length ≤ 16384) (f : Nat) (g : Nat) (tv mv : Value) (p : Nat) (d : Int) (w : World) (x : Nd) (hc : Ck g tv mv p w) (hn : Nodes w tv T) (hx : T[p]? = some x) (hk : kidsOk x = false) :
    Calls Tryz.prog 30 #[.pointer (some ⟨g, 0, none⟩), .int .i64 d] w (ShapeRes g tv mv w (shapeM T f p)) := by
  obtain ⟨A, c, rfl, hlc, hN⟩ := hn
  have c0 := hc.c0
  have c1 := hc.c1
  have hpl : p < T.length := (List.getElem?_eq_some_iff.1 hx).1
  obtain ⟨b, off, rfl, hM⟩ := hN (by omega)
  obtain ⟨n0, n1, n2, n3, n4, n5, n6, n7⟩ := hM.at_ hx
  have X : Hid (shapeM T f p = .error (18, p)) := by rw [Hid, shapeM.eq_def]; simp only [hx, hk]; rfl
  have i1 : (p : Int) < (T.length : Int) := by omega
  clear hx hN hM
  cases ha : arM x.kind with
  | none =>
    have A := Lib.hid (carity_any x.kind)
    unfold carV at A
    rw [ha] at A
    clear ha hk
    go_enter Tryz.func30, Tryz.ntmps30
    go_wp2_with fail
    refine (need_yes _ _ _).mono ?_
    rintro e w' ⟨rfl, rfl⟩
    go_wp2_with fail
    refine (A.out _).mono ?_
    rintro e w' ⟨rfl, rfl⟩
    go_wp2_with fail
    refine (need_no _ _ _).mono ?_
    rintro e w' ⟨rfl, rfl⟩
    rw [X.out]
    exact ⟨rfl, (Keep.refl _ _).alloc _, rfl⟩
  | some a =>
    have A := Lib.hid (carity_any x.kind)
    unfold carV at A
    rw [ha] at A
    rw [kidsOk_of ha] at hk
    by_cases k0 : 0 ≤ x.kids
    · have e1 : (a == -1) = false := by rw [beq_eq_false_iff_ne]; intro h; simp [k0, h] at hk
      have e2 : (a == x.kids) = false := by rw [beq_eq_false_iff_ne]; intro h; simp [k0, h] at hk
      clear ha hk
      go_enter Tryz.func30, Tryz.ntmps30
      go_wp2_with fail
      refine (need_yes _ _ _).mono ?_
      rintro e w' ⟨rfl, rfl⟩
      go_wp2_with fail
      refine (A.out _).mono ?_
      rintro e w' ⟨rfl, rfl⟩
      go_wp2_with fail
      refine (need_no _ _ _).mono ?_
      rintro e w' ⟨rfl, rfl⟩
      rw [X.out]
      exact ⟨rfl, (Keep.refl _ _).alloc _, rfl⟩
    · clear ha hk
      go_enter Tryz.func30, Tryz.ntmps30
      go_wp2_with fail
      refine (need_yes _ _ _).mono ?_
      rintro e w' ⟨rfl, rfl⟩
      go_wp2_with fail
      refine (A.out _).mono ?_
      rintro e w' ⟨rfl, rfl⟩
      go_wp2_with fail
      refine (need_no _ _ _).mono ?_
      rintro e w' ⟨rfl, rfl⟩
      rw [X.out]
      exact ⟨rfl, (Keep.refl _ _).alloc _, rfl⟩

/-- A node whose kids fit: what was asked of it so far, and how it goes on. -/
theorem kids_facts {x : Nd} (hk : kidsOk x = true) : ∃ a, arM x.kind = some a ∧ 0 ≤ x.kids ∧ ((a == -1) = true ∨ ((a == -1) = false ∧ (a == x.kids) = true)) := by
  cases ha : arM x.kind with
  | none => rw [kidsOk_none ha] at hk; cases hk
  | some a =>
    rw [kidsOk_of ha] at hk
    simp only [Bool.and_eq_true, Bool.or_eq_true, decide_eq_true_eq] at hk
    refine ⟨a, rfl, hk.1, ?_⟩
    by_cases h : a = -1
    · left; simp [h]
    · right
      exact ⟨beq_eq_false_iff_ne.2 h, beq_iff_eq.2 (hk.2.resolve_left h)⟩

set_option maxHeartbeats 1600000 in
theorem shape_zero {T : List Nd} (hT : T.length ≤ 16384) : ShapeC T 0 := by
  intro g tv mv p d w hd hc htv hmv hn hp
  cases hx : T[p]? with
  | none => exact shape_end hT 0 g tv mv p d w hc hn hx hp
  | some x =>
    cases hk : kidsOk x with
    | false => exact shape_bad hT 0 g tv mv p d w x hc hn hx hk
    | true =>
      obtain ⟨A, c, rfl, hlc, hN⟩ := hn
      have c0 := hc.c0
      have c1 := hc.c1
      have hpl : p < T.length := (List.getElem?_eq_some_iff.1 hx).1
      obtain ⟨b, off, rfl, hM⟩ := hN (by omega)
      obtain ⟨n0, n1, n2, n3, n4, n5, n6, n7⟩ := hM.at_ hx
      have X : Hid (shapeM T 0 p = .error (16, p)) := by rw [Hid, shapeM.eq_def]; simp only [hx, hk]; rfl
      have i1 : (p : Int) < (T.length : Int) := by omega
      have i2 : decide ((d : Int) ≤ 1024) = false := decide_eq_false (by omega)
      obtain ⟨a, ha, k0, k1⟩ := kids_facts hk
      have A := Lib.hid (carity_any x.kind)
      unfold carV at A
      rw [ha] at A
      clear hx hN hM ha hk hd
      rcases k1 with k1 | ⟨k1, k2⟩
      all_goals
        go_enter Tryz.func30, Tryz.ntmps30
        go_wp2_with fail
        refine (need_yes _ _ _).mono ?_
        rintro e w' ⟨rfl, rfl⟩
        go_wp2_with fail
        refine (A.out _).mono ?_
        rintro e w' ⟨rfl, rfl⟩
        go_wp2_with fail
        refine (need_yes _ _ _).mono ?_
        rintro e w' ⟨rfl, rfl⟩
        go_wp2_with fail
        refine (need_no _ _ _).mono ?_
        rintro e w' ⟨rfl, rfl⟩
        rw [X.out]
        exact ⟨rfl, (Keep.refl _ _).alloc _, rfl⟩

end Go.Proofs.YtdfadmhomjcmeaaGreatDoor

/- Walks of package core: the shape of a term. -/
namespace Go.Proofs.YtdfadmhomjcmeaaGreatDoor
set_option linter.unusedSimpArgs false
set_option linter.unusedVariables false
open Go.RowKit Culp

set_option maxHeartbeats 1600000 in
theorem shape_step {T : List Nd} (hT : T.length ≤ 16384) (f : Nat) (ih : ShapeC T f) : ShapeC T (f + 1) := by
  intro g tv mv p d w hd hc htv hmv hn hp
  cases hx : T[p]? with
  | none => exact shape_end hT (f + 1) g tv mv p d w hc hn hx hp
  | some x =>
    cases hk : kidsOk x with
    | false => exact shape_bad hT (f + 1) g tv mv p d w x hc hn hx hk
    | true =>
      have hn0 := hn
      obtain ⟨A, c, rfl, hlc, hN⟩ := hn
      have c0 := hc.c0
      have c1 := hc.c1
      have fz := hc.free 1
      have hgl := hc.lt
      have hpl : p < T.length := (List.getElem?_eq_some_iff.1 hx).1
      obtain ⟨b, off, rfl, hM⟩ := hN (by omega)
      obtain ⟨n0, n1, n2, n3, n4, n5, n6, n7⟩ := hM.at_ hx
      have X : Hid (shapeM T (f + 1) p = timesM (shapeM T f) x.kids.toNat (p + 1)) := by rw [Hid, shapeM.eq_def]; simp only [hx, hk]; rfl
      have i1 : (p : Int) < (T.length : Int) := by omega
      have i2 : (d : Int) ≤ 1024 := by omega
      obtain ⟨a, ha, k0, k1⟩ := kids_facts hk
      have A := Lib.hid (carity_any x.kind)
      unfold carV at A
      rw [ha] at A
      obtain ⟨n, hn'⟩ : ∃ n : Nat, x.kids = n := ⟨x.kids.toNat, by omega⟩
      rw [hn'] at n1 k0 k1 X
      rw [Int.toNat_natCast] at X
      have fz2 : ∀ o, (w.alloc o).frozen? ⟨g, 1, none⟩ = false := fun o => by rw [World.frozen?_alloc_old _ _ _ (by simp; omega)]; exact fz
      have c12 : ∀ o, (w.alloc o).cell? ⟨g, 1, none⟩ = some (.int .i64 p) := fun o => by rw [World.cell?_alloc_lt w o _ (by simpa using hgl)]; exact c1
      have HTV := Lib.hid htv; have HMV := Lib.hid hmv; clear htv hmv
      have HD := Lib.hid hd
      have HN := Lib.hid hn0
      have HC := Lib.hid hc
      clear hx hN hM ha hk hd hn0 hn' hc
      rcases k1 with k1 | ⟨k1, k2⟩
      all_goals
        go_enter Tryz.func30, Tryz.ntmps30
        go_wp2_with fail
        refine (need_yes _ _ _).mono ?_
        rintro e w' ⟨rfl, rfl⟩
        go_wp2_with fail
        refine (A.out _).mono ?_
        rintro e w' ⟨rfl, rfl⟩
        go_wp2_with fail
        refine (need_yes _ _ _).mono ?_
        rintro e w' ⟨rfl, rfl⟩
        go_wp2_with fail
        refine (need_yes _ _ _).mono ?_
        rintro e w' ⟨rfl, rfl⟩
        go_wp2_with fail
        go_loopw [65] (fun i wr => ∃ (k q : Nat), k ≤ n ∧ k ≤ q ∧ q ≤ T.length ∧ i = .int .i64 k ∧ Hid (shapeM T (f + 1) p = timesM (shapeM T f) (n - k) q) ∧ Ck g (.slice (some ⟨b, off, none⟩) T.length c) mv q wr ∧ Keep g w wr ∧ Nodes wr (.slice (some ⟨b, off, none⟩) T.length c) T) (fun i _ => n - (intOf i).toNat)
        case atStart =>
          have h1 : ∀ o, Ck g (.slice (some ⟨b, off, none⟩) T.length c) mv (p + 1) ((w.setCell ⟨g, 1, none⟩ (.int .i64 ((p : Int) + 1))).alloc o) := fun o => (HC.out.set1 (.int .i64 ((p : Int) + 1))).later ((Below.refl _ _).alloc (Nat.le_refl _) o)
          have h3 : ∀ o, Nodes ((w.setCell ⟨g, 1, none⟩ (.int .i64 ((p : Int) + 1))).alloc o) (.slice (some ⟨b, off, none⟩) T.length c) T := fun o => (HN.out.keep ((Keep.refl g _).setCell 1 (.int .i64 ((p : Int) + 1))) HC.out HTV.out HMV.out).later ((Below.refl _ _).alloc (Nat.le_refl _) o)
          exact ⟨0, p + 1, by omega, by omega, by omega, rfl, X, h1 _, ((Keep.refl g w).setCell 1 _).alloc _, h3 _⟩
        case round =>
          obtain ⟨k, q, hk, hkq, hq, rfl, H, hC, hK, hN⟩ := hrel
          have HC2 := Lib.hid hC; have HK := Lib.hid hK; have HN2 := Lib.hid hN
          clear hC hK hN
          by_cases hlt : k < n
          · obtain ⟨m, hm⟩ : ∃ m, n - k = m + 1 := ⟨n - k - 1, by omega⟩
            have H2 := H.out
            rw [hm, timesM] at H2
            cases hr : shapeM T f q with
            | error fl =>
              rw [hr] at H2
              have HR := Lib.hid hr; have Y := Lib.hid H2
              clear hr H2 H hm
              go_wp2_with fail
              refine (ih g _ mv q (d + 1) _ (by have := HD.out; omega) HC2.out HTV.out HMV.out HN2.out hq).mono ?_
              rw [HR.out]
              obtain ⟨e0, p0⟩ := fl
              rintro e w' ⟨h1, h2⟩
              subst h2
              show bodyPost Tryz.prog Tryz.f30 (ShapeRes g (.slice (some ⟨b, off, none⟩) T.length c) mv w (shapeM T (f + 1) p)) (Exit.panic (flawV e0 p0)) _ w'
              rw [Y.out]
              exact ⟨rfl, HK.out.trans h1, rfl⟩
            | ok q2 =>
              rw [hr] at H2
              have hq2 := shapeM_le T f q q2 hr
              have hq3 := shapeM_lt T f q q2 hr
              have HR := Lib.hid hr; have Y : Hid (shapeM T (f + 1) p = timesM (shapeM T f) (n - (k + 1)) q2) := by rw [Hid, H2, show n - (k + 1) = m by omega]
              clear hr H2 H hm
              go_wp2_with fail
              refine (ih g _ mv q (d + 1) _ (by have := HD.out; omega) HC2.out HTV.out HMV.out HN2.out hq).mono ?_
              rw [HR.out]
              rintro e w' ⟨h1, rfl, h3⟩
              have hN3 := HN2.out.keep h1 HC2.out HTV.out HMV.out
              have hK3 := HK.out.trans h1
              have HA := Lib.hid h3; have HB := Lib.hid hN3; have HE := Lib.hid hK3
              clear h1 h3 hN3 hK3
              go_wp2_with fail
              go_roundw
              case rel => exact ⟨k + 1, q2, by omega, by omega, hq2, by go_num, Y, HA.out, HE.out, HB.out⟩
              case measure => simp [intOf]; omega
          · have Y : Hid (shapeM T (f + 1) p = .ok q) := by rw [Hid, H.out, show n - k = 0 by omega]; rfl
            clear H
            go_wp2_with fail
            go_end0
            rw [Y.out]
            exact ⟨HK.out, rfl, HC2.out⟩

theorem shape_any {T : List Nd} (hT : T.length ≤ 16384) : ∀ f, ShapeC T f
  | 0 => shape_zero hT
  | f + 1 => shape_step hT f (shape_any hT f)
end Go.Proofs.YtdfadmhomjcmeaaGreatDoor

/- Walks of package core: what is asked of a node ahead of its kids. -/
namespace Go.Proofs.YtdfadmhomjcmeaaGreatDoor
set_option linter.unusedSimpArgs false
set_option linter.unusedVariables false
open Go.RowKit Culp

/-- What words ends with. -/
def WordsRes (r : Option Int) (p : Nat) (w : World) (en : Ending) (w' : World) : Prop := Below w.heap.size w w' ∧ match r with
  | none => en = .returned (.tuple #[])
  | some e => en = .panicked (flawV e p)
theorem WordsRes.none_ {r : Option Int} {p : Nat} {w w' : World} (h : r = none) (hb : Below w.heap.size w w') : WordsRes r p w (.returned (.tuple #[])) w' := by subst h; exact ⟨hb, rfl⟩
theorem WordsRes.some_ {r : Option Int} {e : Int} {p : Nat} {w w' : World} (h : r = some e) (hb : Below w.heap.size w w') : WordsRes r p w (.panicked (flawV e p)) w' := by subst h; exact ⟨hb, rfl⟩

theorem tyOf_none {s : ByteArray} (h : isTy s.data.toList = false) : tyOf s = none := by unfold tyOf; rw [h]; rfl

def WordsC (x : Nd) : Prop := ∀ (p n : Nat) (w : World), n ≤ 100000 → Calls Tryz.prog 84 #[x.val, .int .i64 p, .int .i64 n] w (WordsRes (wordsM x n) p w)

set_option maxHeartbeats 1600000 in
theorem words_str (kd n : Int) (s t u : ByteArray) (l c : Int) : WordsC ⟨2, kd, n, s, t, u, l, c⟩ := by
  intro p m w hm
  unfold Nd.val Nd.cells
  by_cases h : s.size ≤ 64
  · have X : Hid (wordsM ⟨2, kd, n, s, t, u, l, c⟩ m = none) := by simp [Hid, wordsM, h]
    have i1 : (s.size : Int) ≤ 64 := by omega
    go_enter Tryz.func84, Tryz.ntmps84
    go_wp2_with (first | (go_at_call 31; (with_reducible refine (need_yes _ _ _).mono ?_); rintro e w' ⟨rfl, rfl⟩) | (go_at_call 31; (with_reducible refine (need_no _ _ _).mono ?_); rintro e w' ⟨rfl, rfl⟩))
    go_end0
    exact WordsRes.none_ X.out ((Below.refl _ _).alloc (Nat.le_refl _) _)
  · have X : Hid (wordsM ⟨2, kd, n, s, t, u, l, c⟩ m = some 10) := by simp [Hid, wordsM]; omega
    have i1 : decide ((s.size : Int) ≤ 64) = false := decide_eq_false (by omega)
    go_enter Tryz.func84, Tryz.ntmps84
    go_wp2_with (first | (go_at_call 31; (with_reducible refine (need_yes _ _ _).mono ?_); rintro e w' ⟨rfl, rfl⟩) | (go_at_call 31; (with_reducible refine (need_no _ _ _).mono ?_); rintro e w' ⟨rfl, rfl⟩))
    exact ⟨rfl, WordsRes.some_ X.out ((Below.refl _ _).alloc (Nat.le_refl _) _)⟩

set_option maxHeartbeats 1600000 in
theorem words_truth (kd n : Int) (s t u : ByteArray) (l c : Int) : WordsC ⟨3, kd, n, s, t, u, l, c⟩ := by
  intro p m w hm
  unfold Nd.val Nd.cells
  by_cases h0 : n = 0
  · have X : Hid (wordsM ⟨3, kd, n, s, t, u, l, c⟩ m = none) := by simp [Hid, wordsM, h0]
    have i1 : (n == 0) = true := beq_iff_eq.2 h0
    clear h0
    go_enter Tryz.func84, Tryz.ntmps84
    go_wp2_with (first | (go_at_call 31; (with_reducible refine (need_yes _ _ _).mono ?_); rintro e w' ⟨rfl, rfl⟩) | (go_at_call 31; (with_reducible refine (need_no _ _ _).mono ?_); rintro e w' ⟨rfl, rfl⟩))
    go_end0
    exact WordsRes.none_ X.out ((Below.refl _ _).alloc (Nat.le_refl _) _)
  · have i1 : (n == 0) = false := beq_eq_false_iff_ne.2 h0
    by_cases h1 : n = 1
    · have X : Hid (wordsM ⟨3, kd, n, s, t, u, l, c⟩ m = none) := by simp [Hid, wordsM, h1]
      have i2 : (n == 1) = true := beq_iff_eq.2 h1
      clear h0 h1
      go_enter Tryz.func84, Tryz.ntmps84
      go_wp2_with (first | (go_at_call 31; (with_reducible refine (need_yes _ _ _).mono ?_); rintro e w' ⟨rfl, rfl⟩) | (go_at_call 31; (with_reducible refine (need_no _ _ _).mono ?_); rintro e w' ⟨rfl, rfl⟩))
      go_end0
      exact WordsRes.none_ X.out ((Below.refl _ _).alloc (Nat.le_refl _) _)
    · have X : Hid (wordsM ⟨3, kd, n, s, t, u, l, c⟩ m = some 13) := by simp [Hid, wordsM, h0, h1]
      have i2 : (n == 1) = false := beq_eq_false_iff_ne.2 h1
      clear h0 h1
      go_enter Tryz.func84, Tryz.ntmps84
      go_wp2_with (first | (go_at_call 31; (with_reducible refine (need_yes _ _ _).mono ?_); rintro e w' ⟨rfl, rfl⟩) | (go_at_call 31; (with_reducible refine (need_no _ _ _).mono ?_); rintro e w' ⟨rfl, rfl⟩))
      exact ⟨rfl, WordsRes.some_ X.out ((Below.refl _ _).alloc (Nat.le_refl _) _)⟩

set_option maxHeartbeats 1600000 in
theorem words_var (kd n : Int) (s t u : ByteArray) (l c : Int) : WordsC ⟨4, kd, n, s, t, u, l, c⟩ := by
  intro p m w hm
  unfold Nd.val Nd.cells
  by_cases h0 : 0 ≤ n
  · by_cases h1 : n < (m : Int)
    · have X : Hid (wordsM ⟨4, kd, n, s, t, u, l, c⟩ m = none) := by simp [Hid, wordsM, h0, h1]
      go_enter Tryz.func84, Tryz.ntmps84
      go_wp2_with (first | (go_at_call 31; (with_reducible refine (need_yes _ _ _).mono ?_); rintro e w' ⟨rfl, rfl⟩) | (go_at_call 31; (with_reducible refine (need_no _ _ _).mono ?_); rintro e w' ⟨rfl, rfl⟩))
      go_end0
      exact WordsRes.none_ X.out ((Below.refl _ _).alloc (Nat.le_refl _) _)
    · have X : Hid (wordsM ⟨4, kd, n, s, t, u, l, c⟩ m = some 22) := by simp [Hid, wordsM, h1]
      have i1 : decide (n < (m : Int)) = false := decide_eq_false h1
      go_enter Tryz.func84, Tryz.ntmps84
      go_wp2_with (first | (go_at_call 31; (with_reducible refine (need_yes _ _ _).mono ?_); rintro e w' ⟨rfl, rfl⟩) | (go_at_call 31; (with_reducible refine (need_no _ _ _).mono ?_); rintro e w' ⟨rfl, rfl⟩))
      exact ⟨rfl, WordsRes.some_ X.out ((Below.refl _ _).alloc (Nat.le_refl _) _)⟩
  · have X : Hid (wordsM ⟨4, kd, n, s, t, u, l, c⟩ m = some 22) := by simp [Hid, wordsM, h0]
    have i1 : decide (0 ≤ n) = false := decide_eq_false h0
    go_enter Tryz.func84, Tryz.ntmps84
    go_wp2_with (first | (go_at_call 31; (with_reducible refine (need_yes _ _ _).mono ?_); rintro e w' ⟨rfl, rfl⟩) | (go_at_call 31; (with_reducible refine (need_no _ _ _).mono ?_); rintro e w' ⟨rfl, rfl⟩))
    exact ⟨rfl, WordsRes.some_ X.out ((Below.refl _ _).alloc (Nat.le_refl _) _)⟩

set_option maxHeartbeats 1600000 in
theorem words_list (kd n : Int) (s t u : ByteArray) (l c : Int) : WordsC ⟨21, kd, n, s, t, u, l, c⟩ := by
  intro p m w hm
  unfold Nd.val Nd.cells
  cases ht : isTy t.data.toList with
  | true =>
    obtain ⟨a, rfl, ha⟩ := ty_of t ht
    have X : Hid (wordsM ⟨21, kd, n, s, a.str, u, l, c⟩ m = none) := by simp [Hid, wordsM, tyOf_str a ha]
    have T := Lib.hid ht
    clear ht
    go_enter Tryz.func84, Tryz.ntmps84
    go_wp2_with (first | (go_at_call 126; refine (cgood_any _ _).mono ?_; rw [T.out]; rintro e w' ⟨rfl, rfl⟩) | (go_at_call 31; (with_reducible refine (need_yes _ _ _).mono ?_); rintro e w' ⟨rfl, rfl⟩) | (go_at_call 31; (with_reducible refine (need_no _ _ _).mono ?_); rintro e w' ⟨rfl, rfl⟩))
    go_end0
    exact WordsRes.none_ X.out ((Below.refl _ _).alloc (Nat.le_refl _) _)
  | false =>
    have X : Hid (wordsM ⟨21, kd, n, s, t, u, l, c⟩ m = some 20) := by simp [Hid, wordsM, tyOf_none ht]
    have T := Lib.hid ht
    clear ht
    go_enter Tryz.func84, Tryz.ntmps84
    go_wp2_with (first | (go_at_call 126; refine (cgood_any _ _).mono ?_; rw [T.out]; rintro e w' ⟨rfl, rfl⟩) | (go_at_call 31; (with_reducible refine (need_yes _ _ _).mono ?_); rintro e w' ⟨rfl, rfl⟩) | (go_at_call 31; (with_reducible refine (need_no _ _ _).mono ?_); rintro e w' ⟨rfl, rfl⟩))
    exact ⟨rfl, WordsRes.some_ X.out ((Below.refl _ _).alloc (Nat.le_refl _) _)⟩

set_option maxHeartbeats 1600000 in
theorem words_fn (kd n : Int) (s t u : ByteArray) (l c : Int) : WordsC ⟨5, kd, n, s, t, u, l, c⟩ := by
  intro p m w hm
  unfold Nd.val Nd.cells
  cases ht : isTy t.data.toList with
  | false =>
    have X : Hid (wordsM ⟨5, kd, n, s, t, u, l, c⟩ m = some 20) := by simp [Hid, wordsM, tyOf_none ht]
    have T := Lib.hid ht
    clear ht
    go_enter Tryz.func84, Tryz.ntmps84
    go_wp2_with fail
    refine (cgood_any t _).mono ?_
    rw [T.out]
    rintro e w' ⟨rfl, rfl⟩
    go_wp2_with (first | (go_at_call 31; (with_reducible refine (need_yes _ _ _).mono ?_); rintro e w' ⟨rfl, rfl⟩) | (go_at_call 31; (with_reducible refine (need_no _ _ _).mono ?_); rintro e w' ⟨rfl, rfl⟩))
    exact ⟨rfl, WordsRes.some_ X.out ((Below.refl _ _).alloc (Nat.le_refl _) _)⟩
  | true =>
    cases hu : isTy u.data.toList with
    | false =>
      have X : Hid (wordsM ⟨5, kd, n, s, t, u, l, c⟩ m = some 20) := by simp [Hid, wordsM, tyOf_none hu]
      have T := Lib.hid ht
      have U := Lib.hid hu
      clear ht hu
      go_enter Tryz.func84, Tryz.ntmps84
      go_wp2_with fail
      refine (cgood_any t _).mono ?_
      rw [T.out]
      rintro e w' ⟨rfl, rfl⟩
      go_wp2_with fail
      refine (cgood_any u _).mono ?_
      rw [U.out]
      rintro e w' ⟨rfl, rfl⟩
      go_wp2_with (first | (go_at_call 31; (with_reducible refine (need_yes _ _ _).mono ?_); rintro e w' ⟨rfl, rfl⟩) | (go_at_call 31; (with_reducible refine (need_no _ _ _).mono ?_); rintro e w' ⟨rfl, rfl⟩))
      exact ⟨rfl, WordsRes.some_ X.out ((Below.refl _ _).alloc (Nat.le_refl _) _)⟩
    | true =>
      have T := Lib.hid ht
      have U := Lib.hid hu
      obtain ⟨a, rfl, ha⟩ := ty_of t ht
      obtain ⟨b, rfl, hb⟩ := ty_of u hu
      clear ht hu
      have X : Hid (wordsM ⟨5, kd, n, s, a.str, b.str, l, c⟩ m = none) := by simp [Hid, wordsM, tyOf_str a ha, tyOf_str b hb]
      go_enter Tryz.func84, Tryz.ntmps84
      go_wp2_with fail
      refine (cgood_any a.str _).mono ?_
      rw [T.out]
      rintro e w' ⟨rfl, rfl⟩
      go_wp2_with fail
      refine (cgood_any b.str _).mono ?_
      rw [U.out]
      rintro e w' ⟨rfl, rfl⟩
      go_wp2_with (first | (go_at_call 31; (with_reducible refine (need_yes _ _ _).mono ?_); rintro e w' ⟨rfl, rfl⟩) | (go_at_call 31; (with_reducible refine (need_no _ _ _).mono ?_); rintro e w' ⟨rfl, rfl⟩))
      go_end0
      exact WordsRes.none_ X.out ((Below.refl _ _).alloc (Nat.le_refl _) _)

set_option maxHeartbeats 1600000 in
theorem words_rec (kd n : Int) (s t u : ByteArray) (l c : Int) : WordsC ⟨6, kd, n, s, t, u, l, c⟩ := by
  intro p m w hm
  unfold Nd.val Nd.cells
  cases ht : isTy t.data.toList with
  | false =>
    have X : Hid (wordsM ⟨6, kd, n, s, t, u, l, c⟩ m = some 20) := by simp [Hid, wordsM, tyOf_none ht]
    have T := Lib.hid ht
    clear ht
    go_enter Tryz.func84, Tryz.ntmps84
    go_wp2_with fail
    refine (cgood_any t _).mono ?_
    rw [T.out]
    rintro e w' ⟨rfl, rfl⟩
    go_wp2_with (first | (go_at_call 31; (with_reducible refine (need_yes _ _ _).mono ?_); rintro e w' ⟨rfl, rfl⟩) | (go_at_call 31; (with_reducible refine (need_no _ _ _).mono ?_); rintro e w' ⟨rfl, rfl⟩))
    exact ⟨rfl, WordsRes.some_ X.out ((Below.refl _ _).alloc (Nat.le_refl _) _)⟩
  | true =>
    cases hu : isTy u.data.toList with
    | false =>
      have X : Hid (wordsM ⟨6, kd, n, s, t, u, l, c⟩ m = some 20) := by simp [Hid, wordsM, tyOf_none hu]
      have T := Lib.hid ht
      have U := Lib.hid hu
      clear ht hu
      go_enter Tryz.func84, Tryz.ntmps84
      go_wp2_with fail
      refine (cgood_any t _).mono ?_
      rw [T.out]
      rintro e w' ⟨rfl, rfl⟩
      go_wp2_with fail
      refine (cgood_any u _).mono ?_
      rw [U.out]
      rintro e w' ⟨rfl, rfl⟩
      go_wp2_with (first | (go_at_call 31; (with_reducible refine (need_yes _ _ _).mono ?_); rintro e w' ⟨rfl, rfl⟩) | (go_at_call 31; (with_reducible refine (need_no _ _ _).mono ?_); rintro e w' ⟨rfl, rfl⟩))
      exact ⟨rfl, WordsRes.some_ X.out ((Below.refl _ _).alloc (Nat.le_refl _) _)⟩
    | true =>
      have T := Lib.hid ht
      have U := Lib.hid hu
      obtain ⟨a, rfl, ha⟩ := ty_of t ht
      obtain ⟨b, rfl, hb⟩ := ty_of u hu
      clear ht hu
      have X : Hid (wordsM ⟨6, kd, n, s, a.str, b.str, l, c⟩ m = none) := by simp [Hid, wordsM, tyOf_str a ha, tyOf_str b hb]
      go_enter Tryz.func84, Tryz.ntmps84
      go_wp2_with fail
      refine (cgood_any a.str _).mono ?_
      rw [T.out]
      rintro e w' ⟨rfl, rfl⟩
      go_wp2_with fail
      refine (cgood_any b.str _).mono ?_
      rw [U.out]
      rintro e w' ⟨rfl, rfl⟩
      go_wp2_with (first | (go_at_call 31; (with_reducible refine (need_yes _ _ _).mono ?_); rintro e w' ⟨rfl, rfl⟩) | (go_at_call 31; (with_reducible refine (need_no _ _ _).mono ?_); rintro e w' ⟨rfl, rfl⟩))
      go_end0
      exact WordsRes.none_ X.out ((Below.refl _ _).alloc (Nat.le_refl _) _)

set_option maxHeartbeats 1600000 in
theorem words_cast (kd n : Int) (s t u : ByteArray) (l c : Int) : WordsC ⟨30, kd, n, s, t, u, l, c⟩ := by
  intro p m w hm
  unfold Nd.val Nd.cells
  cases ht : isTy t.data.toList with
  | false =>
    have X : Hid (wordsM ⟨30, kd, n, s, t, u, l, c⟩ m = some 20) := by simp [Hid, wordsM, tyOf_none ht]
    have T := Lib.hid ht
    clear ht
    go_enter Tryz.func84, Tryz.ntmps84
    go_wp2_with fail
    refine (cgood_any t _).mono ?_
    rw [T.out]
    rintro e w' ⟨rfl, rfl⟩
    go_wp2_with (first | (go_at_call 31; (with_reducible refine (need_yes _ _ _).mono ?_); rintro e w' ⟨rfl, rfl⟩) | (go_at_call 31; (with_reducible refine (need_no _ _ _).mono ?_); rintro e w' ⟨rfl, rfl⟩))
    exact ⟨rfl, WordsRes.some_ X.out ((Below.refl _ _).alloc (Nat.le_refl _) _)⟩
  | true =>
    cases hu : isTy u.data.toList with
    | false =>
      have X : Hid (wordsM ⟨30, kd, n, s, t, u, l, c⟩ m = some 20) := by simp [Hid, wordsM, tyOf_none hu]
      have T := Lib.hid ht
      have U := Lib.hid hu
      clear ht hu
      go_enter Tryz.func84, Tryz.ntmps84
      go_wp2_with fail
      refine (cgood_any t _).mono ?_
      rw [T.out]
      rintro e w' ⟨rfl, rfl⟩
      go_wp2_with fail
      refine (cgood_any u _).mono ?_
      rw [U.out]
      rintro e w' ⟨rfl, rfl⟩
      go_wp2_with (first | (go_at_call 31; (with_reducible refine (need_yes _ _ _).mono ?_); rintro e w' ⟨rfl, rfl⟩) | (go_at_call 31; (with_reducible refine (need_no _ _ _).mono ?_); rintro e w' ⟨rfl, rfl⟩))
      exact ⟨rfl, WordsRes.some_ X.out ((Below.refl _ _).alloc (Nat.le_refl _) _)⟩
    | true =>
      have T := Lib.hid ht
      have U := Lib.hid hu
      obtain ⟨a, rfl, ha⟩ := ty_of t ht
      obtain ⟨b, rfl, hb⟩ := ty_of u hu
      clear ht hu
      have hB0 : ∀ o, Below w.heap.size w (w.alloc o) := fun o => (Below.refl _ _).alloc (Nat.le_refl _) o
      cases hc : cons a b with
      | false =>
        have X : Hid (wordsM ⟨30, kd, n, s, a.str, b.str, l, c⟩ m = some 23) := by simp [Hid, wordsM, tyOf_str a ha, tyOf_str b hb, hc]
        have C := Lib.hid hc
        clear hc
        go_enter Tryz.func84, Tryz.ntmps84
        go_wp2_with fail
        refine (cgood_any a.str _).mono ?_
        rw [T.out]
        rintro e w' ⟨rfl, rfl⟩
        go_wp2_with fail
        refine (cgood_any b.str _).mono ?_
        rw [U.out]
        rintro e w' ⟨rfl, rfl⟩
        go_wp2_with (first | (go_at_call 31; (with_reducible refine (need_yes _ _ _).mono ?_); rintro e w' ⟨rfl, rfl⟩) | (go_at_call 31; (with_reducible refine (need_no _ _ _).mono ?_); rintro e w' ⟨rfl, rfl⟩))
        refine (Consistent_any a b ha hb _).mono ?_
        rw [C.out]
        rintro e w1 ⟨rfl, hb1⟩
        have hB := below_later hb1 (hB0 _)
        clear hb1
        go_wp2_with (first | (go_at_call 31; (with_reducible refine (need_yes _ _ _).mono ?_); rintro e w' ⟨rfl, rfl⟩) | (go_at_call 31; (with_reducible refine (need_no _ _ _).mono ?_); rintro e w' ⟨rfl, rfl⟩))
        exact ⟨rfl, WordsRes.some_ X.out hB⟩
      | true =>
        have C := Lib.hid hc
        by_cases h1 : 1 ≤ n ∧ n ≤ 2147483647
        · have X : Hid (wordsM ⟨30, kd, n, s, a.str, b.str, l, c⟩ m = none) := by simp [Hid, wordsM, tyOf_str a ha, tyOf_str b hb, hc, h1]
          obtain ⟨i1, i2⟩ := h1
          clear hc
          go_enter Tryz.func84, Tryz.ntmps84
          go_wp2_with fail
          refine (cgood_any a.str _).mono ?_
          rw [T.out]
          rintro e w' ⟨rfl, rfl⟩
          go_wp2_with fail
          refine (cgood_any b.str _).mono ?_
          rw [U.out]
          rintro e w' ⟨rfl, rfl⟩
          go_wp2_with (first | (go_at_call 31; (with_reducible refine (need_yes _ _ _).mono ?_); rintro e w' ⟨rfl, rfl⟩) | (go_at_call 31; (with_reducible refine (need_no _ _ _).mono ?_); rintro e w' ⟨rfl, rfl⟩))
          refine (Consistent_any a b ha hb _).mono ?_
          rw [C.out]
          rintro e w1 ⟨rfl, hb1⟩
          have hB := below_later hb1 (hB0 _)
          have n2 : w1.cell? ⟨w.heap.size, 2, none⟩ = some (.int .i64 n) := cell_later hb1 (by go_simp)
          clear hb1
          go_wp2_with (first | (go_at_call 31; (with_reducible refine (need_yes _ _ _).mono ?_); rintro e w' ⟨rfl, rfl⟩) | (go_at_call 31; (with_reducible refine (need_no _ _ _).mono ?_); rintro e w' ⟨rfl, rfl⟩))
          go_end0
          exact WordsRes.none_ X.out hB
        · have X : Hid (wordsM ⟨30, kd, n, s, a.str, b.str, l, c⟩ m = some 13) := by simp only [Hid, wordsM, tyOf_str a ha, tyOf_str b hb, hc, h1]; rfl
          have i1 : decide (1 ≤ n) = false ∨ (1 ≤ n ∧ decide (n ≤ 2147483647) = false) := by
            by_cases h : 1 ≤ n
            · exact .inr ⟨h, decide_eq_false (fun h2 => h1 ⟨h, h2⟩)⟩
            · exact .inl (decide_eq_false h)
          clear hc h1
          rcases i1 with i1 | ⟨i1, i2⟩
          all_goals
            go_enter Tryz.func84, Tryz.ntmps84
            go_wp2_with fail
            refine (cgood_any a.str _).mono ?_
            rw [T.out]
            rintro e w' ⟨rfl, rfl⟩
            go_wp2_with fail
            refine (cgood_any b.str _).mono ?_
            rw [U.out]
            rintro e w' ⟨rfl, rfl⟩
            go_wp2_with (first | (go_at_call 31; (with_reducible refine (need_yes _ _ _).mono ?_); rintro e w' ⟨rfl, rfl⟩) | (go_at_call 31; (with_reducible refine (need_no _ _ _).mono ?_); rintro e w' ⟨rfl, rfl⟩))
            refine (Consistent_any a b ha hb _).mono ?_
            rw [C.out]
            rintro e w1 ⟨rfl, hb1⟩
            have hB := below_later hb1 (hB0 _)
            have n2 : w1.cell? ⟨w.heap.size, 2, none⟩ = some (.int .i64 n) := cell_later hb1 (by go_simp)
            clear hb1
            go_wp2_with (first | (go_at_call 31; (with_reducible refine (need_yes _ _ _).mono ?_); rintro e w' ⟨rfl, rfl⟩) | (go_at_call 31; (with_reducible refine (need_no _ _ _).mono ?_); rintro e w' ⟨rfl, rfl⟩))
            exact ⟨rfl, WordsRes.some_ X.out hB⟩

set_option maxHeartbeats 1600000 in
theorem words_else (k kd n : Int) (s t u : ByteArray) (l c : Int) (h2 : (k == 2) = false) (h3 : (k == 3) = false) (h4 : (k == 4) = false) (h5 : (k == 5) = false) (h6 : (k == 6) = false) (h21 : (k == 21) = false) (h30 : (k == 30) = false) : WordsC ⟨k, kd, n, s, t, u, l, c⟩ := by
  intro p m w hm
  unfold Nd.val Nd.cells
  have X : Hid (wordsM ⟨k, kd, n, s, t, u, l, c⟩ m = none) := by
    simp only [beq_eq_false_iff_ne, ne_eq] at h2 h3 h4 h5 h6 h21 h30
    simp [Hid, wordsM, h2, h3, h4, h5, h6, h21, h30]
  go_enter Tryz.func84, Tryz.ntmps84
  go_wp2_with (first | (go_at_call 31; (with_reducible refine (need_yes _ _ _).mono ?_); rintro e w' ⟨rfl, rfl⟩) | (go_at_call 31; (with_reducible refine (need_no _ _ _).mono ?_); rintro e w' ⟨rfl, rfl⟩))
  go_end0
  exact WordsRes.none_ X.out ((Below.refl _ _).alloc (Nat.le_refl _) _)

theorem words_any (x : Nd) : WordsC x := by
  obtain ⟨k, kd, n, s, t, u, l, c⟩ := x
  by_cases h2 : k = 2; · subst h2; exact words_str _ _ _ _ _ _ _
  by_cases h3 : k = 3; · subst h3; exact words_truth _ _ _ _ _ _ _
  by_cases h4 : k = 4; · subst h4; exact words_var _ _ _ _ _ _ _
  by_cases h5 : k = 5; · subst h5; exact words_fn _ _ _ _ _ _ _
  by_cases h6 : k = 6; · subst h6; exact words_rec _ _ _ _ _ _ _
  by_cases h21 : k = 21; · subst h21; exact words_list _ _ _ _ _ _ _
  by_cases h30 : k = 30; · subst h30; exact words_cast _ _ _ _ _ _ _
  exact words_else _ _ _ _ _ _ _ _ (beq_eq_false_iff_ne.2 h2) (beq_eq_false_iff_ne.2 h3) (beq_eq_false_iff_ne.2 h4) (beq_eq_false_iff_ne.2 h5) (beq_eq_false_iff_ne.2 h6) (beq_eq_false_iff_ne.2 h21) (beq_eq_false_iff_ne.2 h30)
end Go.Proofs.YtdfadmhomjcmeaaGreatDoor

/- Walks of package core: the rules, kind by kind. -/
namespace Go.Proofs.YtdfadmhomjcmeaaGreatDoor
set_option linter.unusedSimpArgs false
set_option linter.unusedVariables false
open Go.RowKit Culp

/-- What a rule ends with. -/
def CRuleRes (r : Except Int Ty) (p : Nat) (w : World) (en : Ending) (w' : World) : Prop := Below w.heap.size w w' ∧ match r with
  | .ok t => en = .returned (.string t.str)
  | .error e => en = .panicked (flawV e p)
theorem CRuleRes.ok_ {r : Except Int Ty} {t : Ty} {p : Nat} {w w' : World} {u : Value} (h : r = .ok t) (hu : u = .string t.str) (hb : Below w.heap.size w w') : CRuleRes r p w (.returned u) w' := by subst h; exact ⟨hb, by rw [hu]⟩
theorem CRuleRes.bad {r : Except Int Ty} {e : Int} {p : Nat} {w w' : World} (h : r = .error e) (hb : Below w.heap.size w w') : CRuleRes r p w (.panicked (flawV e p)) w' := by subst h; exact ⟨hb, rfl⟩

theorem str_eqv (a b : Ty) : (a.str.toList == b.str.toList) = decide (a = b) := by
  rw [toL, toL, str_list, str_list, Bool.eq_iff_iff]
  simp only [beq_iff_eq, decide_eq_true_eq]
  exact ⟨enc_inj, fun h => by rw [h]⟩

set_option maxHeartbeats 1600000 in
theorem cast_any (cp : Value) (k kd n : Int) (s : ByteArray) (a b q : Ty) (l c : Int) (g cap p : Nat) (w : World) (hk : w.cell? ⟨g, 0, none⟩ = some (.string q.str)) :
    Calls Tryz.prog 72 #[cp, (Nd.mk k kd n s a.str b.str l c).val, .slice (some ⟨g, 0, none⟩) 1 cap, .int .i64 p] w (CRuleRes (needM (q == a) 23 b) p w) := by
  unfold Nd.val Nd.cells
  have he := str_eqv q a
  have hgl := World.block_lt_of_cell? w _ hk
  have hB0 : ∀ o, Below w.heap.size w (w.alloc o) := fun o => (Below.refl _ _).alloc (Nat.le_refl _) o
  by_cases h : q = a
  all_goals
    first
      | rw [decide_eq_true h] at he
      | rw [decide_eq_false h] at he
    have H := Lib.hid h
    clear h
    go_enter Tryz.func72, Tryz.ntmps72
    go_wp2_with fail
    refine wp_region_plan (S := fun w' => w'.cell? ⟨g, 0, none⟩ = some (.string q.str) ∧ w'.cell? ⟨w.heap.size, 4, none⟩ = some (.string a.str) ∧ w'.cell? ⟨w.heap.size, 5, none⟩ = some (.string b.str) ∧ Below w.heap.size w w')
      [(0, true), (1, true), (2, true), (3, true), (4, true), (5, true), (6, true), (7, false)] (by kernel_rfl) (by kernel_rfl) (by kernel_rfl) (fun _ _ _ _ _ h => h) ⟨cell_later (hB0 _).drew hk, by go_simp, by go_simp, (hB0 _).drew⟩ ?_
    intro HS
    repeat (first | (apply wpPlan_look; rfl; rfl; (intro wq hq; (try dsimp only at hq); go_split_ands; go_simp; (try rw [if_neg (by omega)]); (try rw [if_pos (by omega)]); try with_reducible rfl); simp only [Act.put, List.setIfInBounds_toArray, List.set_cons_zero, List.set_cons_succ]) | (apply wpPlan_skip; rfl; rfl; simp only [Act.put, List.setIfInBounds_toArray, List.set_cons_zero, List.set_cons_succ]) | (apply wpPlan_pass; rfl; rfl; assumption; simp only [Act.put, List.setIfInBounds_toArray, List.set_cons_zero, List.set_cons_succ]))
    first
      | (apply wpPlan_call2; rfl; rfl; rfl; rfl; kernel_rfl; exact need_yes 23 p _; rfl; rintro e w' ⟨rfl, rfl⟩
         refine .inl ⟨_, rfl, HS, ?_⟩
         simp only [Act.put, List.setIfInBounds_toArray, List.set_cons_zero, List.set_cons_succ]
         apply wpPlan_done
         go_wp2
         go_ret
         exact CRuleRes.ok_ (by rw [H.out]; simp [needM]) rfl (hB0 _).drew)
      | (apply wpPlan_call2; rfl; rfl; rfl; rfl; kernel_rfl; exact need_no 23 p _; rfl; rintro e w' ⟨rfl, rfl⟩
         refine .inr ⟨_, rfl, ?_⟩
         exact ⟨rfl, CRuleRes.bad (by simp [needM, H.out]) (hB0 _).drew⟩)

theorem str_size_le {t : Ty} (h : t.fits) : t.str.size ≤ 64 := by rw [str_size]; exact h
theorem str_pair (a b : Ty) : ({ data := #[44] } ++ a.str) ++ b.str = (Ty.pair a b).str := by apply ByteArray.ext; apply Array.ext'; simp [Ty.str, Ty.enc]
theorem str_fn (a b : Ty) : ({ data := #[62] } ++ a.str) ++ b.str = (Ty.fn a b).str := by apply ByteArray.ext; apply Array.ext'; simp [Ty.str, Ty.enc]
theorem str_list1 (a : Ty) : { data := #[108] } ++ a.str = (Ty.list a).str := by apply ByteArray.ext; apply Array.ext'; simp [Ty.str, Ty.enc]
theorem str_box1 (a : Ty) : { data := #[120] } ++ a.str = (Ty.box a).str := by apply ByteArray.ext; apply Array.ext'; simp [Ty.str, Ty.enc]

set_option maxHeartbeats 400000 in
theorem made_any (cp : Value) (t : Ty) (p : Nat) (w : World) : Calls Tryz.prog 85 #[cp, .string t.str, .int .i64 p] w (CRuleRes (madeM t) p w) := by
  by_cases h : t.enc.length ≤ 64
  · have X : Hid (madeM t = .ok t) := by simp [Hid, madeM, h]
    have i1 : decide ((t.str.size : Int) ≤ 64) = true := decide_eq_true (by rw [str_size]; omega)
    clear h
    go_enter Tryz.func85, Tryz.ntmps85
    go_wp2_with (first | (go_at_call 31; (with_reducible refine (need_yes _ _ _).mono ?_); rintro e w' ⟨rfl, rfl⟩) | (go_at_call 31; (with_reducible refine (need_no _ _ _).mono ?_); rintro e w' ⟨rfl, rfl⟩))
    go_ret
    exact CRuleRes.ok_ X.out rfl (Below.refl _ _)
  · have X : Hid (madeM t = .error 21) := by simp [Hid, madeM]; omega
    have i1 : decide ((t.str.size : Int) ≤ 64) = false := decide_eq_false (by rw [str_size]; omega)
    clear h
    go_enter Tryz.func85, Tryz.ntmps85
    go_wp2_with (first | (go_at_call 31; (with_reducible refine (need_yes _ _ _).mono ?_); rintro e w' ⟨rfl, rfl⟩) | (go_at_call 31; (with_reducible refine (need_no _ _ _).mono ?_); rintro e w' ⟨rfl, rfl⟩))
    exact ⟨rfl, CRuleRes.bad X.out (Below.refl _ _)⟩

set_option maxHeartbeats 800000 in
theorem box_any (cp : Value) (k kd n : Int) (s t u : ByteArray) (l c : Int) (q : Ty) (hq : q.fits) (g cap p : Nat) (w : World) (hk : w.cell? ⟨g, 0, none⟩ = some (.string q.str)) :
    Calls Tryz.prog 80 #[cp, (Nd.mk k kd n s t u l c).val, .slice (some ⟨g, 0, none⟩) 1 cap, .int .i64 p] w (CRuleRes (madeM (.box q)) p w) := by
  unfold Nd.val Nd.cells
  have hs := str_size_le hq
  have he := str_box1 q
  have hgl := World.block_lt_of_cell? w _ hk
  have hk2 : ∀ o, (w.alloc o).cell? ⟨g, 0, none⟩ = some (.string q.str) := fun o => cell_later ((Below.refl _ _).alloc (Nat.le_refl _) o) hk
  have hB0 : ∀ o, Below w.heap.size w (w.alloc o) := fun o => (Below.refl _ _).alloc (Nat.le_refl _) o
  go_enter Tryz.func80, Tryz.ntmps80
  go_wp2_with fail
  refine (made_any _ _ _ _).mono ?_
  cases hm : madeM (.box q) with
  | ok t0 =>
    rintro e w' ⟨hb, rfl⟩
    have hB := below_later hb (hB0 _)
    have H := Lib.hid hm
    clear hb hm
    go_wp2_with fail
    go_ret
    exact CRuleRes.ok_ H.out rfl hB
  | error e0 =>
    rintro e w' ⟨hb, rfl⟩
    exact ⟨rfl, CRuleRes.bad rfl (below_later hb (hB0 _))⟩

set_option maxHeartbeats 800000 in
theorem get_no (cp : Value) (k kd n : Int) (s t u : ByteArray) (l c : Int) (q : Ty) (hq : q.fits) (hh : ((q.hd.toNat : Int) == 120) = false) (g cap p : Nat) (w : World) (hk : w.cell? ⟨g, 0, none⟩ = some (.string q.str)) :
    Calls Tryz.prog 81 #[cp, (Nd.mk k kd n s t u l c).val, .slice (some ⟨g, 0, none⟩) 1 cap, .int .i64 p] w (CRuleRes (.error 23) p w) := by
  unfold Nd.val Nd.cells
  have hk2 : ∀ o, (w.alloc o).cell? ⟨g, 0, none⟩ = some (.string q.str) := fun o => cell_later ((Below.refl _ _).alloc (Nat.le_refl _) o) hk
  have hB0 : ∀ o, Below w.heap.size w (w.alloc o) := fun o => (Below.refl _ _).alloc (Nat.le_refl _) o
  go_enter Tryz.func81, Tryz.ntmps81
  go_wp2_with (first | (go_at_call 125; refine (Head_any q hq _).mono ?_; rintro e w' ⟨rfl, rfl⟩) | (go_at_call 31; (with_reducible refine (need_yes _ _ _).mono ?_); rintro e w' ⟨rfl, rfl⟩) | (go_at_call 31; (with_reducible refine (need_no _ _ _).mono ?_); rintro e w' ⟨rfl, rfl⟩))
  exact ⟨rfl, CRuleRes.bad rfl (hB0 _)⟩
set_option maxHeartbeats 800000 in
theorem of_no (cp : Value) (k kd n : Int) (s t u : ByteArray) (l c : Int) (q : Ty) (hq : q.fits) (hh : ((q.hd.toNat : Int) == 108) = false) (g cap p : Nat) (w : World) (hk : w.cell? ⟨g, 0, none⟩ = some (.string q.str)) :
    Calls Tryz.prog 78 #[cp, (Nd.mk k kd n s t u l c).val, .slice (some ⟨g, 0, none⟩) 1 cap, .int .i64 p] w (CRuleRes (.error 23) p w) := by
  unfold Nd.val Nd.cells
  have hk2 : ∀ o, (w.alloc o).cell? ⟨g, 0, none⟩ = some (.string q.str) := fun o => cell_later ((Below.refl _ _).alloc (Nat.le_refl _) o) hk
  have hB0 : ∀ o, Below w.heap.size w (w.alloc o) := fun o => (Below.refl _ _).alloc (Nat.le_refl _) o
  go_enter Tryz.func78, Tryz.ntmps78
  go_wp2_with (first | (go_at_call 125; refine (Head_any q hq _).mono ?_; rintro e w' ⟨rfl, rfl⟩) | (go_at_call 31; (with_reducible refine (need_yes _ _ _).mono ?_); rintro e w' ⟨rfl, rfl⟩) | (go_at_call 31; (with_reducible refine (need_no _ _ _).mono ?_); rintro e w' ⟨rfl, rfl⟩))
  exact ⟨rfl, CRuleRes.bad rfl (hB0 _)⟩

set_option maxHeartbeats 800000 in
theorem get_yes (cp : Value) (k kd n : Int) (s t u : ByteArray) (l c : Int) (a : Ty) (hq : (Ty.box a).fits) (g cap p : Nat) (w : World) (hk : w.cell? ⟨g, 0, none⟩ = some (.string (Ty.box a).str)) :
    Calls Tryz.prog 81 #[cp, (Nd.mk k kd n s t u l c).val, .slice (some ⟨g, 0, none⟩) 1 cap, .int .i64 p] w (CRuleRes (.ok a) p w) := by
  unfold Nd.val Nd.cells
  have hk2 : ∀ o, (w.alloc o).cell? ⟨g, 0, none⟩ = some (.string (Ty.box a).str) := fun o => cell_later ((Below.refl _ _).alloc (Nat.le_refl _) o) hk
  have hB0 : ∀ o, Below w.heap.size w (w.alloc o) := fun o => (Below.refl _ _).alloc (Nat.le_refl _) o
  go_enter Tryz.func81, Tryz.ntmps81
  go_wp2_with fail
  refine (show Calls Tryz.prog 125 #[.string (Ty.box a).str] _ (Gives (.int .u8 120) _) from Head_any _ hq _).mono ?_
  rintro e w' ⟨rfl, rfl⟩
  go_wp2_with (first | (go_at_call 31; (with_reducible refine (need_yes _ _ _).mono ?_); rintro e w' ⟨rfl, rfl⟩) | (go_at_call 31; (with_reducible refine (need_no _ _ _).mono ?_); rintro e w' ⟨rfl, rfl⟩))
  refine (Parts_any _ hq _).mono ?_
  rintro e w1 ⟨v1, rfl, ho1, hb1⟩
  obtain ⟨g1, c1, rfl, k1⟩ := own_single ho1 rfl
  have hB := below_later hb1 (hB0 _)
  clear ho1 hb1
  go_wp2_with fail
  go_ret
  exact CRuleRes.ok_ rfl rfl hB
end Go.Proofs.YtdfadmhomjcmeaaGreatDoor

/- Walks of package core: the rules, kind by kind, more of them. -/
namespace Go.Proofs.YtdfadmhomjcmeaaGreatDoor
set_option linter.unusedSimpArgs false
set_option linter.unusedVariables false
open Go.RowKit Culp

set_option maxHeartbeats 800000 in
theorem of_head (cp : Value) (kd n : Int) (s t u : ByteArray) (l c : Int) (a : Ty) (hq : (Ty.list a).fits) (g cap p : Nat) (w : World) (hk : w.cell? ⟨g, 0, none⟩ = some (.string (Ty.list a).str)) :
    Calls Tryz.prog 78 #[cp, (Nd.mk 22 kd n s t u l c).val, .slice (some ⟨g, 0, none⟩) 1 cap, .int .i64 p] w (CRuleRes (.ok a) p w) := by
  unfold Nd.val Nd.cells
  have hk2 : ∀ o, (w.alloc o).cell? ⟨g, 0, none⟩ = some (.string (Ty.list a).str) := fun o => cell_later ((Below.refl _ _).alloc (Nat.le_refl _) o) hk
  have hB0 : ∀ o, Below w.heap.size w (w.alloc o) := fun o => (Below.refl _ _).alloc (Nat.le_refl _) o
  go_enter Tryz.func78, Tryz.ntmps78
  go_wp2_with fail
  refine (show Calls Tryz.prog 125 #[.string (Ty.list a).str] _ (Gives (.int .u8 108) _) from Head_any _ hq _).mono ?_
  rintro e w' ⟨rfl, rfl⟩
  go_wp2_with (first | (go_at_call 31; (with_reducible refine (need_yes _ _ _).mono ?_); rintro e w' ⟨rfl, rfl⟩) | (go_at_call 31; (with_reducible refine (need_no _ _ _).mono ?_); rintro e w' ⟨rfl, rfl⟩))
  first
    | (refine (Parts_any _ hq _).mono ?_
       rintro e w1 ⟨v1, rfl, ho1, hb1⟩
       obtain ⟨g1, c1, rfl, k1⟩ := own_single ho1 rfl
       have hB := below_later hb1 (hB0 _)
       clear ho1 hb1
       go_wp2_with fail
       go_ret
       exact CRuleRes.ok_ rfl rfl hB)
    | (go_ret
       exact CRuleRes.ok_ rfl rfl (hB0 _))
set_option maxHeartbeats 800000 in
theorem of_tail (cp : Value) (kd n : Int) (s t u : ByteArray) (l c : Int) (a : Ty) (hq : (Ty.list a).fits) (g cap p : Nat) (w : World) (hk : w.cell? ⟨g, 0, none⟩ = some (.string (Ty.list a).str)) :
    Calls Tryz.prog 78 #[cp, (Nd.mk 23 kd n s t u l c).val, .slice (some ⟨g, 0, none⟩) 1 cap, .int .i64 p] w (CRuleRes (.ok (.list a)) p w) := by
  unfold Nd.val Nd.cells
  have hk2 : ∀ o, (w.alloc o).cell? ⟨g, 0, none⟩ = some (.string (Ty.list a).str) := fun o => cell_later ((Below.refl _ _).alloc (Nat.le_refl _) o) hk
  have hB0 : ∀ o, Below w.heap.size w (w.alloc o) := fun o => (Below.refl _ _).alloc (Nat.le_refl _) o
  go_enter Tryz.func78, Tryz.ntmps78
  go_wp2_with fail
  refine (show Calls Tryz.prog 125 #[.string (Ty.list a).str] _ (Gives (.int .u8 108) _) from Head_any _ hq _).mono ?_
  rintro e w' ⟨rfl, rfl⟩
  go_wp2_with (first | (go_at_call 31; (with_reducible refine (need_yes _ _ _).mono ?_); rintro e w' ⟨rfl, rfl⟩) | (go_at_call 31; (with_reducible refine (need_no _ _ _).mono ?_); rintro e w' ⟨rfl, rfl⟩))
  first
    | (refine (Parts_any _ hq _).mono ?_
       rintro e w1 ⟨v1, rfl, ho1, hb1⟩
       obtain ⟨g1, c1, rfl, k1⟩ := own_single ho1 rfl
       have hB := below_later hb1 (hB0 _)
       clear ho1 hb1
       go_wp2_with fail
       go_ret
       exact CRuleRes.ok_ rfl rfl hB)
    | (go_ret
       exact CRuleRes.ok_ rfl rfl (hB0 _))
set_option maxHeartbeats 800000 in
theorem of_empty (cp : Value) (kd n : Int) (s t u : ByteArray) (l c : Int) (a : Ty) (hq : (Ty.list a).fits) (g cap p : Nat) (w : World) (hk : w.cell? ⟨g, 0, none⟩ = some (.string (Ty.list a).str)) :
    Calls Tryz.prog 78 #[cp, (Nd.mk 24 kd n s t u l c).val, .slice (some ⟨g, 0, none⟩) 1 cap, .int .i64 p] w (CRuleRes (.ok .bool) p w) := by
  unfold Nd.val Nd.cells
  have hk2 : ∀ o, (w.alloc o).cell? ⟨g, 0, none⟩ = some (.string (Ty.list a).str) := fun o => cell_later ((Below.refl _ _).alloc (Nat.le_refl _) o) hk
  have hB0 : ∀ o, Below w.heap.size w (w.alloc o) := fun o => (Below.refl _ _).alloc (Nat.le_refl _) o
  go_enter Tryz.func78, Tryz.ntmps78
  go_wp2_with fail
  refine (show Calls Tryz.prog 125 #[.string (Ty.list a).str] _ (Gives (.int .u8 108) _) from Head_any _ hq _).mono ?_
  rintro e w' ⟨rfl, rfl⟩
  go_wp2_with (first | (go_at_call 31; (with_reducible refine (need_yes _ _ _).mono ?_); rintro e w' ⟨rfl, rfl⟩) | (go_at_call 31; (with_reducible refine (need_no _ _ _).mono ?_); rintro e w' ⟨rfl, rfl⟩))
  first
    | (refine (Parts_any _ hq _).mono ?_
       rintro e w1 ⟨v1, rfl, ho1, hb1⟩
       obtain ⟨g1, c1, rfl, k1⟩ := own_single ho1 rfl
       have hB := below_later hb1 (hB0 _)
       clear ho1 hb1
       go_wp2_with fail
       go_ret
       exact CRuleRes.ok_ rfl rfl hB)
    | (go_ret
       exact CRuleRes.ok_ rfl rfl (hB0 _))

set_option maxHeartbeats 800000 in
theorem half_no (cp : Value) (k kd n : Int) (s t u : ByteArray) (l c : Int) (q : Ty) (hq : q.fits) (hh : ((q.hd.toNat : Int) == 44) = false) (g cap p : Nat) (w : World) (hk : w.cell? ⟨g, 0, none⟩ = some (.string q.str)) :
    Calls Tryz.prog 76 #[cp, (Nd.mk k kd n s t u l c).val, .slice (some ⟨g, 0, none⟩) 1 cap, .int .i64 p] w (CRuleRes (.error 23) p w) := by
  unfold Nd.val Nd.cells
  have hk2 : ∀ o, (w.alloc o).cell? ⟨g, 0, none⟩ = some (.string q.str) := fun o => cell_later ((Below.refl _ _).alloc (Nat.le_refl _) o) hk
  have hB0 : ∀ o, Below w.heap.size w (w.alloc o) := fun o => (Below.refl _ _).alloc (Nat.le_refl _) o
  go_enter Tryz.func76, Tryz.ntmps76
  go_wp2_with (first | (go_at_call 125; refine (Head_any q hq _).mono ?_; rintro e w' ⟨rfl, rfl⟩) | (go_at_call 31; (with_reducible refine (need_yes _ _ _).mono ?_); rintro e w' ⟨rfl, rfl⟩) | (go_at_call 31; (with_reducible refine (need_no _ _ _).mono ?_); rintro e w' ⟨rfl, rfl⟩))
  exact ⟨rfl, CRuleRes.bad rfl (hB0 _)⟩

set_option maxHeartbeats 800000 in
theorem half_first (cp : Value) (kd n : Int) (s t u : ByteArray) (l c : Int) (a b : Ty) (hq : (Ty.pair a b).fits) (g cap p : Nat) (w : World) (hk : w.cell? ⟨g, 0, none⟩ = some (.string (Ty.pair a b).str)) :
    Calls Tryz.prog 76 #[cp, (Nd.mk 19 kd n s t u l c).val, .slice (some ⟨g, 0, none⟩) 1 cap, .int .i64 p] w (CRuleRes (.ok a) p w) := by
  unfold Nd.val Nd.cells
  have hk2 : ∀ o, (w.alloc o).cell? ⟨g, 0, none⟩ = some (.string (Ty.pair a b).str) := fun o => cell_later ((Below.refl _ _).alloc (Nat.le_refl _) o) hk
  have hB0 : ∀ o, Below w.heap.size w (w.alloc o) := fun o => (Below.refl _ _).alloc (Nat.le_refl _) o
  go_enter Tryz.func76, Tryz.ntmps76
  go_wp2_with fail
  refine (show Calls Tryz.prog 125 #[.string (Ty.pair a b).str] _ (Gives (.int .u8 44) _) from Head_any _ hq _).mono ?_
  rintro e w' ⟨rfl, rfl⟩
  go_wp2_with (first | (go_at_call 31; (with_reducible refine (need_yes _ _ _).mono ?_); rintro e w' ⟨rfl, rfl⟩) | (go_at_call 31; (with_reducible refine (need_no _ _ _).mono ?_); rintro e w' ⟨rfl, rfl⟩))
  refine wp_region_plan (S := fun w' => w'.cell? ⟨g, 0, none⟩ = some (.string (Ty.pair a b).str) ∧ w'.cell? ⟨w.heap.size, 0, none⟩ = some (.int .i8 19) ∧ Below w.heap.size w w')
    [(0, true), (1, true), (2, true), (4, true), (5, true), (6, true), (3, false), (7, true), (8, true), (9, true)] (by kernel_rfl) (by kernel_rfl) (by kernel_rfl) (fun _ _ _ _ _ h => h) ⟨cell_later (hB0 _).drew hk, by go_simp, (hB0 _).drew⟩ ?_
  intro HS
  repeat (first | (apply wpPlan_look; rfl; rfl; (intro wq hq; (try dsimp only at hq); go_split_ands; go_simp; (try rw [if_neg (by omega)]); (try rw [if_pos (by omega)]); try with_reducible rfl); simp only [Act.put, List.setIfInBounds_toArray, List.set_cons_zero, List.set_cons_succ]) | (apply wpPlan_skip; rfl; rfl; simp only [Act.put, List.setIfInBounds_toArray, List.set_cons_zero, List.set_cons_succ]) | (apply wpPlan_pass; rfl; rfl; assumption; simp only [Act.put, List.setIfInBounds_toArray, List.set_cons_zero, List.set_cons_succ]))
  have wr0 : IntKind.i8.wrap 0 = 0 := by decide
  have wr1 : IntKind.i8.wrap 1 = 1 := by decide
  apply wpPlan_callS; rfl; rfl; rfl; rfl; kernel_rfl; exact Parts_any _ hq _; rfl; rintro e w3 ⟨v1, rfl, ho1, hb1⟩
  obtain ⟨g1, c1, rfl, k1, k2⟩ := own_two ho1 rfl
  refine .inl ⟨_, rfl, fun w' => (w'.cell? ⟨g1, 0, none⟩ = some (.string a.str) ∧ w'.cell? ⟨g1, 1, none⟩ = some (.string b.str)) ∧ w'.cell? ⟨g, 0, none⟩ = some (.string (Ty.pair a b).str) ∧ w'.cell? ⟨w.heap.size, 0, none⟩ = some (.int .i8 19) ∧ Below w.heap.size w w', fun _ h => h.2, ⟨⟨k1, k2⟩, cell_later hb1 HS.1, cell_later hb1 HS.2.1, below_later hb1 HS.2.2⟩, ?_⟩
  have hB := below_later hb1 HS.2.2
  clear ho1 hb1 k1 k2 HS
  simp only [Act.put, List.setIfInBounds_toArray, List.set_cons_zero, List.set_cons_succ]
  repeat (first | (apply wpPlan_look; rfl; rfl; (intro wq hq; (try dsimp only at hq); go_split_ands; go_simp; (try rw [if_neg (by omega)]); (try rw [if_pos (by omega)]); try with_reducible rfl); simp only [Act.put, List.setIfInBounds_toArray, List.set_cons_zero, List.set_cons_succ]) | (apply wpPlan_skip; rfl; rfl; simp only [Act.put, List.setIfInBounds_toArray, List.set_cons_zero, List.set_cons_succ]) | (apply wpPlan_pass; rfl; rfl; assumption; simp only [Act.put, List.setIfInBounds_toArray, List.set_cons_zero, List.set_cons_succ]))
  apply wpPlan_done
  go_wp2
  go_ret
  exact CRuleRes.ok_ rfl rfl hB
set_option maxHeartbeats 800000 in
theorem half_second (cp : Value) (kd n : Int) (s t u : ByteArray) (l c : Int) (a b : Ty) (hq : (Ty.pair a b).fits) (g cap p : Nat) (w : World) (hk : w.cell? ⟨g, 0, none⟩ = some (.string (Ty.pair a b).str)) :
    Calls Tryz.prog 76 #[cp, (Nd.mk 20 kd n s t u l c).val, .slice (some ⟨g, 0, none⟩) 1 cap, .int .i64 p] w (CRuleRes (.ok b) p w) := by
  unfold Nd.val Nd.cells
  have hk2 : ∀ o, (w.alloc o).cell? ⟨g, 0, none⟩ = some (.string (Ty.pair a b).str) := fun o => cell_later ((Below.refl _ _).alloc (Nat.le_refl _) o) hk
  have hB0 : ∀ o, Below w.heap.size w (w.alloc o) := fun o => (Below.refl _ _).alloc (Nat.le_refl _) o
  go_enter Tryz.func76, Tryz.ntmps76
  go_wp2_with fail
  refine (show Calls Tryz.prog 125 #[.string (Ty.pair a b).str] _ (Gives (.int .u8 44) _) from Head_any _ hq _).mono ?_
  rintro e w' ⟨rfl, rfl⟩
  go_wp2_with (first | (go_at_call 31; (with_reducible refine (need_yes _ _ _).mono ?_); rintro e w' ⟨rfl, rfl⟩) | (go_at_call 31; (with_reducible refine (need_no _ _ _).mono ?_); rintro e w' ⟨rfl, rfl⟩))
  refine wp_region_plan (S := fun w' => w'.cell? ⟨g, 0, none⟩ = some (.string (Ty.pair a b).str) ∧ w'.cell? ⟨w.heap.size, 0, none⟩ = some (.int .i8 20) ∧ Below w.heap.size w w')
    [(0, true), (1, true), (2, true), (4, true), (5, true), (6, true), (3, false), (7, true), (8, true), (9, true)] (by kernel_rfl) (by kernel_rfl) (by kernel_rfl) (fun _ _ _ _ _ h => h) ⟨cell_later (hB0 _).drew hk, by go_simp, (hB0 _).drew⟩ ?_
  intro HS
  repeat (first | (apply wpPlan_look; rfl; rfl; (intro wq hq; (try dsimp only at hq); go_split_ands; go_simp; (try rw [if_neg (by omega)]); (try rw [if_pos (by omega)]); try with_reducible rfl); simp only [Act.put, List.setIfInBounds_toArray, List.set_cons_zero, List.set_cons_succ]) | (apply wpPlan_skip; rfl; rfl; simp only [Act.put, List.setIfInBounds_toArray, List.set_cons_zero, List.set_cons_succ]) | (apply wpPlan_pass; rfl; rfl; assumption; simp only [Act.put, List.setIfInBounds_toArray, List.set_cons_zero, List.set_cons_succ]))
  have wr0 : IntKind.i8.wrap 0 = 0 := by decide
  have wr1 : IntKind.i8.wrap 1 = 1 := by decide
  apply wpPlan_callS; rfl; rfl; rfl; rfl; kernel_rfl; exact Parts_any _ hq _; rfl; rintro e w3 ⟨v1, rfl, ho1, hb1⟩
  obtain ⟨g1, c1, rfl, k1, k2⟩ := own_two ho1 rfl
  refine .inl ⟨_, rfl, fun w' => (w'.cell? ⟨g1, 0, none⟩ = some (.string a.str) ∧ w'.cell? ⟨g1, 1, none⟩ = some (.string b.str)) ∧ w'.cell? ⟨g, 0, none⟩ = some (.string (Ty.pair a b).str) ∧ w'.cell? ⟨w.heap.size, 0, none⟩ = some (.int .i8 20) ∧ Below w.heap.size w w', fun _ h => h.2, ⟨⟨k1, k2⟩, cell_later hb1 HS.1, cell_later hb1 HS.2.1, below_later hb1 HS.2.2⟩, ?_⟩
  have hB := below_later hb1 HS.2.2
  clear ho1 hb1 k1 k2 HS
  simp only [Act.put, List.setIfInBounds_toArray, List.set_cons_zero, List.set_cons_succ]
  repeat (first | (apply wpPlan_look; rfl; rfl; (intro wq hq; (try dsimp only at hq); go_split_ands; go_simp; (try rw [if_neg (by omega)]); (try rw [if_pos (by omega)]); try with_reducible rfl); simp only [Act.put, List.setIfInBounds_toArray, List.set_cons_zero, List.set_cons_succ]) | (apply wpPlan_skip; rfl; rfl; simp only [Act.put, List.setIfInBounds_toArray, List.set_cons_zero, List.set_cons_succ]) | (apply wpPlan_pass; rfl; rfl; assumption; simp only [Act.put, List.setIfInBounds_toArray, List.set_cons_zero, List.set_cons_succ]))
  apply wpPlan_done
  go_wp2
  go_ret
  exact CRuleRes.ok_ rfl rfl hB

set_option maxHeartbeats 800000 in
theorem call_no (cp : Value) (k kd n : Int) (s t u : ByteArray) (l c : Int) (q : Ty) (hq : q.fits) (hh : ((q.hd.toNat : Int) == 62) = false) (g m cap p : Nat) (hm : 0 < m) (w : World) (hk : w.cell? ⟨g, 0, none⟩ = some (.string q.str)) :
    Calls Tryz.prog 73 #[cp, (Nd.mk k kd n s t u l c).val, .slice (some ⟨g, 0, none⟩) m cap, .int .i64 p] w (CRuleRes (.error 23) p w) := by
  unfold Nd.val Nd.cells
  have hk2 : ∀ o, (w.alloc o).cell? ⟨g, 0, none⟩ = some (.string q.str) := fun o => cell_later ((Below.refl _ _).alloc (Nat.le_refl _) o) hk
  have hB0 : ∀ o, Below w.heap.size w (w.alloc o) := fun o => (Below.refl _ _).alloc (Nat.le_refl _) o
  go_enter Tryz.func73, Tryz.ntmps73
  go_wp2_with (first | (go_at_call 125; refine (Head_any q hq _).mono ?_; rintro e w' ⟨rfl, rfl⟩) | (go_at_call 31; (with_reducible refine (need_yes _ _ _).mono ?_); rintro e w' ⟨rfl, rfl⟩) | (go_at_call 31; (with_reducible refine (need_no _ _ _).mono ?_); rintro e w' ⟨rfl, rfl⟩))
  exact ⟨rfl, CRuleRes.bad rfl (hB0 _)⟩

set_option maxHeartbeats 1600000 in
theorem call_yes (cp : Value) (k kd n : Int) (s t u : ByteArray) (l c : Int) (a b q : Ty) (hq : (Ty.fn a b).fits) (g cap p : Nat) (w : World) (hk : w.cell? ⟨g, 0, none⟩ = some (.string (Ty.fn a b).str)) (hk1 : w.cell? ⟨g, 1, none⟩ = some (.string q.str)) :
    Calls Tryz.prog 73 #[cp, (Nd.mk k kd n s t u l c).val, .slice (some ⟨g, 0, none⟩) 2 cap, .int .i64 p] w (CRuleRes (needM (a == q) 23 b) p w) := by
  unfold Nd.val Nd.cells
  have hk2 : ∀ o, (w.alloc o).cell? ⟨g, 0, none⟩ = some (.string (Ty.fn a b).str) := fun o => cell_later ((Below.refl _ _).alloc (Nat.le_refl _) o) hk
  have hk3 : ∀ o, (w.alloc o).cell? ⟨g, 1, none⟩ = some (.string q.str) := fun o => cell_later ((Below.refl _ _).alloc (Nat.le_refl _) o) hk1
  have hB0 : ∀ o, Below w.heap.size w (w.alloc o) := fun o => (Below.refl _ _).alloc (Nat.le_refl _) o
  have he := str_eqv a q
  by_cases h : a = q
  all_goals
    first
      | rw [decide_eq_true h] at he
      | rw [decide_eq_false h] at he
    have H := Lib.hid h
    clear h
    go_enter Tryz.func73, Tryz.ntmps73
    go_wp2_with fail
    refine (show Calls Tryz.prog 125 #[.string (Ty.fn a b).str] _ (Gives (.int .u8 62) _) from Head_any _ hq _).mono ?_
    rintro e w' ⟨rfl, rfl⟩
    go_wp2_with (first | (go_at_call 31; (with_reducible refine (need_yes _ _ _).mono ?_); rintro e w' ⟨rfl, rfl⟩) | (go_at_call 31; (with_reducible refine (need_no _ _ _).mono ?_); rintro e w' ⟨rfl, rfl⟩))
    refine (Parts_any _ hq _).mono ?_
    rintro e w1 ⟨v1, rfl, ho1, hb1⟩
    obtain ⟨g1, c1, rfl, k1, k2⟩ := own_two ho1 rfl
    have hB := below_later hb1 (hB0 _)
    have hq1 := cell_later hb1 (hk3 _)
    clear ho1 hb1
    go_wp2_with fail
    refine wp_region_plan (S := fun w' => w'.cell? ⟨g1, 0, none⟩ = some (.string a.str) ∧ w'.cell? ⟨g1, 1, none⟩ = some (.string b.str) ∧ w'.cell? ⟨g, 1, none⟩ = some (.string q.str) ∧ Below w.heap.size w w')
      [(0, true), (1, true), (2, true), (3, true), (4, true), (5, true), (6, true), (7, true), (8, false)] (by kernel_rfl) (by kernel_rfl) (by kernel_rfl) (fun _ _ _ _ _ h => h) ⟨k1, k2, hq1, hB.drew⟩ ?_
    intro HS
    repeat (first | (apply wpPlan_look; rfl; rfl; (intro wq hq; (try dsimp only at hq); go_split_ands; go_simp; (try rw [if_neg (by omega)]); (try rw [if_pos (by omega)]); try with_reducible rfl); simp only [Act.put, List.setIfInBounds_toArray, List.set_cons_zero, List.set_cons_succ]) | (apply wpPlan_skip; rfl; rfl; simp only [Act.put, List.setIfInBounds_toArray, List.set_cons_zero, List.set_cons_succ]) | (apply wpPlan_pass; rfl; rfl; assumption; simp only [Act.put, List.setIfInBounds_toArray, List.set_cons_zero, List.set_cons_succ]))
    replace hB := hB.drew
    first
      | (apply wpPlan_call2; rfl; rfl; rfl; rfl; kernel_rfl; exact need_yes 23 p _; rfl; rintro e w' ⟨rfl, rfl⟩
         refine .inl ⟨_, rfl, HS, ?_⟩
         simp only [Act.put, List.setIfInBounds_toArray, List.set_cons_zero, List.set_cons_succ]
         apply wpPlan_done
         go_wp2
         go_ret
         exact CRuleRes.ok_ (by rw [H.out]; simp [needM]) rfl hB)
      | (apply wpPlan_call2; rfl; rfl; rfl; rfl; kernel_rfl; exact need_no 23 p _; rfl; rintro e w' ⟨rfl, rfl⟩
         refine .inr ⟨_, rfl, ?_⟩
         exact ⟨rfl, CRuleRes.bad (by simp [needM, H.out]) hB⟩)
    
set_option maxHeartbeats 1600000 in
theorem cons_any (cp : Value) (k kd n : Int) (s t u : ByteArray) (l c : Int) (x y : Ty) (hy : y.fits) (g cap p : Nat) (w : World) (hkx : w.cell? ⟨g, 1, none⟩ = some (.string x.str)) (hky : w.cell? ⟨g, 0, none⟩ = some (.string y.str)):
    Calls Tryz.prog 79 #[cp, (Nd.mk k kd n s t u l c).val, .slice (some ⟨g, 0, none⟩) 2 cap, .int .i64 p] w (CRuleRes (needM (x == Ty.list y) 23 x) p w) := by
  unfold Nd.val Nd.cells
  have hB0 : ∀ o, Below w.heap.size w (w.alloc o) := fun o => (Below.refl _ _).alloc (Nat.le_refl _) o
  have hs := str_size_le hy
  have hl := str_list1 y
  have hs3 : (Ty.list y).str.size ≤ 65 := by rw [str_size]; have := hy; unfold Ty.fits at this; simp [Ty.enc]; omega
  have he := str_eqv x (Ty.list y)
  by_cases h : x = Ty.list y
  all_goals
    first
      | rw [decide_eq_true h] at he
      | rw [decide_eq_false h] at he
    have H := Lib.hid h
    clear h
    go_enter Tryz.func79, Tryz.ntmps79
    go_wp2_with fail
    refine wp_region_plan (S := fun w' => w'.cell? ⟨g, 1, none⟩ = some (.string x.str) ∧ w'.cell? ⟨g, 0, none⟩ = some (.string y.str) ∧ Below w.heap.size w w')
      [(0, true), (1, true), (2, true), (3, true), (4, true), (5, true), (6, true), (7, true), (8, true), (9, false)] (by kernel_rfl) (by kernel_rfl) (by kernel_rfl) (fun _ _ _ _ _ h => h) ⟨cell_later (hB0 _).drew hkx, cell_later (hB0 _).drew hky, (hB0 _).drew⟩ ?_
    intro HS
    have hB := HS.2.2
    have hr2 := HS.1
    have hr3 := HS.2.1
    clear hkx hky
    repeat (first | (apply wpPlan_look; rfl; rfl; (intro wq hq; (try dsimp only at hq); go_split_ands; go_simp; (try rw [if_neg (by omega)]); (try rw [if_pos (by omega)]); try with_reducible rfl); simp only [Act.put, List.setIfInBounds_toArray, List.set_cons_zero, List.set_cons_succ]) | (apply wpPlan_skip; rfl; rfl; simp only [Act.put, List.setIfInBounds_toArray, List.set_cons_zero, List.set_cons_succ]) | (apply wpPlan_pass; rfl; rfl; assumption; simp only [Act.put, List.setIfInBounds_toArray, List.set_cons_zero, List.set_cons_succ]))
    first
      | (apply wpPlan_call2; rfl; rfl; rfl; rfl; kernel_rfl; exact need_yes 23 p _; rfl; rintro e w' ⟨rfl, rfl⟩
         refine .inl ⟨_, rfl, HS, ?_⟩
         simp only [Act.put, List.setIfInBounds_toArray, List.set_cons_zero, List.set_cons_succ]
         apply wpPlan_done
         go_wp2
         go_ret
         exact CRuleRes.ok_ (by rw [H.out]; simp [needM]) rfl hB)
      | (apply wpPlan_call2; rfl; rfl; rfl; rfl; kernel_rfl; exact need_no 23 p _; rfl; rintro e w' ⟨rfl, rfl⟩
         refine .inr ⟨_, rfl, ?_⟩
         exact ⟨rfl, CRuleRes.bad (by simp [needM, H.out]) hB⟩)
set_option maxHeartbeats 1600000 in
theorem set_any (cp : Value) (k kd n : Int) (s t u : ByteArray) (l c : Int) (x y : Ty) (hy : y.fits) (g cap p : Nat) (w : World) (hkx : w.cell? ⟨g, 0, none⟩ = some (.string x.str)) (hky : w.cell? ⟨g, 1, none⟩ = some (.string y.str)):
    Calls Tryz.prog 82 #[cp, (Nd.mk k kd n s t u l c).val, .slice (some ⟨g, 0, none⟩) 2 cap, .int .i64 p] w (CRuleRes (needM (x == Ty.box y) 23 y) p w) := by
  unfold Nd.val Nd.cells
  have hB0 : ∀ o, Below w.heap.size w (w.alloc o) := fun o => (Below.refl _ _).alloc (Nat.le_refl _) o
  have hs := str_size_le hy
  have hl := str_box1 y
  have hs3 : (Ty.box y).str.size ≤ 65 := by rw [str_size]; have := hy; unfold Ty.fits at this; simp [Ty.enc]; omega
  have he := str_eqv x (Ty.box y)
  by_cases h : x = Ty.box y
  all_goals
    first
      | rw [decide_eq_true h] at he
      | rw [decide_eq_false h] at he
    have H := Lib.hid h
    clear h
    go_enter Tryz.func82, Tryz.ntmps82
    go_wp2_with fail
    refine wp_region_plan (S := fun w' => w'.cell? ⟨g, 0, none⟩ = some (.string x.str) ∧ w'.cell? ⟨g, 1, none⟩ = some (.string y.str) ∧ Below w.heap.size w w')
      [(0, true), (1, true), (2, true), (3, true), (4, true), (5, true), (6, true), (7, true), (8, true), (9, false)] (by kernel_rfl) (by kernel_rfl) (by kernel_rfl) (fun _ _ _ _ _ h => h) ⟨cell_later (hB0 _).drew hkx, cell_later (hB0 _).drew hky, (hB0 _).drew⟩ ?_
    intro HS
    have hB := HS.2.2
    have hr2 := HS.1
    have hr3 := HS.2.1
    clear hkx hky
    repeat (first | (apply wpPlan_look; rfl; rfl; (intro wq hq; (try dsimp only at hq); go_split_ands; go_simp; (try rw [if_neg (by omega)]); (try rw [if_pos (by omega)]); try with_reducible rfl); simp only [Act.put, List.setIfInBounds_toArray, List.set_cons_zero, List.set_cons_succ]) | (apply wpPlan_skip; rfl; rfl; simp only [Act.put, List.setIfInBounds_toArray, List.set_cons_zero, List.set_cons_succ]) | (apply wpPlan_pass; rfl; rfl; assumption; simp only [Act.put, List.setIfInBounds_toArray, List.set_cons_zero, List.set_cons_succ]))
    first
      | (apply wpPlan_call2; rfl; rfl; rfl; rfl; kernel_rfl; exact need_yes 23 p _; rfl; rintro e w' ⟨rfl, rfl⟩
         refine .inl ⟨_, rfl, HS, ?_⟩
         simp only [Act.put, List.setIfInBounds_toArray, List.set_cons_zero, List.set_cons_succ]
         apply wpPlan_done
         go_wp2
         go_ret
         exact CRuleRes.ok_ (by rw [H.out]; simp [needM]) rfl hB)
      | (apply wpPlan_call2; rfl; rfl; rfl; rfl; kernel_rfl; exact need_no 23 p _; rfl; rintro e w' ⟨rfl, rfl⟩
         refine .inr ⟨_, rfl, ?_⟩
         exact ⟨rfl, CRuleRes.bad (by simp [needM, H.out]) hB⟩)

set_option maxHeartbeats 1600000 in
theorem pair_any (cp : Value) (k kd n : Int) (s t u : ByteArray) (l c : Int) (x y : Ty) (hx : x.fits) (hy : y.fits) (g cap p : Nat) (w : World) (hkx : w.cell? ⟨g, 0, none⟩ = some (.string x.str)) (hky : w.cell? ⟨g, 1, none⟩ = some (.string y.str)) :
    Calls Tryz.prog 75 #[cp, (Nd.mk k kd n s t u l c).val, .slice (some ⟨g, 0, none⟩) 2 cap, .int .i64 p] w (CRuleRes (madeM (.pair x y)) p w) := by
  unfold Nd.val Nd.cells
  have hB0 : ∀ o, Below w.heap.size w (w.alloc o) := fun o => (Below.refl _ _).alloc (Nat.le_refl _) o
  have hs := str_size_le hx
  have hs2 := str_size_le hy
  have hl := str_pair x y
  go_enter Tryz.func75, Tryz.ntmps75
  go_wp2_with fail
  refine wp_region_plan (S := fun w' => w'.cell? ⟨g, 0, none⟩ = some (.string x.str) ∧ w'.cell? ⟨g, 1, none⟩ = some (.string y.str) ∧ Below w.heap.size w w')
    [(0, true), (1, true), (2, true), (3, true), (4, true), (5, true), (6, true), (7, true), (8, true), (9, true), (10, false), (11, true)] (by kernel_rfl) (by kernel_rfl) (by kernel_rfl) (fun _ _ _ _ _ h => h) ⟨cell_later (hB0 _).drew hkx, cell_later (hB0 _).drew hky, (hB0 _).drew⟩ ?_
  intro HS
  repeat (first | (apply wpPlan_look; rfl; rfl; (intro wq hq; (try dsimp only at hq); go_split_ands; go_simp; (try rw [if_neg (by omega)]); (try rw [if_pos (by omega)]); try with_reducible rfl); simp only [Act.put, List.setIfInBounds_toArray, List.set_cons_zero, List.set_cons_succ]) | (apply wpPlan_skip; rfl; rfl; simp only [Act.put, List.setIfInBounds_toArray, List.set_cons_zero, List.set_cons_succ]) | (apply wpPlan_pass; rfl; rfl; assumption; simp only [Act.put, List.setIfInBounds_toArray, List.set_cons_zero, List.set_cons_succ]))
  apply wpPlan_call2; rfl; rfl; rfl; rfl; kernel_rfl; exact made_any cp (.pair x y) p _; rfl
  cases hm : madeM (.pair x y) with
  | ok t0 =>
    rintro e w' ⟨hb, rfl⟩
    have hB := below_later hb HS.2.2
    refine .inl ⟨_, rfl, as_S ⟨cell_later hb HS.1, cell_later hb HS.2.1, hB⟩ ?_⟩
    clear hb HS
    intro HS
    simp only [Act.put, List.setIfInBounds_toArray, List.set_cons_zero, List.set_cons_succ]
    repeat (first | (apply wpPlan_look; rfl; rfl; (intro wq hq; (try dsimp only at hq); go_split_ands; go_simp; (try rw [if_neg (by omega)]); (try rw [if_pos (by omega)]); try with_reducible rfl); simp only [Act.put, List.setIfInBounds_toArray, List.set_cons_zero, List.set_cons_succ]) | (apply wpPlan_skip; rfl; rfl; simp only [Act.put, List.setIfInBounds_toArray, List.set_cons_zero, List.set_cons_succ]) | (apply wpPlan_pass; rfl; rfl; assumption; simp only [Act.put, List.setIfInBounds_toArray, List.set_cons_zero, List.set_cons_succ]))
    apply wpPlan_done
    go_wp2
    go_ret
    exact CRuleRes.ok_ hm rfl hB
  | error e0 =>
    rintro e w' ⟨hb, rfl⟩
    have hB := below_later hb HS.2.2
    refine .inr ⟨_, rfl, ?_⟩
    exact ⟨rfl, CRuleRes.bad rfl hB⟩
end Go.Proofs.YtdfadmhomjcmeaaGreatDoor

/- Walks of package core: the rules, kind by kind: choice, operations, lists. -/
namespace Go.Proofs.YtdfadmhomjcmeaaGreatDoor
set_option linter.unusedSimpArgs false
set_option linter.unusedVariables false
open Go.RowKit Culp

theorem bool_str : (Ty.bool.str.toList == [98]) = true := by rw [toL]; rfl
theorem str_bool {q : Ty} (h : q ≠ .bool) : (q.str.toList == [98]) = false := by
  rw [toL, str_list, beq_eq_false_iff_ne]
  intro e
  exact h (enc_inj e)

set_option maxHeartbeats 1600000 in
theorem choice_any (cp : Value) (k kd n : Int) (s t u : ByteArray) (l c : Int) (q x y : Ty) (g cap p : Nat) (w : World) (hk0 : w.cell? ⟨g, 0, none⟩ = some (.string q.str)) (hk1 : w.cell? ⟨g, 1, none⟩ = some (.string x.str)) (hk2 : w.cell? ⟨g, 2, none⟩ = some (.string y.str)) :
    Calls Tryz.prog 74 #[cp, (Nd.mk k kd n s t u l c).val, .slice (some ⟨g, 0, none⟩) 3 cap, .int .i64 p] w (CRuleRes (needM (q == .bool && x == y) 23 x) p w) := by
  unfold Nd.val Nd.cells
  have hB0 : ∀ o, Below w.heap.size w (w.alloc o) := fun o => (Below.refl _ _).alloc (Nat.le_refl _) o
  have he := str_eqv x y
  by_cases hq : q = .bool <;> by_cases h : x = y
  all_goals
    first
      | (have hb := str_bool hq)
      | (have hb := bool_str; rw [← hq] at hb)
    first
      | rw [decide_eq_true h] at he
      | rw [decide_eq_false h] at he
    have H := Lib.hid h
    have HQ := Lib.hid hq
    clear h hq
    go_enter Tryz.func74, Tryz.ntmps74
    go_wp2_with fail
    refine wp_region_plan (S := fun w' => w'.cell? ⟨g, 0, none⟩ = some (.string q.str) ∧ w'.cell? ⟨g, 1, none⟩ = some (.string x.str) ∧ w'.cell? ⟨g, 2, none⟩ = some (.string y.str) ∧ Below w.heap.size w w')
      [(0, true), (1, true), (2, true), (3, true), (4, true), (5, true), (6, true), (7, true), (8, true), (9, true), (10, true), (11, true), (12, true), (13, true), (14, false)] (by kernel_rfl) (by kernel_rfl) (by kernel_rfl) (fun _ _ _ _ _ h => h) ⟨cell_later (hB0 _).drew hk0, cell_later (hB0 _).drew hk1, cell_later (hB0 _).drew hk2, (hB0 _).drew⟩ ?_
    intro HS
    have hB := HS.2.2.2
    have hr1 := HS.2.1
    clear hk0 hk1 hk2
    repeat (first | (apply wpPlan_look; rfl; rfl; (intro wq hq; (try dsimp only at hq); go_split_ands; go_simp; (try rw [if_neg (by omega)]); (try rw [if_pos (by omega)]); try with_reducible rfl); simp only [Act.put, List.setIfInBounds_toArray, List.set_cons_zero, List.set_cons_succ]) | (apply wpPlan_skip; rfl; rfl; simp only [Act.put, List.setIfInBounds_toArray, List.set_cons_zero, List.set_cons_succ]) | (apply wpPlan_pass; rfl; rfl; assumption; simp only [Act.put, List.setIfInBounds_toArray, List.set_cons_zero, List.set_cons_succ]))
    first
      | (apply wpPlan_call2; rfl; rfl; rfl; rfl; kernel_rfl; exact need_yes 23 p _; rfl; rintro e w' ⟨rfl, rfl⟩
         refine .inl ⟨_, rfl, HS, ?_⟩
         simp only [Act.put, List.setIfInBounds_toArray, List.set_cons_zero, List.set_cons_succ]
         apply wpPlan_done
         go_wp2
         go_ret
         exact CRuleRes.ok_ (by simp [needM, H.out, HQ.out]) rfl hB)
      | (apply wpPlan_call2; rfl; rfl; rfl; rfl; kernel_rfl; exact need_no 23 p _; rfl; rintro e w' ⟨rfl, rfl⟩
         refine .inr ⟨_, rfl, ?_⟩
         exact ⟨rfl, CRuleRes.bad (by simp [needM, H.out, HQ.out]) hB⟩)

theorem all_split (kid : Ty) : ∀ (ks : List Ty) (j : Nat), ((ks.drop j).all (· == kid)) = (match ks[j]? with | none => true | some q => (q == kid) && ((ks.drop (j + 1)).all (· == kid)))
  | [], j => by simp
  | k :: ks, 0 => by simp
  | k :: ks, j + 1 => by simpa using all_split kid ks j

/- 'all': every kid is of one type; the two types lie in variables of their own. -/
set_option maxHeartbeats 1600000 in
theorem all1_any (cp : Value) (k kd n : Int) (s t u : ByteArray) (l c : Int) (kid to : Ty) (ks : List Ty) (kv : Value) (a b p : Nat) (w : World) (hks : Tys w kv ks) (hlen : ks.length ≤ 100000)
    (ha : w.cell? ⟨a, 0, none⟩ = some (.string kid.str)) (hb : w.cell? ⟨b, 0, none⟩ = some (.string to.str)) :
    Calls Tryz.prog 124 #[cp, (Nd.mk k kd n s t u l c).val, kv, .int .i64 p, .pointer (some ⟨a, 0, none⟩), .pointer (some ⟨b, 0, none⟩)] w (CRuleRes (needM (ks.all (· == kid)) 23 to) p w) := by
  unfold Nd.val Nd.cells
  have hB0 : ∀ o, Below w.heap.size w (w.alloc o) := fun o => (Below.refl _ _).alloc (Nat.le_refl _) o
  have hform : ∃ A cap, kv = .slice A ks.length cap ∧ (0 < ks.length → ∃ g, A = some ⟨g, 0, none⟩ ∧ ∀ i (h : i < ks.length), w.cell? ⟨g, i, none⟩ = some (.string (ks[i]).str)) := by
    rcases hks with ⟨rfl, rfl⟩ | ⟨g, cap, rfl, hc⟩
    · exact ⟨none, 0, rfl, fun h => by simp at h⟩
    · exact ⟨_, cap, rfl, fun _ => ⟨g, rfl, hc⟩⟩
  obtain ⟨A, cap, rfl, hc⟩ := hform
  have HC := Lib.hid hc
  have ha2 : ∀ o, (w.alloc o).cell? ⟨a, 0, none⟩ = some (.string kid.str) := fun o => cell_later (hB0 o) ha
  have hb2 : ∀ o, (w.alloc o).cell? ⟨b, 0, none⟩ = some (.string to.str) := fun o => cell_later (hB0 o) hb
  clear hc hks
  go_enter Tryz.func124, Tryz.ntmps124
  go_wp2_with fail
  go_loopw [15] (fun i wr => ∃ j : Nat, j ≤ ks.length ∧ i = .int .i64 j ∧ Hid (ks.all (· == kid) = (ks.drop j).all (· == kid)) ∧ wr = w.alloc (.cells #[.int .i8 k, .int .i64 kd, .int .i64 n, .string s, .string t, .string u, .int .i64 l, .int .i64 c] 38)) (fun i _ => ks.length - (intOf i).toNat)
  case atStart => exact ⟨0, by omega, rfl, rfl, rfl⟩
  case round =>
    obtain ⟨j, hj, rfl, H, rfl⟩ := hrel
    by_cases hlt : j < ks.length
    · obtain ⟨g, rfl, hg⟩ := HC.out (by omega)
      have hq := hg j hlt
      have hq2 : ∀ o, (w.alloc o).cell? ⟨g, j, none⟩ = some (.string (ks[j]).str) := fun o => cell_later (hB0 o) hq
      have hs := all_split kid ks j
      rw [List.getElem?_eq_getElem hlt] at hs
      simp only at hs
      generalize ks[j] = q at hq hq2 hs
      have he := str_eqv q kid
      by_cases h : q = kid
      · rw [decide_eq_true h] at he
        have X : Hid (ks.all (· == kid) = (ks.drop (j + 1)).all (· == kid)) := by rw [Hid, H.out, hs, h]; simp
        clear hs h H hg hq
        go_wp2_with (first | (go_at_call 31; (with_reducible refine (need_yes _ _ _).mono ?_); rintro e w' ⟨rfl, rfl⟩) | (go_at_call 31; (with_reducible refine (need_no _ _ _).mono ?_); rintro e w' ⟨rfl, rfl⟩))
        go_roundw
        case rel => exact ⟨j + 1, by omega, by go_num, X, trivial⟩
        case measure => simp [intOf]; omega
      · rw [decide_eq_false h] at he
        have X : Hid (ks.all (· == kid) = false) := by rw [Hid, H.out, hs, beq_eq_false_iff_ne.2 h]; rfl
        clear hs h H hg hq
        go_wp2_with (first | (go_at_call 31; (with_reducible refine (need_yes _ _ _).mono ?_); rintro e w' ⟨rfl, rfl⟩) | (go_at_call 31; (with_reducible refine (need_no _ _ _).mono ?_); rintro e w' ⟨rfl, rfl⟩))
        exact ⟨rfl, CRuleRes.bad (by rw [X.out]; rfl) (hB0 _)⟩
    · have X : Hid (ks.all (· == kid) = true) := by rw [Hid, H.out, List.drop_eq_nil_of_le (by omega)]; rfl
      clear H
      go_wp2_with fail
      go_ret
      exact CRuleRes.ok_ (by rw [X.out]; rfl) rfl (hB0 _)

set_option maxHeartbeats 400000 in
theorem all_any (x y : Ty) (w : World) : Calls Tryz.prog 70 #[.string x.str, .string y.str] w fun e w' =>
    e = .returned (.func (.func 124) #[] #[.pointer (some ⟨w.heap.size, 0, none⟩), .pointer (some ⟨w.heap.size + 1, 0, none⟩)]) ∧
      w'.cell? ⟨w.heap.size, 0, none⟩ = some (.string x.str) ∧ w'.cell? ⟨w.heap.size + 1, 0, none⟩ = some (.string y.str) ∧ Below w.heap.size w w' := by
  have hmf : ∀ (fn : Fn) (first cap : Array Value) (w : World), (Instr.makeFunc fn first cap).run Tryz.prog w = .ok (.func fn first cap) w := fun _ _ _ _ => rfl
  go_enter Tryz.func70, Tryz.ntmps70
  go_wp2
  go_ret
  exact ⟨rfl, by go_simp, by go_simp, ((Below.refl _ _).alloc (Nat.le_refl _) _).alloc (by simp) _⟩

set_option maxHeartbeats 1600000 in
theorem list_any (cp : Value) (k kd n : Int) (s u : ByteArray) (l c : Int) (a : Ty) (haf : a.fits) (ks : List Ty) (kv : Value) (p : Nat) (w : World) (hks : Tys w kv ks) (hlen : ks.length ≤ 100000) :
    Calls Tryz.prog 77 #[cp, (Nd.mk k kd n s a.str u l c).val, kv, .int .i64 p] w (CRuleRes (if ks.all (· == a) then madeM (.list a) else .error 23) p w) := by
  have HA := Lib.hid (fun (kv : Value) (w : World) (x y : Nat) => all1_any cp k kd n s a.str u l c a a ks kv x y p w)
  unfold Nd.val Nd.cells at *
  have hB0 : ∀ o, Below w.heap.size w (w.alloc o) := fun o => (Below.refl _ _).alloc (Nat.le_refl _) o
  have hs := str_size_le haf
  have hl := str_list1 a
  go_enter Tryz.func77, Tryz.ntmps77
  go_wp2_with fail
  generalize hw0 : w.alloc _ = w0
  have hB : Below w.heap.size w w0 := by rw [← hw0]; exact hB0 _
  have ht : Tys w0 kv ks := hks.later hB
  have h4 : w0.cell? ⟨w.heap.size, 4, none⟩ = some (.string a.str) := by rw [← hw0, World.cell?_alloc_at _ _ _ _ rfl]; rfl
  have h0 : w0.cell? ⟨w.heap.size, 0, none⟩ = some (.int .i8 k) := by rw [← hw0, World.cell?_alloc_at _ _ _ _ rfl]; rfl
  have h1 : w0.cell? ⟨w.heap.size, 1, none⟩ = some (.int .i64 kd) := by rw [← hw0, World.cell?_alloc_at _ _ _ _ rfl]; rfl
  have h2 : w0.cell? ⟨w.heap.size, 2, none⟩ = some (.int .i64 n) := by rw [← hw0, World.cell?_alloc_at _ _ _ _ rfl]; rfl
  have h3 : w0.cell? ⟨w.heap.size, 3, none⟩ = some (.string s) := by rw [← hw0, World.cell?_alloc_at _ _ _ _ rfl]; rfl
  have h5 : w0.cell? ⟨w.heap.size, 5, none⟩ = some (.string u) := by rw [← hw0, World.cell?_alloc_at _ _ _ _ rfl]; rfl
  have h6 : w0.cell? ⟨w.heap.size, 6, none⟩ = some (.int .i64 l) := by rw [← hw0, World.cell?_alloc_at _ _ _ _ rfl]; rfl
  have h7 : w0.cell? ⟨w.heap.size, 7, none⟩ = some (.int .i64 c) := by rw [← hw0, World.cell?_alloc_at _ _ _ _ rfl]; rfl
  clear hw0 hks hB0
  have HT := Lib.hid ht
  clear ht
  refine wp_region_plan (S := fun w' => (w'.cell? ⟨w.heap.size, 0, none⟩ = some (.int .i8 k) ∧ w'.cell? ⟨w.heap.size, 1, none⟩ = some (.int .i64 kd) ∧ w'.cell? ⟨w.heap.size, 2, none⟩ = some (.int .i64 n) ∧ w'.cell? ⟨w.heap.size, 3, none⟩ = some (.string s) ∧ w'.cell? ⟨w.heap.size, 4, none⟩ = some (.string a.str) ∧ w'.cell? ⟨w.heap.size, 5, none⟩ = some (.string u) ∧ w'.cell? ⟨w.heap.size, 6, none⟩ = some (.int .i64 l) ∧ w'.cell? ⟨w.heap.size, 7, none⟩ = some (.int .i64 c)) ∧ Below w0.heap.size w0 w')
    [(0, true), (1, true), (2, true), (3, true), (4, true), (6, true), (7, true), (8, true), (9, true), (12, true), (5, false), (10, false), (11, true), (13, false), (14, true)] (by kernel_rfl) (by kernel_rfl) (by kernel_rfl) (fun _ _ _ _ _ h => h) ⟨⟨h0, h1, h2, h3, h4, h5, h6, h7⟩, (Below.refl _ _).drew⟩ ?_
  intro HS
  repeat (first | (apply wpPlan_look; rfl; rfl; (intro wq hq; (try dsimp only at hq); go_split_ands; go_simp; (try rw [if_neg (by omega)]); (try rw [if_pos (by omega)]); try with_reducible rfl); simp only [Act.put, List.setIfInBounds_toArray, List.set_cons_zero, List.set_cons_succ]) | (apply wpPlan_skip; rfl; rfl; simp only [Act.put, List.setIfInBounds_toArray, List.set_cons_zero, List.set_cons_succ]) | (apply wpPlan_pass; rfl; rfl; assumption; simp only [Act.put, List.setIfInBounds_toArray, List.set_cons_zero, List.set_cons_succ]))
  apply wpPlan_call; rfl; rfl; rfl; rfl; kernel_rfl; exact all_any a a _; rfl; rintro e w3 ⟨rfl, ka, kb, hb3⟩
  obtain ⟨⟨q0, q1, q2, q3, q4, q5, q6, q7⟩, qb⟩ := HS
  have hB3 := below_later hb3 qb
  refine ⟨_, rfl, as_S ⟨⟨cell_later hb3 q0, cell_later hb3 q1, cell_later hb3 q2, cell_later hb3 q3, cell_later hb3 q4, cell_later hb3 q5, cell_later hb3 q6, cell_later hb3 q7⟩, hB3⟩ ?_⟩
  clear q0 q1 q2 q3 q4 q5 q6 q7 qb hb3
  intro HS
  simp only [Act.put, List.setIfInBounds_toArray, List.set_cons_zero, List.set_cons_succ]
  repeat (first | (apply wpPlan_look; rfl; rfl; (intro wq hq; (try dsimp only at hq); go_split_ands; go_simp; (try rw [if_neg (by omega)]); (try rw [if_pos (by omega)]); try with_reducible rfl); simp only [Act.put, List.setIfInBounds_toArray, List.set_cons_zero, List.set_cons_succ]) | (apply wpPlan_skip; rfl; rfl; simp only [Act.put, List.setIfInBounds_toArray, List.set_cons_zero, List.set_cons_succ]) | (apply wpPlan_pass; rfl; rfl; assumption; simp only [Act.put, List.setIfInBounds_toArray, List.set_cons_zero, List.set_cons_succ]))
  apply wpPlan_call2; rfl; rfl; rfl; rfl; kernel_rfl; exact HA.out kv w3 _ _ (HT.out.later hB3) hlen ka kb; rfl
  cases hal : ks.all (· == a) with
  | false =>
    rintro e w4 ⟨hb4, he4⟩
    simp only [needM] at he4
    refine .inr ⟨_, he4, ?_⟩
    exact ⟨rfl, CRuleRes.bad (by simp [hal]) (below_later hb4 (below_later hB3 hB))⟩
  | true =>
    rintro e w4 ⟨hb4, he4⟩
    simp only [needM, if_true] at he4
    obtain ⟨⟨q0, q1, q2, q3, q4, q5, q6, q7⟩, qb⟩ := HS
    have hB4 := below_later hb4 qb
    refine .inl ⟨_, he4, as_S ⟨⟨cell_later hb4 q0, cell_later hb4 q1, cell_later hb4 q2, cell_later hb4 q3, cell_later hb4 q4, cell_later hb4 q5, cell_later hb4 q6, cell_later hb4 q7⟩, hB4⟩ ?_⟩
    clear q0 q1 q2 q3 q4 q5 q6 q7 qb hb4 he4
    intro HS
    simp only [Act.put, List.setIfInBounds_toArray, List.set_cons_zero, List.set_cons_succ]
    repeat (first | (apply wpPlan_look; rfl; rfl; (intro wq hq; (try dsimp only at hq); go_split_ands; go_simp; (try rw [if_neg (by omega)]); (try rw [if_pos (by omega)]); try with_reducible rfl); simp only [Act.put, List.setIfInBounds_toArray, List.set_cons_zero, List.set_cons_succ]) | (apply wpPlan_skip; rfl; rfl; simp only [Act.put, List.setIfInBounds_toArray, List.set_cons_zero, List.set_cons_succ]) | (apply wpPlan_pass; rfl; rfl; assumption; simp only [Act.put, List.setIfInBounds_toArray, List.set_cons_zero, List.set_cons_succ]))
    apply wpPlan_call2; rfl; rfl; rfl; rfl; kernel_rfl; exact made_any cp (.list a) p _; rfl
    cases hm : madeM (.list a) with
    | ok t0 =>
      rintro e w5 ⟨hb5, rfl⟩
      obtain ⟨⟨q0, q1, q2, q3, q4, q5, q6, q7⟩, qb⟩ := HS
      have hB5 := below_later hb5 qb
      refine .inl ⟨_, rfl, as_S ⟨⟨cell_later hb5 q0, cell_later hb5 q1, cell_later hb5 q2, cell_later hb5 q3, cell_later hb5 q4, cell_later hb5 q5, cell_later hb5 q6, cell_later hb5 q7⟩, hB5⟩ ?_⟩
      clear q0 q1 q2 q3 q4 q5 q6 q7 qb hb5
      intro HS
      simp only [Act.put, List.setIfInBounds_toArray, List.set_cons_zero, List.set_cons_succ]
      repeat (first | (apply wpPlan_look; rfl; rfl; (intro wq hq; (try dsimp only at hq); go_split_ands; go_simp; (try rw [if_neg (by omega)]); (try rw [if_pos (by omega)]); try with_reducible rfl); simp only [Act.put, List.setIfInBounds_toArray, List.set_cons_zero, List.set_cons_succ]) | (apply wpPlan_skip; rfl; rfl; simp only [Act.put, List.setIfInBounds_toArray, List.set_cons_zero, List.set_cons_succ]) | (apply wpPlan_pass; rfl; rfl; assumption; simp only [Act.put, List.setIfInBounds_toArray, List.set_cons_zero, List.set_cons_succ]))
      apply wpPlan_done
      go_wp2
      go_ret
      exact CRuleRes.ok_ (by simp [hal, hm]) rfl (below_later hB5 hB)
    | error e0 =>
      rintro e w5 ⟨hb5, rfl⟩
      refine .inr ⟨_, rfl, ?_⟩
      exact ⟨rfl, CRuleRes.bad (by simp [hal, hm]) (below_later hb5 (below_later hB4 hB))⟩
end Go.Proofs.YtdfadmhomjcmeaaGreatDoor

/- Walks of package core: leaves, and the table of rules. -/
namespace Go.Proofs.YtdfadmhomjcmeaaGreatDoor
set_option linter.unusedSimpArgs false
set_option linter.unusedVariables false
open Go.RowKit Culp

/-- The words of the leaves. -/
def leafTable : List (Int × Value) := [(1, .string Ty.int.str), (2, .string Ty.text.str), (3, .string Ty.bool.str)]

set_option maxHeartbeats 800000 in
theorem leaf_any (cp : Value) (k kd n : Int) (s t u : ByteArray) (l c : Int) (kv : Value) (p : Nat) (ty : Ty) (hty : leafTable.lookup k = some (.string ty.str)) (w : World) :
    Calls Tryz.prog 71 #[cp, (Nd.mk k kd n s t u l c).val, kv, .int .i64 p] w (CRuleRes (.ok ty) p w) := by
  unfold Nd.val Nd.cells
  have hB0 : ∀ o, Below w.heap.size w (w.alloc o) := fun o => (Below.refl _ _).alloc (Nat.le_refl _) o
  have HT := Lib.hid hty
  clear hty
  have hk0 : ∀ (c : Array Value) (e : TypeId), MapAt ((w.alloc (.cells c e)).alloc (.map #[] 0)) .i8 (w.heap.size + 1) [] ∧ Below w.heap.size w ((w.alloc (.cells c e)).alloc (.map #[] 0)) := fun c e => by
    have := MapAt.made (w.alloc (.cells c e)) .i8
    simp only [World.size_alloc] at this
    exact ⟨this, (hB0 _).alloc (by simp) _⟩
  have hq0 : ∀ (x2 x3 x4 x5 x6 x7 x8 : Value) (e : TypeId), ((w.alloc (.cells #[.int .i8 k, x2, x3, x4, x5, x6, x7, x8] e)).alloc (.map #[] 0)).cell? ⟨w.heap.size, 0, none⟩ = some (.int .i8 k) := fun _ _ _ _ _ _ _ _ => by go_simp
  have hmm := @run_makeMap Tryz.prog
  go_enter Tryz.func71, Tryz.ntmps71
  go_wp2_with (first
    | (refine wpList_insert_new _ rfl _ _ _ 188 rfl 34 9 .i8 Tryz.underlying188 Tryz.underlying34 w.heap.size w (w.heap.size + 1) _ rfl _ _ rfl rfl (by first | exact hk0 _ _ | assumption) (by omega) rfl ?_
       intro w1 hk1 hb1 _
       have hq1 : w1.cell? ⟨w.heap.size, 0, none⟩ = some (.int .i8 k) := (hb1.cell (p := ⟨w.heap.size, 0, none⟩) (by simp)).trans (by first | exact hq0 _ _ _ _ _ _ _ _ | assumption)
       clear hb1)
    | (at_lookup; (refine wpList_lookup_there _ rfl _ _ 188 rfl 34 9 .i8 Tryz.underlying188 Tryz.underlying34 (w.heap.size + 1) leafTable rfl _ _ rfl hk1.1 HT.out ?_)))
  go_ret
  exact CRuleRes.ok_ rfl rfl hk1.2

/-- A function that asks each kid to be of one type, and answers another. -/
def OpsFn (kid to : Ty) (v : Value) (w : World) : Prop := ∃ a b, v = .func (.func 124) #[] #[.pointer (some ⟨a, 0, none⟩), .pointer (some ⟨b, 0, none⟩)] ∧ w.cell? ⟨a, 0, none⟩ = some (.string kid.str) ∧ w.cell? ⟨b, 0, none⟩ = some (.string to.str)
theorem OpsFn.later {kid to : Ty} {v : Value} {w w' : World} (h : OpsFn kid to v w) (hb : Below w.heap.size w w') : OpsFn kid to v w' := by
  obtain ⟨a, b, rfl, h1, h2⟩ := h
  exact ⟨a, b, rfl, cell_later hb h1, cell_later hb h2⟩
theorem OpsFn.of {kid to : Ty} {a b : Nat} {w : World} (h1 : w.cell? ⟨a, 0, none⟩ = some (.string kid.str)) (h2 : w.cell? ⟨b, 0, none⟩ = some (.string to.str)) : OpsFn kid to (.func (.func 124) #[] #[.pointer (some ⟨a, 0, none⟩), .pointer (some ⟨b, 0, none⟩)]) w := ⟨a, b, rfl, h1, h2⟩

/-- Its two cells. -/
def OpsAt (a b : Nat) (kid to : Ty) (w : World) : Prop := w.cell? ⟨a, 0, none⟩ = some (.string kid.str) ∧ w.cell? ⟨b, 0, none⟩ = some (.string to.str)
theorem OpsAt.other {a b r : Nat} {kid to : Ty} {w w' : World} (h : OpsAt a b kid to w) (ho : ∀ i, i ≠ r → w'.heap[i]? = w.heap[i]?) (ha : a ≠ r) (hb : b ≠ r) : OpsAt a b kid to w' :=
  ⟨by rw [World.cell?_of_block (w := w) (ho a ha)]; exact h.1, by rw [World.cell?_of_block (w := w) (ho b hb)]; exact h.2⟩

/-- The table of rules. -/
def ruleTable (v1 v2 v3 v4 : Value) : List (Int × Value) :=
  let f (n : Nat) : Value := .func (.func n) #[] #[]
  [(1, f 71), (2, f 71), (3, f 71), (30, f 72), (7, f 73), (9, f 74),
   (10, v1), (11, v1), (12, v1), (16, v1), (14, v2), (15, v2), (13, v3), (17, v4), (18, f 75), (19, f 76), (20, f 76), (21, f 77),
   (22, f 78), (23, f 78), (24, f 78), (25, f 79), (26, f 80), (27, f 81), (28, f 82)]
/-- A block holds the rules. -/
def Rules (r : Nat) (w : World) : Prop := ∃ v1 v2 v3 v4, MapAt w .i8 r (ruleTable v1 v2 v3 v4) ∧ OpsFn .int .int v1 w ∧ OpsFn .int .bool v2 w ∧ OpsFn .text .text v3 w ∧ OpsFn .text .int v4 w
def RulesRes (w : World) (e : Ending) (w' : World) : Prop := ∃ r, e = .returned (.map (some r)) ∧ w.heap.size ≤ r ∧ Rules r w' ∧ Below w.heap.size w w'

set_option maxHeartbeats 3200000 in
theorem rules_any (w : World) : Calls Tryz.prog 29 #[] w (RulesRes w) := by
  have hmm := @run_makeMap Tryz.prog
  go_enter Tryz.func29, Tryz.ntmps29
  go_wp2_with fail
  refine (all_any .int .int _).mono ?_
  rintro e w1 ⟨rfl, ka, kb, hb1⟩
  have o1 := OpsFn.of ka kb
  clear ka kb
  go_wp2_with fail
  refine (all_any .int .bool _).mono ?_
  rintro e w2 ⟨rfl, ka, kb, hb2⟩
  have o2 := OpsFn.of ka kb
  replace o1 := o1.later hb2
  have hB2 := below_later hb2 hb1
  clear ka kb hb1 hb2
  go_wp2_with fail
  refine (all_any .text .text _).mono ?_
  rintro e w3 ⟨rfl, ka, kb, hb3⟩
  have o3 := OpsFn.of ka kb
  replace o1 := o1.later hb3
  replace o2 := o2.later hb3
  have hB3 := below_later hb3 hB2
  clear ka kb hb3 hB2
  have o1' := Lib.hid o1; have o2' := Lib.hid o2; have o3' := Lib.hid o3; have hB3' := Lib.hid hB3
  clear o1 o2 o3 hB3
  have hk1 : MapAt (w3.alloc (.map #[] 0)) .i8 w3.heap.size [] ∧ Below w3.heap.size w3 (w3.alloc (.map #[] 0)) := ⟨MapAt.made w3 .i8, (Below.refl _ _).alloc (by simp) _⟩
  go_wp2_with (refine wpList_insert_new _ rfl _ _ _ 94 rfl 34 125 .i8 Tryz.underlying94 Tryz.underlying34 w3.heap.size w3 w3.heap.size _ rfl _ _ rfl rfl hk1 (by omega) rfl ?_; intro w4 hk2 hb4 _; clear hb4; replace hk1 := hk2; clear hk2; simp [go_sem] at hk1)
  refine (all_any .text .int _).mono ?_
  rintro e w5 ⟨rfl, ka, kb, hb5⟩
  have o4 : OpsAt _ _ .text .int w5 := ⟨ka, kb⟩
  have hr4 : w4.heap.size ≠ w3.heap.size := by have := hk1.1.lt; omega
  have hr5 : w4.heap.size + 1 ≠ w3.heap.size := by have := hk1.1.lt; omega
  have hk5 := hk1.1.later hb5 hk1.1.lt
  have hB5 := below_later hb5 hk1.2
  have hk7 : MapAt w5 .i8 w3.heap.size _ ∧ Below w3.heap.size w3 w5 := ⟨hk5, hB5⟩
  clear hk1 hk5 hB5 hb5 ka kb
  have hk1 := hk7
  clear hk7
  go_wp2_with (refine wpList_insert_new _ rfl _ _ _ 94 rfl 34 125 .i8 Tryz.underlying94 Tryz.underlying34 w3.heap.size w3 w3.heap.size _ rfl _ _ rfl rfl hk1 (by omega) rfl ?_; intro w6 hk2 hb6 ho6; clear hb6; replace o4 := o4.other ho6 hr4 hr5; clear ho6; replace hk1 := hk2; clear hk2; simp [go_sem] at hk1)
  go_ret
  have hB6 := hk1.2
  exact ⟨_, rfl, hB3'.out.size, ⟨_, _, _, _, hk1.1, o1'.out.later hB6, o2'.out.later hB6, o3'.out.later hB6, OpsFn.of o4.1 o4.2⟩, below_later hB6 hB3'.out⟩
end Go.Proofs.YtdfadmhomjcmeaaGreatDoor

/- Package core: the rule that the table holds for a kind, called. -/
namespace Go.Proofs.YtdfadmhomjcmeaaGreatDoor
set_option linter.unusedSimpArgs false
set_option linter.unusedVariables false
open Go.RowKit Culp

/-- A rule out of the table, called on a node and its kids' types. -/
def RuleFn (fv cp : Value) (x : Nd) (kv : Value) (p : Nat) (w : World) (R : Ending → World → Prop) : Prop :=
  ∃ (f : FuncId) (caps : List Value), fv = .func (.func f) #[] caps.toArray ∧ bodied Tryz.prog f = true ∧ Calls Tryz.prog f ([cp, x.val, kv, .int .i64 p] ++ caps).toArray w R

theorem tys_one {w : World} {kv : Value} {a : Ty} (h : Tys w kv [a]) : ∃ g cap, kv = .slice (some ⟨g, 0, none⟩) 1 cap ∧ w.cell? ⟨g, 0, none⟩ = some (.string a.str) := by
  rcases h with ⟨h, _⟩ | ⟨g, c, rfl, hc⟩
  · cases h
  · exact ⟨g, c, rfl, hc 0 (by simp)⟩
theorem tys_two {w : World} {kv : Value} {a b : Ty} (h : Tys w kv [a, b]) : ∃ g cap, kv = .slice (some ⟨g, 0, none⟩) 2 cap ∧ w.cell? ⟨g, 0, none⟩ = some (.string a.str) ∧ w.cell? ⟨g, 1, none⟩ = some (.string b.str) := by
  rcases h with ⟨h, _⟩ | ⟨g, c, rfl, hc⟩
  · cases h
  · exact ⟨g, c, rfl, hc 0 (by simp), hc 1 (by simp)⟩
theorem tys_three {w : World} {kv : Value} {a b d : Ty} (h : Tys w kv [a, b, d]) : ∃ g cap, kv = .slice (some ⟨g, 0, none⟩) 3 cap ∧ w.cell? ⟨g, 0, none⟩ = some (.string a.str) ∧ w.cell? ⟨g, 1, none⟩ = some (.string b.str) ∧ w.cell? ⟨g, 2, none⟩ = some (.string d.str) := by
  rcases h with ⟨h, _⟩ | ⟨g, c, rfl, hc⟩
  · cases h
  · exact ⟨g, c, rfl, hc 0 (by simp), hc 1 (by simp), hc 2 (by simp)⟩
theorem tyOf_good {s : ByteArray} {a : Ty} (h : tyOf s = some a) : s = a.str ∧ a.fits := by
  cases hi : isTy s.data.toList with
  | false => rw [tyOf_none hi] at h; cases h
  | true =>
    obtain ⟨t, rfl, ht⟩ := ty_of s hi
    rw [tyOf_str t ht] at h
    cases h
    exact ⟨rfl, ht⟩

section
variable (cp : Value) (kd n : Int) (s t u : ByteArray) (l c : Int) (ks : List Ty) (kv : Value) (p : Nat) (w : World)

theorem rule_leaf (k : Int) (ty : Ty) (hty : leafTable.lookup k = some (.string ty.str)) (hr : ruleM ⟨k, kd, n, s, t, u, l, c⟩ ks = .ok ty) : RuleFn (.func (.func 71) #[] #[]) cp ⟨k, kd, n, s, t, u, l, c⟩ kv p w (CRuleRes (ruleM ⟨k, kd, n, s, t, u, l, c⟩ ks) p w) := by
  rw [hr]
  exact ⟨_, [], rfl, by kernel_rfl, leaf_any cp k kd n s t u l c kv p ty hty w⟩
theorem rule_cast (a b q : Ty) (hks : Tys w kv [q]) (ha : a.fits) (hb : b.fits) : RuleFn (.func (.func 72) #[] #[]) cp ⟨30, kd, n, s, a.str, b.str, l, c⟩ kv p w (CRuleRes (ruleM ⟨30, kd, n, s, a.str, b.str, l, c⟩ [q]) p w) := by
  obtain ⟨g, cap, rfl, hk⟩ := tys_one hks
  have hr : ruleM ⟨30, kd, n, s, a.str, b.str, l, c⟩ [q] = needM (q == a) 23 b := by simp [ruleM, tyOf_str a ha, tyOf_str b hb]
  rw [hr]
  exact ⟨_, [], rfl, by kernel_rfl, cast_any cp 30 kd n s a b q l c g cap p w hk⟩
theorem rule_call (q y : Ty) (hks : Tys w kv [q, y]) (hq : q.fits) : RuleFn (.func (.func 73) #[] #[]) cp ⟨7, kd, n, s, t, u, l, c⟩ kv p w (CRuleRes (ruleM ⟨7, kd, n, s, t, u, l, c⟩ [q, y]) p w) := by
  obtain ⟨g, cap, rfl, hk, hk1⟩ := tys_two hks
  refine ⟨_, [], rfl, by kernel_rfl, ?_⟩
  cases q
  case fn a b =>
    rw [show ruleM ⟨7, kd, n, s, t, u, l, c⟩ [Ty.fn a b, y] = needM (a == y) 23 b by simp [ruleM]]
    exact call_yes cp 7 kd n s t u l c a b y hq g cap p w hk hk1
  all_goals
    rw [show ruleM ⟨7, kd, n, s, t, u, l, c⟩ [_, y] = .error 23 by simp [ruleM]]
    exact call_no cp 7 kd n s t u l c _ hq rfl g 2 cap p (by omega) w hk
theorem rule_choice (q x y : Ty) (hks : Tys w kv [q, x, y]) : RuleFn (.func (.func 74) #[] #[]) cp ⟨9, kd, n, s, t, u, l, c⟩ kv p w (CRuleRes (ruleM ⟨9, kd, n, s, t, u, l, c⟩ [q, x, y]) p w) := by
  obtain ⟨g, cap, rfl, hk, hk1, hk2⟩ := tys_three hks
  rw [show ruleM ⟨9, kd, n, s, t, u, l, c⟩ [q, x, y] = needM (q == .bool && x == y) 23 x by simp [ruleM]]
  exact ⟨_, [], rfl, by kernel_rfl, choice_any cp 9 kd n s t u l c q x y g cap p w hk hk1 hk2⟩
theorem rule_ops (k : Int) (kid to : Ty) (v : Value) (ho : OpsFn kid to v w) (hks : Tys w kv ks) (hlen : ks.length ≤ 100000) (hr : ruleM ⟨k, kd, n, s, t, u, l, c⟩ ks = needM (ks.all (· == kid)) 23 to) :
    RuleFn v cp ⟨k, kd, n, s, t, u, l, c⟩ kv p w (CRuleRes (ruleM ⟨k, kd, n, s, t, u, l, c⟩ ks) p w) := by
  rw [hr]
  obtain ⟨a, b, rfl, ha, hb⟩ := ho
  exact ⟨_, [_, _], rfl, by kernel_rfl, all1_any cp k kd n s t u l c kid to ks kv a b p w hks hlen ha hb⟩
theorem rule_pair (x y : Ty) (hx : x.fits) (hy : y.fits) (hks : Tys w kv [x, y]) : RuleFn (.func (.func 75) #[] #[]) cp ⟨18, kd, n, s, t, u, l, c⟩ kv p w (CRuleRes (ruleM ⟨18, kd, n, s, t, u, l, c⟩ [x, y]) p w) := by
  obtain ⟨g, cap, rfl, hk, hk1⟩ := tys_two hks
  rw [show ruleM ⟨18, kd, n, s, t, u, l, c⟩ [x, y] = madeM (.pair x y) by simp [ruleM]]
  exact ⟨_, [], rfl, by kernel_rfl, pair_any cp 18 kd n s t u l c x y hx hy g cap p w hk hk1⟩
theorem rule_half_first (q : Ty) (hq : q.fits) (hks : Tys w kv [q]) : RuleFn (.func (.func 76) #[] #[]) cp ⟨19, kd, n, s, t, u, l, c⟩ kv p w (CRuleRes (ruleM ⟨19, kd, n, s, t, u, l, c⟩ [q]) p w) := by
  obtain ⟨g, cap, rfl, hk⟩ := tys_one hks
  refine ⟨_, [], rfl, by kernel_rfl, ?_⟩
  cases q
  case pair a b =>
    rw [show ruleM ⟨19, kd, n, s, t, u, l, c⟩ [Ty.pair a b] = .ok a by simp [ruleM]]
    exact half_first cp kd n s t u l c a b hq g cap p w hk
  all_goals
    rw [show ruleM ⟨19, kd, n, s, t, u, l, c⟩ [_] = .error 23 by simp [ruleM]]
    exact half_no cp 19 kd n s t u l c _ hq rfl g cap p w hk
theorem rule_half_second (q : Ty) (hq : q.fits) (hks : Tys w kv [q]) : RuleFn (.func (.func 76) #[] #[]) cp ⟨20, kd, n, s, t, u, l, c⟩ kv p w (CRuleRes (ruleM ⟨20, kd, n, s, t, u, l, c⟩ [q]) p w) := by
  obtain ⟨g, cap, rfl, hk⟩ := tys_one hks
  refine ⟨_, [], rfl, by kernel_rfl, ?_⟩
  cases q
  case pair a b =>
    rw [show ruleM ⟨20, kd, n, s, t, u, l, c⟩ [Ty.pair a b] = .ok b by simp [ruleM]]
    exact half_second cp kd n s t u l c a b hq g cap p w hk
  all_goals
    rw [show ruleM ⟨20, kd, n, s, t, u, l, c⟩ [_] = .error 23 by simp [ruleM]]
    exact half_no cp 20 kd n s t u l c _ hq rfl g cap p w hk
theorem rule_list (a : Ty) (ha : a.fits) (hks : Tys w kv ks) (hlen : ks.length ≤ 100000) : RuleFn (.func (.func 77) #[] #[]) cp ⟨21, kd, n, s, a.str, u, l, c⟩ kv p w (CRuleRes (ruleM ⟨21, kd, n, s, a.str, u, l, c⟩ ks) p w) := by
  rw [show ruleM ⟨21, kd, n, s, a.str, u, l, c⟩ ks = (if ks.all (· == a) then madeM (.list a) else .error 23) by simp [ruleM, tyOf_str a ha]]
  exact ⟨_, [], rfl, by kernel_rfl, list_any cp 21 kd n s u l c a ha ks kv p w hks hlen⟩
theorem rule_of_head (q : Ty) (hq : q.fits) (hks : Tys w kv [q]) : RuleFn (.func (.func 78) #[] #[]) cp ⟨22, kd, n, s, t, u, l, c⟩ kv p w (CRuleRes (ruleM ⟨22, kd, n, s, t, u, l, c⟩ [q]) p w) := by
  obtain ⟨g, cap, rfl, hk⟩ := tys_one hks
  refine ⟨_, [], rfl, by kernel_rfl, ?_⟩
  cases q
  case list a =>
    rw [show ruleM ⟨22, kd, n, s, t, u, l, c⟩ [Ty.list a] = .ok a by simp [ruleM]]
    exact of_head cp kd n s t u l c a hq g cap p w hk
  all_goals
    rw [show ruleM ⟨22, kd, n, s, t, u, l, c⟩ [_] = .error 23 by simp [ruleM]]
    exact of_no cp 22 kd n s t u l c _ hq rfl g cap p w hk
theorem rule_of_tail (q : Ty) (hq : q.fits) (hks : Tys w kv [q]) : RuleFn (.func (.func 78) #[] #[]) cp ⟨23, kd, n, s, t, u, l, c⟩ kv p w (CRuleRes (ruleM ⟨23, kd, n, s, t, u, l, c⟩ [q]) p w) := by
  obtain ⟨g, cap, rfl, hk⟩ := tys_one hks
  refine ⟨_, [], rfl, by kernel_rfl, ?_⟩
  cases q
  case list a =>
    rw [show ruleM ⟨23, kd, n, s, t, u, l, c⟩ [Ty.list a] = .ok (.list a) by simp [ruleM]]
    exact of_tail cp kd n s t u l c a hq g cap p w hk
  all_goals
    rw [show ruleM ⟨23, kd, n, s, t, u, l, c⟩ [_] = .error 23 by simp [ruleM]]
    exact of_no cp 23 kd n s t u l c _ hq rfl g cap p w hk
theorem rule_of_empty (q : Ty) (hq : q.fits) (hks : Tys w kv [q]) : RuleFn (.func (.func 78) #[] #[]) cp ⟨24, kd, n, s, t, u, l, c⟩ kv p w (CRuleRes (ruleM ⟨24, kd, n, s, t, u, l, c⟩ [q]) p w) := by
  obtain ⟨g, cap, rfl, hk⟩ := tys_one hks
  refine ⟨_, [], rfl, by kernel_rfl, ?_⟩
  cases q
  case list a =>
    rw [show ruleM ⟨24, kd, n, s, t, u, l, c⟩ [Ty.list a] = .ok .bool by simp [ruleM]]
    exact of_empty cp kd n s t u l c a hq g cap p w hk
  all_goals
    rw [show ruleM ⟨24, kd, n, s, t, u, l, c⟩ [_] = .error 23 by simp [ruleM]]
    exact of_no cp 24 kd n s t u l c _ hq rfl g cap p w hk
theorem rule_cons (y x : Ty) (hy : y.fits) (hks : Tys w kv [y, x]) : RuleFn (.func (.func 79) #[] #[]) cp ⟨25, kd, n, s, t, u, l, c⟩ kv p w (CRuleRes (ruleM ⟨25, kd, n, s, t, u, l, c⟩ [y, x]) p w) := by
  obtain ⟨g, cap, rfl, hk, hk1⟩ := tys_two hks
  rw [show ruleM ⟨25, kd, n, s, t, u, l, c⟩ [y, x] = needM (x == .list y) 23 x by simp [ruleM]]
  exact ⟨_, [], rfl, by kernel_rfl, cons_any cp 25 kd n s t u l c x y hy g cap p w hk1 hk⟩
theorem rule_box (q : Ty) (hq : q.fits) (hks : Tys w kv [q]) : RuleFn (.func (.func 80) #[] #[]) cp ⟨26, kd, n, s, t, u, l, c⟩ kv p w (CRuleRes (ruleM ⟨26, kd, n, s, t, u, l, c⟩ [q]) p w) := by
  obtain ⟨g, cap, rfl, hk⟩ := tys_one hks
  rw [show ruleM ⟨26, kd, n, s, t, u, l, c⟩ [q] = madeM (.box q) by simp [ruleM]]
  exact ⟨_, [], rfl, by kernel_rfl, box_any cp 26 kd n s t u l c q hq g cap p w hk⟩
theorem rule_get (q : Ty) (hq : q.fits) (hks : Tys w kv [q]) : RuleFn (.func (.func 81) #[] #[]) cp ⟨27, kd, n, s, t, u, l, c⟩ kv p w (CRuleRes (ruleM ⟨27, kd, n, s, t, u, l, c⟩ [q]) p w) := by
  obtain ⟨g, cap, rfl, hk⟩ := tys_one hks
  refine ⟨_, [], rfl, by kernel_rfl, ?_⟩
  cases q
  case box a =>
    rw [show ruleM ⟨27, kd, n, s, t, u, l, c⟩ [Ty.box a] = .ok a by simp [ruleM]]
    exact get_yes cp 27 kd n s t u l c a hq g cap p w hk
  all_goals
    rw [show ruleM ⟨27, kd, n, s, t, u, l, c⟩ [_] = .error 23 by simp [ruleM]]
    exact get_no cp 27 kd n s t u l c _ hq rfl g cap p w hk
theorem rule_set (x y : Ty) (hy : y.fits) (hks : Tys w kv [x, y]) : RuleFn (.func (.func 82) #[] #[]) cp ⟨28, kd, n, s, t, u, l, c⟩ kv p w (CRuleRes (ruleM ⟨28, kd, n, s, t, u, l, c⟩ [x, y]) p w) := by
  obtain ⟨g, cap, rfl, hk, hk1⟩ := tys_two hks
  rw [show ruleM ⟨28, kd, n, s, t, u, l, c⟩ [x, y] = needM (x == .box y) 23 y by simp [ruleM]]
  exact ⟨_, [], rfl, by kernel_rfl, set_any cp 28 kd n s t u l c x y hy g cap p w hk hk1⟩
end

theorem len1 {ks : List Ty} (h : (ks.length : Int) = 1) : ∃ a, ks = [a] := by
  match ks, h with
  | [a], _ => exact ⟨a, rfl⟩
  | [], h => simp at h
  | _ :: _ :: _, h => simp at h; omega
theorem len2 {ks : List Ty} (h : (ks.length : Int) = 2) : ∃ a b, ks = [a, b] := by
  match ks, h with
  | [a, b], _ => exact ⟨a, b, rfl⟩
  | [], h => simp at h
  | [_], h => simp at h
  | _ :: _ :: _ :: _, h => simp at h; omega
theorem len3 {ks : List Ty} (h : (ks.length : Int) = 3) : ∃ a b d, ks = [a, b, d] := by
  match ks, h with
  | [a, b, d], _ => exact ⟨a, b, d, rfl⟩
  | [], h => simp at h
  | [_], h => simp at h
  | [_, _], h => simp at h
  | _ :: _ :: _ :: _ :: _, h => simp at h; omega

/-- Every kind but a variable, a binder. -/
theorem rule_any (cp : Value) (x : Nd) (ks : List Ty) (kv : Value) (p m : Nat) (w : World) (v1 v2 v3 v4 : Value) (o1 : OpsFn .int .int v1 w) (o2 : OpsFn .int .bool v2 w) (o3 : OpsFn .text .text v3 w) (o4 : OpsFn .text .int v4 w)
    (hks : Tys w kv ks) (hfit : ∀ t ∈ ks, t.fits) (hw : wordsM x m = none) (hk : kidsOk x = true) (hl : (ks.length : Int) = x.kids) (h4 : x.kind ≠ 4) (h5 : x.kind ≠ 5) (h6 : x.kind ≠ 6) (h8 : x.kind ≠ 8) (hlen : ks.length ≤ 100000) :
    ∃ fv, (ruleTable v1 v2 v3 v4).lookup x.kind = some fv ∧ RuleFn fv cp x kv p w (CRuleRes (ruleM x ks) p w) := by
  obtain ⟨k, kd, n, s, t, u, l, c⟩ := x
  obtain ⟨a, ha, h0, h1⟩ := kids_facts hk
  simp only at ha h0 h1 hl h4 h5 h6 h8
  have hkd : a = -1 ∨ kd = a := by
    rcases h1 with h | ⟨_, h⟩
    · left; simpa using h
    · right; simpa using (beq_iff_eq.1 h).symm
  clear h1 hk h0
  unfold arM at ha
  split at ha
  · rename_i hc
    cases ha
    rcases hc with rfl | rfl | rfl | rfl
    · exact ⟨_, rfl, rule_leaf cp kd n s t u l c ks kv p w 1 .int rfl (by simp [ruleM])⟩
    · exact ⟨_, rfl, rule_leaf cp kd n s t u l c ks kv p w 2 .text rfl (by simp [ruleM])⟩
    · exact ⟨_, rfl, rule_leaf cp kd n s t u l c ks kv p w 3 .bool rfl (by simp [ruleM])⟩
    · exact absurd rfl h4
  · split at ha
    · rename_i hc
      cases ha
      have hk1 : kd = 1 := hkd.resolve_left (by omega)
      subst hk1
      obtain ⟨q, rfl⟩ := len1 hl
      have hq : q.fits := hfit q (by simp)
      rcases hc with rfl | rfl | rfl | rfl | rfl | rfl | rfl | rfl | rfl | rfl | rfl | rfl
      · exact absurd rfl h5
      · exact absurd rfl h6
      · exact ⟨_, rfl, rule_ops cp _ n s t u l c _ kv p w 16 .int .int v1 o1 hks hlen (by simp [ruleM])⟩
      · exact ⟨_, rfl, rule_ops cp _ n s t u l c _ kv p w 17 .text .int v4 o4 hks hlen (by simp [ruleM])⟩
      · exact ⟨_, rfl, rule_half_first cp _ n s t u l c kv p w q hq hks⟩
      · exact ⟨_, rfl, rule_half_second cp _ n s t u l c kv p w q hq hks⟩
      · exact ⟨_, rfl, rule_of_head cp _ n s t u l c kv p w q hq hks⟩
      · exact ⟨_, rfl, rule_of_tail cp _ n s t u l c kv p w q hq hks⟩
      · exact ⟨_, rfl, rule_of_empty cp _ n s t u l c kv p w q hq hks⟩
      · exact ⟨_, rfl, rule_box cp _ n s t u l c kv p w q hq hks⟩
      · exact ⟨_, rfl, rule_get cp _ n s t u l c kv p w q hq hks⟩
      · cases ht : tyOf t with
        | none => simp [wordsM, ht] at hw
        | some a =>
          cases hu : tyOf u with
          | none => simp [wordsM, ht, hu] at hw
          | some b =>
            obtain ⟨rfl, hae⟩ := tyOf_good ht
            obtain ⟨rfl, hbe⟩ := tyOf_good hu
            exact ⟨_, rfl, rule_cast cp _ n s l c kv p w a b q hks hae hbe⟩
    · split at ha
      · rename_i hc
        cases ha
        have hk1 : kd = 2 := hkd.resolve_left (by omega)
        subst hk1
        obtain ⟨q, y, rfl⟩ := len2 hl
        have hq : q.fits := hfit q (by simp)
        have hy : y.fits := hfit y (by simp)
        rcases hc with rfl | rfl | rfl | rfl | rfl | rfl | rfl | rfl | rfl | rfl | rfl
        · exact ⟨_, rfl, rule_call cp _ n s t u l c kv p w q y hks hq⟩
        · exact absurd rfl h8
        · exact ⟨_, rfl, rule_ops cp _ n s t u l c _ kv p w 10 .int .int v1 o1 hks hlen (by simp [ruleM])⟩
        · exact ⟨_, rfl, rule_ops cp _ n s t u l c _ kv p w 11 .int .int v1 o1 hks hlen (by simp [ruleM])⟩
        · exact ⟨_, rfl, rule_ops cp _ n s t u l c _ kv p w 12 .int .int v1 o1 hks hlen (by simp [ruleM])⟩
        · exact ⟨_, rfl, rule_ops cp _ n s t u l c _ kv p w 13 .text .text v3 o3 hks hlen (by simp [ruleM])⟩
        · exact ⟨_, rfl, rule_ops cp _ n s t u l c _ kv p w 14 .int .bool v2 o2 hks hlen (by simp [ruleM])⟩
        · exact ⟨_, rfl, rule_ops cp _ n s t u l c _ kv p w 15 .int .bool v2 o2 hks hlen (by simp [ruleM])⟩
        · exact ⟨_, rfl, rule_pair cp _ n s t u l c kv p w q y hq hy hks⟩
        · exact ⟨_, rfl, rule_cons cp _ n s t u l c kv p w q y hq hks⟩
        · exact ⟨_, rfl, rule_set cp _ n s t u l c kv p w q y hy hks⟩
      · split at ha
        · rename_i hc
          cases ha
          have hk1 : kd = 3 := hkd.resolve_left (by omega)
          subst hk1
          obtain ⟨q, y, z, rfl⟩ := len3 hl
          subst hc
          exact ⟨_, rfl, rule_choice cp _ n s t u l c kv p w q y z hks⟩
        · split at ha
          · rename_i hc
            subst hc
            cases ht : tyOf t with
            | none => simp [wordsM, ht] at hw
            | some a =>
              obtain ⟨rfl, hae⟩ := tyOf_good ht
              exact ⟨_, rfl, rule_list cp _ n s u l c ks kv p w a hae hks hlen⟩
          · cases ha
end Go.Proofs.YtdfadmhomjcmeaaGreatDoor

/- Plain: what is known of a checked term's types and places. -/
namespace Culp
set_option linter.unusedSimpArgs false
set_option linter.unusedVariables false
open Go Go.Proofs.YtdfadmhomjcmeaaGreatDoor

theorem fits_made {a t : Ty} (h : madeM a = .ok t) : a = t ∧ t.fits := by
  unfold madeM at h
  split at h
  · cases h; exact ⟨rfl, by assumption⟩
  · cases h
theorem fits_need {b : Bool} {e : Int} {a t : Ty} (h : needM b e a = .ok t) : b = true ∧ a = t := by
  unfold needM at h
  split at h
  · cases h; exact ⟨by assumption, rfl⟩
  · cases h
theorem fits_cons {a : Ty} {l : List Ty} (ha : a.fits) (hl : ∀ t ∈ l, t.fits) : ∀ t ∈ a :: l, t.fits := fun t ht => by
  rcases List.mem_cons.1 ht with rfl | h
  · exact ha
  · exact hl t h
theorem fits_int : Ty.int.fits := by simp [Ty.fits, Ty.enc]
theorem fits_bool : Ty.bool.fits := by simp [Ty.fits, Ty.enc]
theorem fits_text : Ty.text.fits := by simp [Ty.fits, Ty.enc]

theorem ite_or {α : Type} {p : Prop} [Decidable p] {a b r : α} (h : (if p then a else b) = r) : a = r ∨ b = r := by
  split at h
  · exact .inl h
  · exact .inr h
theorem ruleM_fits {x : Nd} {ks : List Ty} {t : Ty} (h : ruleM x ks = .ok t) (hk : ∀ k ∈ ks, k.fits) : t.fits := by
  unfold ruleM at h
  rcases ite_or h with h | h
  · (repeat' (split at h)) <;> first
      | (cases h; done)
      | (cases h; first | exact fits_int | exact fits_bool | exact fits_text | (refine fits_sub (hk _ List.mem_cons_self) ?_; simp [Ty.kids]; done) | (refine hk _ ?_; simp; done))
      | (obtain ⟨_, rfl⟩ := fits_need h; first | exact fits_int | exact fits_bool | exact fits_text | exact (tyOf_good (by assumption)).2 | (refine fits_sub (hk _ List.mem_cons_self) ?_; simp [Ty.kids]; done) | (refine hk _ ?_; simp; done))
      | exact (fits_made h).2
  rcases ite_or h with h | h
  · (repeat' (split at h)) <;> first
      | (cases h; done)
      | (cases h; first | exact fits_int | exact fits_bool | exact fits_text | (refine fits_sub (hk _ List.mem_cons_self) ?_; simp [Ty.kids]; done) | (refine hk _ ?_; simp; done))
      | (obtain ⟨_, rfl⟩ := fits_need h; first | exact fits_int | exact fits_bool | exact fits_text | exact (tyOf_good (by assumption)).2 | (refine fits_sub (hk _ List.mem_cons_self) ?_; simp [Ty.kids]; done) | (refine hk _ ?_; simp; done))
      | exact (fits_made h).2
  rcases ite_or h with h | h
  · (repeat' (split at h)) <;> first
      | (cases h; done)
      | (cases h; first | exact fits_int | exact fits_bool | exact fits_text | (refine fits_sub (hk _ List.mem_cons_self) ?_; simp [Ty.kids]; done) | (refine hk _ ?_; simp; done))
      | (obtain ⟨_, rfl⟩ := fits_need h; first | exact fits_int | exact fits_bool | exact fits_text | exact (tyOf_good (by assumption)).2 | (refine fits_sub (hk _ List.mem_cons_self) ?_; simp [Ty.kids]; done) | (refine hk _ ?_; simp; done))
      | exact (fits_made h).2
  rcases ite_or h with h | h
  · (repeat' (split at h)) <;> first
      | (cases h; done)
      | (cases h; first | exact fits_int | exact fits_bool | exact fits_text | (refine fits_sub (hk _ List.mem_cons_self) ?_; simp [Ty.kids]; done) | (refine hk _ ?_; simp; done))
      | (obtain ⟨_, rfl⟩ := fits_need h; first | exact fits_int | exact fits_bool | exact fits_text | exact (tyOf_good (by assumption)).2 | (refine fits_sub (hk _ List.mem_cons_self) ?_; simp [Ty.kids]; done) | (refine hk _ ?_; simp; done))
      | exact (fits_made h).2
  rcases ite_or h with h | h
  · (repeat' (split at h)) <;> first
      | (cases h; done)
      | (cases h; first | exact fits_int | exact fits_bool | exact fits_text | (refine fits_sub (hk _ List.mem_cons_self) ?_; simp [Ty.kids]; done) | (refine hk _ ?_; simp; done))
      | (obtain ⟨_, rfl⟩ := fits_need h; first | exact fits_int | exact fits_bool | exact fits_text | exact (tyOf_good (by assumption)).2 | (refine fits_sub (hk _ List.mem_cons_self) ?_; simp [Ty.kids]; done) | (refine hk _ ?_; simp; done))
      | exact (fits_made h).2
  rcases ite_or h with h | h
  · (repeat' (split at h)) <;> first
      | (cases h; done)
      | (cases h; first | exact fits_int | exact fits_bool | exact fits_text | (refine fits_sub (hk _ List.mem_cons_self) ?_; simp [Ty.kids]; done) | (refine hk _ ?_; simp; done))
      | (obtain ⟨_, rfl⟩ := fits_need h; first | exact fits_int | exact fits_bool | exact fits_text | exact (tyOf_good (by assumption)).2 | (refine fits_sub (hk _ List.mem_cons_self) ?_; simp [Ty.kids]; done) | (refine hk _ ?_; simp; done))
      | exact (fits_made h).2
  rcases ite_or h with h | h
  · (repeat' (split at h)) <;> first
      | (cases h; done)
      | (cases h; first | exact fits_int | exact fits_bool | exact fits_text | (refine fits_sub (hk _ List.mem_cons_self) ?_; simp [Ty.kids]; done) | (refine hk _ ?_; simp; done))
      | (obtain ⟨_, rfl⟩ := fits_need h; first | exact fits_int | exact fits_bool | exact fits_text | exact (tyOf_good (by assumption)).2 | (refine fits_sub (hk _ List.mem_cons_self) ?_; simp [Ty.kids]; done) | (refine hk _ ?_; simp; done))
      | exact (fits_made h).2
  rcases ite_or h with h | h
  · (repeat' (split at h)) <;> first
      | (cases h; done)
      | (cases h; first | exact fits_int | exact fits_bool | exact fits_text | (refine fits_sub (hk _ List.mem_cons_self) ?_; simp [Ty.kids]; done) | (refine hk _ ?_; simp; done))
      | (obtain ⟨_, rfl⟩ := fits_need h; first | exact fits_int | exact fits_bool | exact fits_text | exact (tyOf_good (by assumption)).2 | (refine fits_sub (hk _ List.mem_cons_self) ?_; simp [Ty.kids]; done) | (refine hk _ ?_; simp; done))
      | exact (fits_made h).2
  rcases ite_or h with h | h
  · (repeat' (split at h)) <;> first
      | (cases h; done)
      | (cases h; first | exact fits_int | exact fits_bool | exact fits_text | (refine fits_sub (hk _ List.mem_cons_self) ?_; simp [Ty.kids]; done) | (refine hk _ ?_; simp; done))
      | (obtain ⟨_, rfl⟩ := fits_need h; first | exact fits_int | exact fits_bool | exact fits_text | exact (tyOf_good (by assumption)).2 | (refine fits_sub (hk _ List.mem_cons_self) ?_; simp [Ty.kids]; done) | (refine hk _ ?_; simp; done))
      | exact (fits_made h).2
  rcases ite_or h with h | h
  · (repeat' (split at h)) <;> first
      | (cases h; done)
      | (cases h; first | exact fits_int | exact fits_bool | exact fits_text | (refine fits_sub (hk _ List.mem_cons_self) ?_; simp [Ty.kids]; done) | (refine hk _ ?_; simp; done))
      | (obtain ⟨_, rfl⟩ := fits_need h; first | exact fits_int | exact fits_bool | exact fits_text | exact (tyOf_good (by assumption)).2 | (refine fits_sub (hk _ List.mem_cons_self) ?_; simp [Ty.kids]; done) | (refine hk _ ?_; simp; done))
      | exact (fits_made h).2
  rcases ite_or h with h | h
  · (repeat' (split at h)) <;> first
      | (cases h; done)
      | (cases h; first | exact fits_int | exact fits_bool | exact fits_text | (refine fits_sub (hk _ List.mem_cons_self) ?_; simp [Ty.kids]; done) | (refine hk _ ?_; simp; done))
      | (obtain ⟨_, rfl⟩ := fits_need h; first | exact fits_int | exact fits_bool | exact fits_text | exact (tyOf_good (by assumption)).2 | (refine fits_sub (hk _ List.mem_cons_self) ?_; simp [Ty.kids]; done) | (refine hk _ ?_; simp; done))
      | exact (fits_made h).2
  rcases ite_or h with h | h
  · (repeat' (split at h)) <;> first
      | (cases h; done)
      | (cases h; first | exact fits_int | exact fits_bool | exact fits_text | (refine fits_sub (hk _ List.mem_cons_self) ?_; simp [Ty.kids]; done) | (refine hk _ ?_; simp; done))
      | (obtain ⟨_, rfl⟩ := fits_need h; first | exact fits_int | exact fits_bool | exact fits_text | exact (tyOf_good (by assumption)).2 | (refine fits_sub (hk _ List.mem_cons_self) ?_; simp [Ty.kids]; done) | (refine hk _ ?_; simp; done))
      | exact (fits_made h).2
  rcases ite_or h with h | h
  · (repeat' (split at h)) <;> first
      | (cases h; done)
      | (cases h; first | exact fits_int | exact fits_bool | exact fits_text | (refine fits_sub (hk _ List.mem_cons_self) ?_; simp [Ty.kids]; done) | (refine hk _ ?_; simp; done))
      | (obtain ⟨_, rfl⟩ := fits_need h; first | exact fits_int | exact fits_bool | exact fits_text | exact (tyOf_good (by assumption)).2 | (refine fits_sub (hk _ List.mem_cons_self) ?_; simp [Ty.kids]; done) | (refine hk _ ?_; simp; done))
      | exact (fits_made h).2
  rcases ite_or h with h | h
  · (repeat' (split at h)) <;> first
      | (cases h; done)
      | (cases h; first | exact fits_int | exact fits_bool | exact fits_text | (refine fits_sub (hk _ List.mem_cons_self) ?_; simp [Ty.kids]; done) | (refine hk _ ?_; simp; done))
      | (obtain ⟨_, rfl⟩ := fits_need h; first | exact fits_int | exact fits_bool | exact fits_text | exact (tyOf_good (by assumption)).2 | (refine fits_sub (hk _ List.mem_cons_self) ?_; simp [Ty.kids]; done) | (refine hk _ ?_; simp; done))
      | exact (fits_made h).2
  rcases ite_or h with h | h
  · (repeat' (split at h)) <;> first
      | (cases h; done)
      | (cases h; first | exact fits_int | exact fits_bool | exact fits_text | (refine fits_sub (hk _ List.mem_cons_self) ?_; simp [Ty.kids]; done) | (refine hk _ ?_; simp; done))
      | (obtain ⟨_, rfl⟩ := fits_need h; first | exact fits_int | exact fits_bool | exact fits_text | exact (tyOf_good (by assumption)).2 | (refine fits_sub (hk _ List.mem_cons_self) ?_; simp [Ty.kids]; done) | (refine hk _ ?_; simp; done))
      | exact (fits_made h).2
  rcases ite_or h with h | h
  · (repeat' (split at h)) <;> first
      | (cases h; done)
      | (cases h; first | exact fits_int | exact fits_bool | exact fits_text | (refine fits_sub (hk _ List.mem_cons_self) ?_; simp [Ty.kids]; done) | (refine hk _ ?_; simp; done))
      | (obtain ⟨_, rfl⟩ := fits_need h; first | exact fits_int | exact fits_bool | exact fits_text | exact (tyOf_good (by assumption)).2 | (refine fits_sub (hk _ List.mem_cons_self) ?_; simp [Ty.kids]; done) | (refine hk _ ?_; simp; done))
      | exact (fits_made h).2
  rcases ite_or h with h | h
  · (repeat' (split at h)) <;> first
      | (cases h; done)
      | (cases h; first | exact fits_int | exact fits_bool | exact fits_text | (refine fits_sub (hk _ List.mem_cons_self) ?_; simp [Ty.kids]; done) | (refine hk _ ?_; simp; done))
      | (obtain ⟨_, rfl⟩ := fits_need h; first | exact fits_int | exact fits_bool | exact fits_text | exact (tyOf_good (by assumption)).2 | (refine fits_sub (hk _ List.mem_cons_self) ?_; simp [Ty.kids]; done) | (refine hk _ ?_; simp; done))
      | exact (fits_made h).2
  rcases ite_or h with h | h
  · (repeat' (split at h)) <;> first
      | (cases h; done)
      | (cases h; first | exact fits_int | exact fits_bool | exact fits_text | (refine fits_sub (hk _ List.mem_cons_self) ?_; simp [Ty.kids]; done) | (refine hk _ ?_; simp; done))
      | (obtain ⟨_, rfl⟩ := fits_need h; first | exact fits_int | exact fits_bool | exact fits_text | exact (tyOf_good (by assumption)).2 | (refine fits_sub (hk _ List.mem_cons_self) ?_; simp [Ty.kids]; done) | (refine hk _ ?_; simp; done))
      | exact (fits_made h).2
  rcases ite_or h with h | h
  · (repeat' (split at h)) <;> first
      | (cases h; done)
      | (cases h; first | exact fits_int | exact fits_bool | exact fits_text | (refine fits_sub (hk _ List.mem_cons_self) ?_; simp [Ty.kids]; done) | (refine hk _ ?_; simp; done))
      | (obtain ⟨_, rfl⟩ := fits_need h; first | exact fits_int | exact fits_bool | exact fits_text | exact (tyOf_good (by assumption)).2 | (refine fits_sub (hk _ List.mem_cons_self) ?_; simp [Ty.kids]; done) | (refine hk _ ?_; simp; done))
      | exact (fits_made h).2
  rcases ite_or h with h | h
  · (repeat' (split at h)) <;> first
      | (cases h; done)
      | (cases h; first | exact fits_int | exact fits_bool | exact fits_text | (refine fits_sub (hk _ List.mem_cons_self) ?_; simp [Ty.kids]; done) | (refine hk _ ?_; simp; done))
      | (obtain ⟨_, rfl⟩ := fits_need h; first | exact fits_int | exact fits_bool | exact fits_text | exact (tyOf_good (by assumption)).2 | (refine fits_sub (hk _ List.mem_cons_self) ?_; simp [Ty.kids]; done) | (refine hk _ ?_; simp; done))
      | exact (fits_made h).2
  rcases ite_or h with h | h
  · (repeat' (split at h)) <;> first
      | (cases h; done)
      | (cases h; first | exact fits_int | exact fits_bool | exact fits_text | (refine fits_sub (hk _ List.mem_cons_self) ?_; simp [Ty.kids]; done) | (refine hk _ ?_; simp; done))
      | (obtain ⟨_, rfl⟩ := fits_need h; first | exact fits_int | exact fits_bool | exact fits_text | exact (tyOf_good (by assumption)).2 | (refine fits_sub (hk _ List.mem_cons_self) ?_; simp [Ty.kids]; done) | (refine hk _ ?_; simp; done))
      | exact (fits_made h).2
  cases h

theorem kids_ok {x : Nd} (h : kidsOk x = true) {a : Int} (ha : arM x.kind = some a) : 0 ≤ x.kids ∧ (a = -1 ∨ x.kids = a) := by
  rw [kidsOk_of ha] at h
  simp only [Bool.and_eq_true, Bool.or_eq_true, decide_eq_true_eq] at h
  exact ⟨h.1, h.2.imp id Eq.symm⟩
theorem shape_ok {T : List Nd} {f p q : Nat} (h : shapeM T (f + 1) p = .ok q) : ∃ x, T[p]? = some x ∧ kidsOk x = true ∧ timesM (shapeM T f) x.kids.toNat (p + 1) = .ok q := by
  rw [shapeM] at h
  split at h
  · cases h
  · rename_i x hx
    split at h
    · exact ⟨x, hx, by assumption, h⟩
    · cases h
theorem shape_zero_no {T : List Nd} {p q : Nat} : shapeM T 0 p ≠ .ok q := by
  intro h
  rw [shapeM] at h
  split at h
  · cases h
  · split at h <;> cases h
theorem times_one {g : Nat → Except Flt Nat} {p q : Nat} (h : timesM g 1 p = .ok q) : g p = .ok q := by
  simp only [timesM] at h
  split at h
  · cases h
  · rename_i h1; rw [h1]; exact h
theorem times_succ {g : Nat → Except Flt Nat} {n p q : Nat} (h : timesM g (n + 1) p = .ok q) : ∃ m, g p = .ok m ∧ timesM g n m = .ok q := by
  simp only [timesM] at h
  split at h
  · cases h
  · exact ⟨_, by assumption, h⟩
theorem times_zero {g : Nat → Except Flt Nat} {p q : Nat} (h : timesM g 0 p = .ok q) : p = q := by
  simp only [timesM] at h; cases h; rfl

/-- What is known of one answer. -/
def TypedOk (T : List Nd) (f : Nat) : Prop := ∀ (env : List Ty) (p q : Nat) (t : Ty) (q' : Nat), (∀ t ∈ env, t.fits) → shapeM T f p = .ok q → typedM T f env p = .ok (t, q') → q' = q ∧ t.fits
theorem kidsM_ok {T : List Nd} {f : Nat} (ih : TypedOk T f) {env : List Ty} (he : ∀ t ∈ env, t.fits) : ∀ (n p q q' : Nat) (ts : List Ty), timesM (shapeM T f) n p = .ok q → kidsM (typedM T f env) n p = .ok (ts, q') → q' = q ∧ (∀ t ∈ ts, t.fits) ∧ ts.length = n := by
  intro n
  induction n with
  | zero =>
    intro p q q' ts h1 h2
    simp only [kidsM] at h2
    cases h2
    exact ⟨times_zero h1, by simp, rfl⟩
  | succ n ihn =>
    intro p q q' ts h1 h2
    obtain ⟨m, hm, h1⟩ := times_succ h1
    simp only [kidsM] at h2
    split at h2
    · cases h2
    · rename_i t m' ht
      obtain ⟨rfl, htf⟩ := ih env p m t m' he hm ht
      split at h2
      · cases h2
      · rename_i ts' r hr
        cases h2
        obtain ⟨rfl, h3, h4⟩ := ihn _ _ _ _ h1 hr
        exact ⟨rfl, fits_cons htf h3, by simp [h4]⟩
theorem typedM_ok (T : List Nd) : ∀ f, TypedOk T f := by
  intro f
  induction f with
  | zero => intro env p q t q' he h; exact absurd h shape_zero_no
  | succ f ih =>
    intro env p q t q' he hs h
    obtain ⟨x, hx, hk, ht⟩ := shape_ok hs
    rw [typedM, hx] at h
    simp only at h
    split at h
    · cases h
    · rename_i hw
      split at h
      · rename_i h4
        obtain ⟨_, h5⟩ := kids_ok hk (a := 0) (by rw [h4]; rfl)
        have h0 : x.kids = 0 := by omega
        rw [h0] at ht
        have := times_zero ht
        split at h
        · rename_i t' he'
          cases h
          exact ⟨this, he _ (List.mem_of_getElem? he')⟩
        · cases h
      · have body : ∀ {a u g : Ty} {env' : List Ty}, (x.kids = 1) → tyOf x.t = some a → tyOf x.u = some u → g.fits → (∀ t ∈ env', t.fits) → bodyM p g u (typedM T f env' (p + 1)) = .ok (t, q') → q' = q ∧ t.fits := by
          intro a u g env' hk1 hta htu hg he' hb
          rw [hk1] at ht
          have h1 := times_one ht
          unfold bodyM at hb
          split at hb
          · cases hb
          · rename_i b q2 hb2
            split at hb
            · cases hb
              exact ⟨(ih env' _ _ _ _ he' h1 hb2).1, hg⟩
            · cases hb
        split at h
        · rename_i h5
          have hk1 : x.kids = 1 := by obtain ⟨_, h6⟩ := kids_ok hk (a := 1) (by rw [h5]; rfl); omega
          split at h
          · rename_i a u ha hu
            split at h
            · cases h
            · rename_i g hg
              unfold atM at hg
              split at hg
              · rename_i hm
                cases hg
                refine body hk1 ha hu (fits_made hm).2 (fits_cons (tyOf_good ha).2 he) h
              · cases hg
          · cases h
        · split at h
          · rename_i h5
            have hk1 : x.kids = 1 := by obtain ⟨_, h6⟩ := kids_ok hk (a := 1) (by rw [h5]; rfl); omega
            split at h
            · rename_i a u ha hu
              split at h
              · cases h
              · rename_i g hg
                unfold atM at hg
                split at hg
                · rename_i hm
                  cases hg
                  refine body hk1 ha hu (fits_made hm).2 (fits_cons (tyOf_good ha).2 (fits_cons (fits_made hm).2 he)) h
                · cases hg
            · cases h
          · split at h
            · rename_i h8
              have hk1 : x.kids = 2 := by obtain ⟨_, h6⟩ := kids_ok hk (a := 2) (by rw [h8]; rfl); omega
              rw [hk1] at ht
              obtain ⟨m, hm1, hm2⟩ := times_succ (n := 1) ht
              have hm2 := times_one hm2
              split at h
              · cases h
              · rename_i a q1 ha
                obtain ⟨rfl, haf⟩ := ih _ _ _ _ _ he hm1 ha
                exact ih _ _ _ _ _ (fits_cons haf he) hm2 h
            · split at h
              · cases h
              · rename_i ks q2 hks
                obtain ⟨rfl, h3, h4⟩ := kidsM_ok ih he _ _ _ _ _ ht hks
                split at h
                · cases h
                · rename_i t2 hr
                  cases h
                  exact ⟨rfl, ruleM_fits hr h3⟩
end Culp

/- Package core: the type of a node: what its walk needs. -/
namespace Go.Proofs.YtdfadmhomjcmeaaGreatDoor
set_option linter.unusedSimpArgs false
set_option linter.unusedVariables false
open Go.RowKit Culp

theorem build_1 (w : World) (s : ByteArray) : (Instr.buildSlice 24 1 #[(0, .string s)]).run Tryz.prog w = .ok (.slice (some ⟨w.heap.size, 0, none⟩) 1 1) (w.alloc (.cells #[.string s] 9)) := by
  simp [go_sem, Instr.buildSlice, run_underlying Tryz.underlying24]
theorem build_2 (w : World) (s t : ByteArray) : (Instr.buildSlice 24 2 #[(0, .string s), (1, .string t)]).run Tryz.prog w = .ok (.slice (some ⟨w.heap.size, 0, none⟩) 2 2) (w.alloc (.cells #[.string s, .string t] 9)) := by
  simp [go_sem, Instr.buildSlice, run_underlying Tryz.underlying24]

/-- What push hands back. -/
def PushRes (l : List Ty) (w : World) (e : Ending) (w' : World) : Prop := ∃ v, e = .returned v ∧ Tys w' v l ∧ Below w.heap.size w w'
theorem push_1 (t : Ty) (ev : Value) (env : List Ty) (w : World) (he : Tys w ev env) (hn : env.length ≤ 90000) :
    Calls Tryz.prog 86 #[ev, .slice (some ⟨w.heap.size, 0, none⟩) 1 1] (w.alloc (.cells #[.string t.str] 9)) (PushRes (t :: env) w) := by
  have hb : Below w.heap.size w (w.alloc (.cells #[.string t.str] 9)) := (Below.refl _ _).alloc (Nat.le_refl _) _
  refine (push_any ev _ w.heap.size 1 [.string t.str] env _ (World.ownsRow_lit w #[.string t.str] 1 (Nat.le_refl _) (by unfold maxLen; omega) rfl) (he.later hb) (by simp) (by omega)).mono ?_
  rintro e w' ⟨v, rfl, hown, _, hb'⟩
  refine ⟨v, rfl, ?_, hb.trans hb'⟩
  have : ([Value.string t.str] ++ strs env) = (t :: env).map fun t => .string t.str := by simp [strs]
  rw [this] at hown
  exact Tys.own hown
theorem push_2 (t u : Ty) (ev : Value) (env : List Ty) (w : World) (he : Tys w ev env) (hn : env.length ≤ 90000) :
    Calls Tryz.prog 86 #[ev, .slice (some ⟨w.heap.size, 0, none⟩) 2 2] (w.alloc (.cells #[.string t.str, .string u.str] 9)) (PushRes (t :: u :: env) w) := by
  have hb : Below w.heap.size w (w.alloc (.cells #[.string t.str, .string u.str] 9)) := (Below.refl _ _).alloc (Nat.le_refl _) _
  refine (push_any ev _ w.heap.size 2 [.string t.str, .string u.str] env _ (World.ownsRow_lit w #[.string t.str, .string u.str] 2 (Nat.le_refl _) (by unfold maxLen; omega) rfl) (he.later hb) (by simp) (by omega)).mono ?_
  rintro e w' ⟨v, rfl, hown, _, hb'⟩
  refine ⟨v, rfl, ?_, hb.trans hb'⟩
  have : ([Value.string t.str, Value.string u.str] ++ strs env) = (t :: u :: env).map fun t => .string t.str := by simp [strs]
  rw [this] at hown
  exact Tys.own hown

/-- The checker at a place, all that it leans on. -/
structure Inv (T : List Nd) (g r : Nat) (tv : Value) (p : Nat) (w : World) : Prop where
  ck : Ck g tv (.map (some r)) p w
  nodes : Nodes w tv T
  rules : Rules r w
  ne : r ≠ g
  ti : ∀ k n, tv ≠ .int k n
  ts : ∀ s, tv ≠ .string s
theorem OpsFn.keep {g p : Nat} {tv mv v : Value} {a b : Ty} {w w' : World} (h : OpsFn a b v w) (hk : Keep g w w') (hc : Ck g tv mv p w) (ts : ∀ s, tv ≠ .string s) (ms : ∀ s, mv ≠ .string s) : OpsFn a b v w' := by
  obtain ⟨x, y, rfl, h1, h2⟩ := h
  exact ⟨x, y, rfl, hk.cell h1 (Trio.ne_ hc h1 (fun e => ts _ e.symm) (by simp) (fun e => ms _ e.symm)), hk.cell h2 (Trio.ne_ hc h2 (fun e => ts _ e.symm) (by simp) (fun e => ms _ e.symm))⟩
theorem Inv.keep {T : List Nd} {g r : Nat} {tv : Value} {p p' : Nat} {w w' : World} (h : Inv T g r tv p w) (hk : Keep g w w') (hc : Ck g tv (.map (some r)) p' w') : Inv T g r tv p' w' := by
  refine ⟨hc, h.nodes.keep hk h.ck h.ti (by simp), ?_, h.ne, h.ti, h.ts⟩
  obtain ⟨v1, v2, v3, v4, hm, o1, o2, o3, o4⟩ := h.rules
  refine ⟨v1, v2, v3, v4, ?_, o1.keep hk h.ck h.ts (by simp), o2.keep hk h.ck h.ts (by simp), o3.keep hk h.ck h.ts (by simp), o4.keep hk h.ck h.ts (by simp)⟩
  obtain ⟨arr, clk, h1, h2⟩ := hm
  have hlt := (Array.getElem?_eq_some_iff.1 h1).1
  exact ⟨arr, clk, (hk.block r hlt h.ne).trans h1, h2⟩
theorem Inv.later {T : List Nd} {g r : Nat} {tv : Value} {p : Nat} {w w' : World} (h : Inv T g r tv p w) (hb : Below w.heap.size w w') : Inv T g r tv p w' := h.keep (Keep.of hb) (h.ck.later hb)
theorem Inv.tys {T : List Nd} {g r : Nat} {tv : Value} {p : Nat} {w w' : World} (h : Inv T g r tv p w) (hk : Keep g w w') {v : Value} {l : List Ty} (ht : Tys w v l) : Tys w' v l := ht.keep hk h.ck h.ts (by simp)
theorem Inv.step {T : List Nd} {g r : Nat} {tv : Value} {p : Nat} {w : World} (h : Inv T g r tv p w) (q : Nat) : Inv T g r tv q (w.setCell ⟨g, 1, none⟩ (.int .i64 (q : Int))) := h.keep ((Keep.refl _ _).setCell 1 _) (h.ck.set1 _)

/-- What the walk of a node ends with. -/
def TypedRes (g : Nat) (tv mv : Value) (w : World) (r : Except Flt (Ty × Nat)) (en : Ending) (w' : World) : Prop :=
  Keep g w w' ∧ match r with
    | .ok (t, q) => en = .returned (.string t.str) ∧ Ck g tv mv q w'
    | .error (e, p) => en = .panicked (flawV e p)
theorem TypedRes.ok_ {g : Nat} {tv mv : Value} {w w' : World} {r : Except Flt (Ty × Nat)} {t : Ty} {q : Nat} {u : Value} (h : r = .ok (t, q)) (hu : u = .string t.str) (hk : Keep g w w') (hc : Ck g tv mv q w') : TypedRes g tv mv w r (.returned u) w' := by
  subst h; exact ⟨hk, by rw [hu], hc⟩
theorem TypedRes.bad {g : Nat} {tv mv : Value} {w w' : World} {r : Except Flt (Ty × Nat)} {e : Int} {p : Nat} (h : r = .error (e, p)) (hk : Keep g w w') : TypedRes g tv mv w r (.panicked (flawV e p)) w' := by
  subst h; exact ⟨hk, rfl⟩
def TypedC (T : List Nd) (f : Nat) : Prop := ∀ (g r : Nat) (tv ev : Value) (env : List Ty) (p q : Nat) (w : World), Inv T g r tv p w → Tys w ev env → (∀ t ∈ env, t.fits) → env.length + 2 * f ≤ 3000 → shapeM T f p = .ok q →
  Calls Tryz.prog 32 #[.pointer (some ⟨g, 0, none⟩), ev] w (TypedRes g tv (.map (some r)) w (typedM T f env p))
end Go.Proofs.YtdfadmhomjcmeaaGreatDoor

/- Walks of package core: the type of a node. -/
namespace Go.Proofs.YtdfadmhomjcmeaaGreatDoor
set_option linter.unusedSimpArgs false
set_option linter.unusedVariables false
open Go.RowKit Culp

theorem tys_form {w : World} {v : Value} {l : List Ty} (h : Tys w v l) : ∃ A c, v = .slice A l.length c := by
  rcases h with ⟨rfl, rfl⟩ | ⟨g, c, rfl, _⟩
  · exact ⟨_, _, rfl⟩
  · exact ⟨_, _, rfl⟩
theorem Inv.step1 {T : List Nd} {g r : Nat} {tv : Value} {p : Nat} {w : World} (h : Inv T g r tv p w) : Inv T g r tv (p + 1) (w.setCell ⟨g, 1, none⟩ (.int .i64 ((p : Int) + 1))) := by
  have := h.step (p + 1)
  have e : ((p + 1 : Nat) : Int) = (p : Int) + 1 := by omega
  rw [e] at this
  exact this
def nodeCells (x : Nd) : Obj := .cells #[.int .i8 x.kind, .int .i64 x.kids, .int .i64 x.n, .string x.s, .string x.t, .string x.u, .int .i64 x.line, .int .i64 x.col] 38 

set_option maxHeartbeats 1600000 in
theorem typed_bad {T : List Nd} (hT : T.length ≤ 16384) (f : Nat)  (g r : Nat) (tv ev : Value) (env : List Ty) (p q : Nat) (w : World) (I : Inv T g r tv p w) (he : Tys w ev env) (hfit : ∀ t ∈ env, t.fits) (hlen : env.length + 2 * (f + 1) ≤ 3000)
    (x : Nd) (hx : T[p]? = some x) (hk : kidsOk x = true) (hq : timesM (shapeM T f) x.kids.toNat (p + 1) = .ok q) (wr : Option Int) (hw : wordsM x env.length = wr) (e0 : Int) (he0 : wr = some e0) (X : Hid (typedM T (f + 1) env p = .error (e0, p))) :
    Calls Tryz.prog 32 #[.pointer (some ⟨g, 0, none⟩), ev] w (TypedRes g tv (.map (some r)) w (typedM T (f + 1) env p)) := by
  obtain ⟨A, c, rfl, hlc, hN⟩ := I.nodes
  obtain ⟨EA, ec, rfl⟩ := tys_form he
  have c0 := I.ck.c0
  have c1 := I.ck.c1
  have fz := I.ck.free 1
  have hgl := I.ck.lt
  have hpl : p < T.length := (List.getElem?_eq_some_iff.1 hx).1
  obtain ⟨b, off, rfl, hM⟩ := hN (by omega)
  obtain ⟨n0, n1, n2, n3, n4, n5, n6, n7⟩ := hM.at_ hx
  have i1 : (p : Int) < (T.length : Int) := by omega
  have fz2 : ∀ o, (w.alloc o).frozen? ⟨g, 1, none⟩ = false := fun o => by rw [World.frozen?_alloc_old _ _ _ (by simp; omega)]; exact fz
  have c12 : ∀ o, (w.alloc o).cell? ⟨g, 1, none⟩ = some (.int .i64 p) := fun o => by rw [World.cell?_alloc_lt w o _ (by simpa using hgl)]; exact c1
  have HI := Lib.hid I; have HE := Lib.hid he; have HF := Lib.hid hfit; have HX := Lib.hid hx; have HK := Lib.hid hk; have HQ := Lib.hid hq
  have HX := Lib.hid hx
  have HW := Lib.hid hw
  clear hx hN hM hk hq I he hfit hw
  go_enter Tryz.func32, Tryz.ntmps32
  go_wp2_with fail
  refine (show Calls Tryz.prog 84 #[x.val, .int .i64 p, .int .i64 env.length] _ (WordsRes (wordsM x env.length) p _) from words_any x p env.length _ (by omega)).mono ?_
  rw [HW.out]
  subst he0
  rintro e w' ⟨hb, rfl⟩
  rw [X.out]
  exact ⟨rfl, TypedRes.bad rfl ((((Keep.refl g w).setCell 1 _).alloc _).trans (Keep.of hb))⟩

set_option maxHeartbeats 1600000 in
theorem typed_var {T : List Nd} (hT : T.length ≤ 16384) (f : Nat)  (g r : Nat) (tv ev : Value) (env : List Ty) (p q : Nat) (w : World) (I : Inv T g r tv p w) (he : Tys w ev env) (hfit : ∀ t ∈ env, t.fits) (hlen : env.length + 2 * (f + 1) ≤ 3000)
    (x : Nd) (hx : T[p]? = some x) (hk : kidsOk x = true) (hq : timesM (shapeM T f) x.kids.toNat (p + 1) = .ok q) (wr : Option Int) (hw : wordsM x env.length = wr) (he0 : wr = none) (h4 : Hid (x.kind = 4)) (k : Nat) (hn : Hid (x.n = k)) (hkl : k < env.length) (X : Hid (typedM T (f + 1) env p = .ok (env[k], p + 1))) :
    Calls Tryz.prog 32 #[.pointer (some ⟨g, 0, none⟩), ev] w (TypedRes g tv (.map (some r)) w (typedM T (f + 1) env p)) := by
  obtain ⟨A, c, rfl, hlc, hN⟩ := I.nodes
  obtain ⟨EA, ec, rfl⟩ := tys_form he
  have c0 := I.ck.c0
  have c1 := I.ck.c1
  have fz := I.ck.free 1
  have hgl := I.ck.lt
  have hpl : p < T.length := (List.getElem?_eq_some_iff.1 hx).1
  obtain ⟨b, off, rfl, hM⟩ := hN (by omega)
  obtain ⟨n0, n1, n2, n3, n4, n5, n6, n7⟩ := hM.at_ hx
  have i1 : (p : Int) < (T.length : Int) := by omega
  have fz2 : ∀ o, (w.alloc o).frozen? ⟨g, 1, none⟩ = false := fun o => by rw [World.frozen?_alloc_old _ _ _ (by simp; omega)]; exact fz
  have c12 : ∀ o, (w.alloc o).cell? ⟨g, 1, none⟩ = some (.int .i64 p) := fun o => by rw [World.cell?_alloc_lt w o _ (by simpa using hgl)]; exact c1
  have HI := Lib.hid I; have HE := Lib.hid he; have HF := Lib.hid hfit; have HX := Lib.hid hx; have HK := Lib.hid hk; have HQ := Lib.hid hq
  have HX := Lib.hid hx
  have HW := Lib.hid hw
  clear hx hN hM hk hq I he hfit hw
  go_enter Tryz.func32, Tryz.ntmps32
  go_wp2_with fail
  refine (show Calls Tryz.prog 84 #[x.val, .int .i64 p, .int .i64 env.length] _ (WordsRes (wordsM x env.length) p _) from words_any x p env.length _ (by omega)).mono ?_
  rw [HW.out]
  subst he0
  rintro e w1 ⟨hb, rfl⟩
  have hK0 : Keep g w ((w.setCell ⟨g, 1, none⟩ (.int .i64 ((p : Int) + 1))).alloc (nodeCells x)) := ((Keep.refl g w).setCell 1 _).alloc _
  have hI0 : Inv T g r (.slice (some ⟨b, off, none⟩) T.length c) (p + 1) ((w.setCell ⟨g, 1, none⟩ (.int .i64 ((p : Int) + 1))).alloc (nodeCells x)) := HI.out.step1.later ((Below.refl _ _).alloc (Nat.le_refl _) _)
  have HI1 := Lib.hid (hI0.later hb)
  have HK1 := Lib.hid (hK0.trans (Keep.of hb))
  have HE1 := Lib.hid (HI.out.tys (hK0.trans (Keep.of hb)) HE.out)
  have hsz : w.heap.size + 1 ≤ w1.heap.size := by have := hb.size; simp [World.setCell] at this; omega
  have m0 : w1.cell? ⟨w.heap.size, 0, none⟩ = some (.int .i8 x.kind) := cell_later hb (by rw [World.cell?_alloc_at _ _ _ _ (by simp [World.setCell])]; rfl)
  have m1 : w1.cell? ⟨w.heap.size, 1, none⟩ = some (.int .i64 x.kids) := cell_later hb (by rw [World.cell?_alloc_at _ _ _ _ (by simp [World.setCell])]; rfl)
  have m2 : w1.cell? ⟨w.heap.size, 2, none⟩ = some (.int .i64 x.n) := cell_later hb (by rw [World.cell?_alloc_at _ _ _ _ (by simp [World.setCell])]; rfl)
  have m3 : w1.cell? ⟨w.heap.size, 3, none⟩ = some (.string x.s) := cell_later hb (by rw [World.cell?_alloc_at _ _ _ _ (by simp [World.setCell])]; rfl)
  have m4 : w1.cell? ⟨w.heap.size, 4, none⟩ = some (.string x.t) := cell_later hb (by rw [World.cell?_alloc_at _ _ _ _ (by simp [World.setCell])]; rfl)
  have m5 : w1.cell? ⟨w.heap.size, 5, none⟩ = some (.string x.u) := cell_later hb (by rw [World.cell?_alloc_at _ _ _ _ (by simp [World.setCell])]; rfl)
  have m6 : w1.cell? ⟨w.heap.size, 6, none⟩ = some (.int .i64 x.line) := cell_later hb (by rw [World.cell?_alloc_at _ _ _ _ (by simp [World.setCell])]; rfl)
  have m7 : w1.cell? ⟨w.heap.size, 7, none⟩ = some (.int .i64 x.col) := cell_later hb (by rw [World.cell?_alloc_at _ _ _ _ (by simp [World.setCell])]; rfl)
  clear hI0 hK0 hb n0 n1 n2 n3 n4 n5 n6 n7 c0 c1 c12 fz fz2
  rw [h4.out] at m0
  rw [hn.out] at m2
  have hcell : ∃ gE, EA = some ⟨gE, 0, none⟩ ∧ w1.cell? ⟨gE, k, none⟩ = some (.string (env[k]).str) := by
    rcases HE1.out with ⟨h1, _⟩ | ⟨gE, _, h1, h2⟩
    · subst h1; simp at hkl
    · simp only [Value.slice.injEq] at h1
      exact ⟨gE, h1.1, h2 k hkl⟩
  obtain ⟨gE, rfl, hce⟩ := hcell
  generalize env[k] = tk at hce X
  clear h4 hn
  have hkl' : (k : Int) < (env.length : Int) := by omega
  go_wp2_with fail
  go_ret
  rw [X.out]
  exact TypedRes.ok_ rfl rfl HK1.out HI1.out.ck

set_option maxHeartbeats 1600000 in
theorem typed_fn {T : List Nd} (hT : T.length ≤ 16384) (f : Nat) (ih : TypedC T f) (g r : Nat) (tv ev : Value) (env : List Ty) (p q : Nat) (w : World) (I : Inv T g r tv p w) (he : Tys w ev env) (hfit : ∀ t ∈ env, t.fits) (hlen : env.length + 2 * (f + 1) ≤ 3000)
    (x : Nd) (hx : T[p]? = some x) (hk : kidsOk x = true) (hq : timesM (shapeM T f) x.kids.toNat (p + 1) = .ok q) (wr : Option Int) (hw : wordsM x env.length = wr) (he0 : wr = none) (h4 : Hid (x.kind = 5)) (a u : Ty) (ha : a.fits) (hu : u.fits) (hta : Hid (x.t = a.str)) (htu : Hid (x.u = u.str)) (hfn : Hid ((Ty.fn a u).fits)) (hsq : Hid (shapeM T f (p + 1) = .ok q)) (X : Hid (typedM T (f + 1) env p = bodyM p (.fn a u) u (typedM T f (a :: env) (p + 1)))) :
    Calls Tryz.prog 32 #[.pointer (some ⟨g, 0, none⟩), ev] w (TypedRes g tv (.map (some r)) w (typedM T (f + 1) env p)) := by
  obtain ⟨A, c, rfl, hlc, hN⟩ := I.nodes
  obtain ⟨EA, ec, rfl⟩ := tys_form he
  have c0 := I.ck.c0
  have c1 := I.ck.c1
  have fz := I.ck.free 1
  have hgl := I.ck.lt
  have hpl : p < T.length := (List.getElem?_eq_some_iff.1 hx).1
  obtain ⟨b, off, rfl, hM⟩ := hN (by omega)
  obtain ⟨n0, n1, n2, n3, n4, n5, n6, n7⟩ := hM.at_ hx
  have i1 : (p : Int) < (T.length : Int) := by omega
  have fz2 : ∀ o, (w.alloc o).frozen? ⟨g, 1, none⟩ = false := fun o => by rw [World.frozen?_alloc_old _ _ _ (by simp; omega)]; exact fz
  have c12 : ∀ o, (w.alloc o).cell? ⟨g, 1, none⟩ = some (.int .i64 p) := fun o => by rw [World.cell?_alloc_lt w o _ (by simpa using hgl)]; exact c1
  have HI := Lib.hid I; have HE := Lib.hid he; have HF := Lib.hid hfit; have HX := Lib.hid hx; have HK := Lib.hid hk; have HQ := Lib.hid hq
  have HX := Lib.hid hx
  have HW := Lib.hid hw
  clear hx hN hM hk hq I he hfit hw
  go_enter Tryz.func32, Tryz.ntmps32
  go_wp2_with fail
  refine (show Calls Tryz.prog 84 #[x.val, .int .i64 p, .int .i64 env.length] _ (WordsRes (wordsM x env.length) p _) from words_any x p env.length _ (by omega)).mono ?_
  rw [HW.out]
  subst he0
  rintro e w1 ⟨hb, rfl⟩
  have hK0 : Keep g w ((w.setCell ⟨g, 1, none⟩ (.int .i64 ((p : Int) + 1))).alloc (nodeCells x)) := ((Keep.refl g w).setCell 1 _).alloc _
  have hI0 : Inv T g r (.slice (some ⟨b, off, none⟩) T.length c) (p + 1) ((w.setCell ⟨g, 1, none⟩ (.int .i64 ((p : Int) + 1))).alloc (nodeCells x)) := HI.out.step1.later ((Below.refl _ _).alloc (Nat.le_refl _) _)
  have HI1 := Lib.hid (hI0.later hb)
  have HK1 := Lib.hid (hK0.trans (Keep.of hb))
  have HE1 := Lib.hid (HI.out.tys (hK0.trans (Keep.of hb)) HE.out)
  have hsz : w.heap.size + 1 ≤ w1.heap.size := by have := hb.size; simp [World.setCell] at this; omega
  have m0 : w1.cell? ⟨w.heap.size, 0, none⟩ = some (.int .i8 x.kind) := cell_later hb (by rw [World.cell?_alloc_at _ _ _ _ (by simp [World.setCell])]; rfl)
  have m1 : w1.cell? ⟨w.heap.size, 1, none⟩ = some (.int .i64 x.kids) := cell_later hb (by rw [World.cell?_alloc_at _ _ _ _ (by simp [World.setCell])]; rfl)
  have m2 : w1.cell? ⟨w.heap.size, 2, none⟩ = some (.int .i64 x.n) := cell_later hb (by rw [World.cell?_alloc_at _ _ _ _ (by simp [World.setCell])]; rfl)
  have m3 : w1.cell? ⟨w.heap.size, 3, none⟩ = some (.string x.s) := cell_later hb (by rw [World.cell?_alloc_at _ _ _ _ (by simp [World.setCell])]; rfl)
  have m4 : w1.cell? ⟨w.heap.size, 4, none⟩ = some (.string x.t) := cell_later hb (by rw [World.cell?_alloc_at _ _ _ _ (by simp [World.setCell])]; rfl)
  have m5 : w1.cell? ⟨w.heap.size, 5, none⟩ = some (.string x.u) := cell_later hb (by rw [World.cell?_alloc_at _ _ _ _ (by simp [World.setCell])]; rfl)
  have m6 : w1.cell? ⟨w.heap.size, 6, none⟩ = some (.int .i64 x.line) := cell_later hb (by rw [World.cell?_alloc_at _ _ _ _ (by simp [World.setCell])]; rfl)
  have m7 : w1.cell? ⟨w.heap.size, 7, none⟩ = some (.int .i64 x.col) := cell_later hb (by rw [World.cell?_alloc_at _ _ _ _ (by simp [World.setCell])]; rfl)
  clear hI0 hK0 hb n0 n1 n2 n3 n4 n5 n6 n7 c0 c1 c12 fz fz2
  rw [h4.out] at m0
  rw [hta.out] at m4
  rw [htu.out] at m5
  have hs := str_size_le ha
  have hs2 := str_size_le hu
  have hl := str_fn a u
  go_wp2_with fail
  refine (made_any _ (.fn a u) p _).mono ?_
  rw [show madeM (.fn a u) = .ok (.fn a u) by simp [madeM]; exact hfn.out]
  rintro e w2 ⟨hb2, rfl⟩
  have HI2 := Lib.hid (HI1.out.later hb2)
  have HK2 := Lib.hid (HK1.out.trans (Keep.of hb2))
  have HE2 := Lib.hid (HE1.out.later hb2)
  have hsz2 : w.heap.size + 1 ≤ w2.heap.size := Nat.le_trans hsz hb2.size
  replace m4 := cell_later hb2 m4
  replace m5 := cell_later hb2 m5
  clear m0 m1 m2 m3 m6 m7 hb2 HI1 HK1 HE1
  go_wp2_with fail
  refine wp_region_plan (S := fun w' => w'.cell? ⟨w.heap.size, 4, none⟩ = some (.string a.str) ∧ w'.cell? ⟨w.heap.size, 5, none⟩ = some (.string u.str))
    [(0, true), (1, true), (2, true), (3, true), (7, true), (8, true), (10, true), (4, false), (5, false), (6, false), (9, true), (11, false)] (by kernel_rfl) (by kernel_rfl) (by kernel_rfl) (fun _ _ _ _ _ h => h) ⟨m4, m5⟩ ?_
  intro HS
  repeat (first | (apply wpPlan_look; rfl; rfl; (intro wq hq; (try dsimp only at hq); go_split_ands; go_simp; (try rw [if_neg (by omega)]); (try rw [if_pos (by omega)]); try with_reducible rfl); simp only [Act.put, List.setIfInBounds_toArray, List.set_cons_zero, List.set_cons_succ]) | (apply wpPlan_skip; rfl; rfl; simp only [Act.put, List.setIfInBounds_toArray, List.set_cons_zero, List.set_cons_succ]) | (apply wpPlan_pass; rfl; rfl; assumption; simp only [Act.put, List.setIfInBounds_toArray, List.set_cons_zero, List.set_cons_succ]))
  have hbd : Below w2.heap.size w2 w2.drew := (Below.refl _ _).drew
  refine wpPlan_run rfl rfl (by simp [execOp, go_sem, build_1]; exact ⟨rfl, rfl⟩) _ (fun _ h => h) ⟨cell_later ((Below.refl _ _).alloc (Nat.le_refl _) _) HS.1, cell_later ((Below.refl _ _).alloc (Nat.le_refl _) _) HS.2⟩ ?_
  simp only [Act.put, List.setIfInBounds_toArray, List.set_cons_zero, List.set_cons_succ]
  apply wpPlan_call; rfl; rfl; rfl; rfl; kernel_rfl; exact push_1 a (.slice EA env.length ec) env w2.drew (HE2.out.later hbd) (by omega); rfl; rintro e w3 ⟨v3, rfl, ht3, hb3⟩
  have hb3' := hbd.trans (hb3.mono (Nat.le_refl _))
  have HI3 := HI2.out.later hb3'
  have HK3 := HK2.out.trans (Keep.of hb3')
  replace m4 := cell_later hb3' m4
  replace m5 := cell_later hb3' m5
  refine ⟨_, rfl, as_S ⟨m4, m5⟩ ?_⟩
  clear HS
  intro HS
  simp only [Act.put, List.setIfInBounds_toArray, List.set_cons_zero, List.set_cons_succ]
  repeat (first | (apply wpPlan_look; rfl; rfl; (intro wq hq; (try dsimp only at hq); go_split_ands; go_simp; (try rw [if_neg (by omega)]); (try rw [if_pos (by omega)]); try with_reducible rfl); simp only [Act.put, List.setIfInBounds_toArray, List.set_cons_zero, List.set_cons_succ]) | (apply wpPlan_skip; rfl; rfl; simp only [Act.put, List.setIfInBounds_toArray, List.set_cons_zero, List.set_cons_succ]) | (apply wpPlan_pass; rfl; rfl; assumption; simp only [Act.put, List.setIfInBounds_toArray, List.set_cons_zero, List.set_cons_succ]))
  apply wpPlan_call2; rfl; rfl; rfl; rfl; kernel_rfl; exact ih g r _ v3 (a :: env) (p + 1) q w3 HI3 ht3 (fits_cons ha HF.out) (by simp; omega) hsq.out; rfl
  cases hr : typedM T f (a :: env) (p + 1) with
  | error fl =>
    obtain ⟨e0, p0⟩ := fl
    rintro e w4 ⟨hk4, rfl⟩
    refine .inr ⟨_, rfl, ?_⟩
    rw [X.out, hr]
    exact ⟨rfl, TypedRes.bad rfl (HK3.trans hk4)⟩
  | ok bq =>
    obtain ⟨b0, q0⟩ := bq
    rintro e w4 ⟨hk4, rfl, hc4⟩
    have HK4 := HK3.trans hk4
    have hgn : w.heap.size ≠ g := by omega
    replace m4 := hk4.cell m4 hgn
    replace m5 := hk4.cell m5 hgn
    refine .inl ⟨_, rfl, as_S ⟨m4, m5⟩ ?_⟩
    clear HS
    intro HS
    simp only [Act.put, List.setIfInBounds_toArray, List.set_cons_zero, List.set_cons_succ]
    have he := str_eqv b0 u
    by_cases hbu : b0 = u
    all_goals
      first
        | rw [decide_eq_true hbu] at he
        | rw [decide_eq_false hbu] at he
      have HB := Lib.hid hbu
      have HR := Lib.hid hr
      clear hbu hr
      repeat (first | (apply wpPlan_look; rfl; rfl; (intro wq hq; (try dsimp only at hq); go_split_ands; go_simp; (try rw [if_neg (by omega)]); (try rw [if_pos (by omega)]); try with_reducible rfl); simp only [Act.put, List.setIfInBounds_toArray, List.set_cons_zero, List.set_cons_succ]) | (apply wpPlan_skip; rfl; rfl; simp only [Act.put, List.setIfInBounds_toArray, List.set_cons_zero, List.set_cons_succ]) | (apply wpPlan_pass; rfl; rfl; assumption; simp only [Act.put, List.setIfInBounds_toArray, List.set_cons_zero, List.set_cons_succ]))
      first
        | (apply wpPlan_call2; rfl; rfl; rfl; rfl; kernel_rfl; exact need_yes 23 p _; rfl; rintro e w' ⟨rfl, rfl⟩
           refine .inl ⟨_, rfl, HS, ?_⟩
           simp only [Act.put, List.setIfInBounds_toArray, List.set_cons_zero, List.set_cons_succ]
           apply wpPlan_done
           go_wp2
           go_ret
           rw [X.out, HR.out]
           exact TypedRes.ok_ (by simp [bodyM, HB.out]) rfl HK4 hc4)
        | (apply wpPlan_call2; rfl; rfl; rfl; rfl; kernel_rfl; exact need_no 23 p _; rfl; rintro e w' ⟨rfl, rfl⟩
           refine .inr ⟨_, rfl, ?_⟩
           rw [X.out, HR.out]
           exact ⟨rfl, TypedRes.bad (by simp [bodyM, HB.out]) HK4⟩)

set_option maxHeartbeats 1600000 in
theorem typed_rec {T : List Nd} (hT : T.length ≤ 16384) (f : Nat) (ih : TypedC T f) (g r : Nat) (tv ev : Value) (env : List Ty) (p q : Nat) (w : World) (I : Inv T g r tv p w) (he : Tys w ev env) (hfit : ∀ t ∈ env, t.fits) (hlen : env.length + 2 * (f + 1) ≤ 3000)
    (x : Nd) (hx : T[p]? = some x) (hk : kidsOk x = true) (hq : timesM (shapeM T f) x.kids.toNat (p + 1) = .ok q) (wr : Option Int) (hw : wordsM x env.length = wr) (he0 : wr = none) (h4 : Hid (x.kind = 6)) (a u : Ty) (ha : a.fits) (hu : u.fits) (hta : Hid (x.t = a.str)) (htu : Hid (x.u = u.str)) (hfn : Hid ((Ty.fn a u).fits)) (hsq : Hid (shapeM T f (p + 1) = .ok q)) (X : Hid (typedM T (f + 1) env p = bodyM p (.fn a u) u (typedM T f (a :: .fn a u :: env) (p + 1)))) :
    Calls Tryz.prog 32 #[.pointer (some ⟨g, 0, none⟩), ev] w (TypedRes g tv (.map (some r)) w (typedM T (f + 1) env p)) := by
  obtain ⟨A, c, rfl, hlc, hN⟩ := I.nodes
  obtain ⟨EA, ec, rfl⟩ := tys_form he
  have c0 := I.ck.c0
  have c1 := I.ck.c1
  have fz := I.ck.free 1
  have hgl := I.ck.lt
  have hpl : p < T.length := (List.getElem?_eq_some_iff.1 hx).1
  obtain ⟨b, off, rfl, hM⟩ := hN (by omega)
  obtain ⟨n0, n1, n2, n3, n4, n5, n6, n7⟩ := hM.at_ hx
  have i1 : (p : Int) < (T.length : Int) := by omega
  have fz2 : ∀ o, (w.alloc o).frozen? ⟨g, 1, none⟩ = false := fun o => by rw [World.frozen?_alloc_old _ _ _ (by simp; omega)]; exact fz
  have c12 : ∀ o, (w.alloc o).cell? ⟨g, 1, none⟩ = some (.int .i64 p) := fun o => by rw [World.cell?_alloc_lt w o _ (by simpa using hgl)]; exact c1
  have HI := Lib.hid I; have HE := Lib.hid he; have HF := Lib.hid hfit; have HX := Lib.hid hx; have HK := Lib.hid hk; have HQ := Lib.hid hq
  have HX := Lib.hid hx
  have HW := Lib.hid hw
  clear hx hN hM hk hq I he hfit hw
  go_enter Tryz.func32, Tryz.ntmps32
  go_wp2_with fail
  refine (show Calls Tryz.prog 84 #[x.val, .int .i64 p, .int .i64 env.length] _ (WordsRes (wordsM x env.length) p _) from words_any x p env.length _ (by omega)).mono ?_
  rw [HW.out]
  subst he0
  rintro e w1 ⟨hb, rfl⟩
  have hK0 : Keep g w ((w.setCell ⟨g, 1, none⟩ (.int .i64 ((p : Int) + 1))).alloc (nodeCells x)) := ((Keep.refl g w).setCell 1 _).alloc _
  have hI0 : Inv T g r (.slice (some ⟨b, off, none⟩) T.length c) (p + 1) ((w.setCell ⟨g, 1, none⟩ (.int .i64 ((p : Int) + 1))).alloc (nodeCells x)) := HI.out.step1.later ((Below.refl _ _).alloc (Nat.le_refl _) _)
  have HI1 := Lib.hid (hI0.later hb)
  have HK1 := Lib.hid (hK0.trans (Keep.of hb))
  have HE1 := Lib.hid (HI.out.tys (hK0.trans (Keep.of hb)) HE.out)
  have hsz : w.heap.size + 1 ≤ w1.heap.size := by have := hb.size; simp [World.setCell] at this; omega
  have m0 : w1.cell? ⟨w.heap.size, 0, none⟩ = some (.int .i8 x.kind) := cell_later hb (by rw [World.cell?_alloc_at _ _ _ _ (by simp [World.setCell])]; rfl)
  have m1 : w1.cell? ⟨w.heap.size, 1, none⟩ = some (.int .i64 x.kids) := cell_later hb (by rw [World.cell?_alloc_at _ _ _ _ (by simp [World.setCell])]; rfl)
  have m2 : w1.cell? ⟨w.heap.size, 2, none⟩ = some (.int .i64 x.n) := cell_later hb (by rw [World.cell?_alloc_at _ _ _ _ (by simp [World.setCell])]; rfl)
  have m3 : w1.cell? ⟨w.heap.size, 3, none⟩ = some (.string x.s) := cell_later hb (by rw [World.cell?_alloc_at _ _ _ _ (by simp [World.setCell])]; rfl)
  have m4 : w1.cell? ⟨w.heap.size, 4, none⟩ = some (.string x.t) := cell_later hb (by rw [World.cell?_alloc_at _ _ _ _ (by simp [World.setCell])]; rfl)
  have m5 : w1.cell? ⟨w.heap.size, 5, none⟩ = some (.string x.u) := cell_later hb (by rw [World.cell?_alloc_at _ _ _ _ (by simp [World.setCell])]; rfl)
  have m6 : w1.cell? ⟨w.heap.size, 6, none⟩ = some (.int .i64 x.line) := cell_later hb (by rw [World.cell?_alloc_at _ _ _ _ (by simp [World.setCell])]; rfl)
  have m7 : w1.cell? ⟨w.heap.size, 7, none⟩ = some (.int .i64 x.col) := cell_later hb (by rw [World.cell?_alloc_at _ _ _ _ (by simp [World.setCell])]; rfl)
  clear hI0 hK0 hb n0 n1 n2 n3 n4 n5 n6 n7 c0 c1 c12 fz fz2
  rw [h4.out] at m0
  rw [hta.out] at m4
  rw [htu.out] at m5
  have hs := str_size_le ha
  have hs2 := str_size_le hu
  have hl := str_fn a u
  go_wp2_with fail
  refine (made_any _ (.fn a u) p _).mono ?_
  rw [show madeM (.fn a u) = .ok (.fn a u) by simp [madeM]; exact hfn.out]
  rintro e w2 ⟨hb2, rfl⟩
  have HI2 := Lib.hid (HI1.out.later hb2)
  have HK2 := Lib.hid (HK1.out.trans (Keep.of hb2))
  have HE2 := Lib.hid (HE1.out.later hb2)
  have hsz2 : w.heap.size + 1 ≤ w2.heap.size := Nat.le_trans hsz hb2.size
  replace m4 := cell_later hb2 m4
  replace m5 := cell_later hb2 m5
  clear m0 m1 m2 m3 m6 m7 hb2 HI1 HK1 HE1
  go_wp2_with fail
  refine wp_region_plan (S := fun w' => w'.cell? ⟨w.heap.size, 4, none⟩ = some (.string a.str) ∧ w'.cell? ⟨w.heap.size, 5, none⟩ = some (.string u.str))
    [(0, true), (1, true), (2, true), (3, true), (4, true), (8, true), (9, true), (11, true), (5, false), (6, false), (7, false), (10, true), (12, false)] (by kernel_rfl) (by kernel_rfl) (by kernel_rfl) (fun _ _ _ _ _ h => h) ⟨m4, m5⟩ ?_
  intro HS
  repeat (first | (apply wpPlan_look; rfl; rfl; (intro wq hq; (try dsimp only at hq); go_split_ands; go_simp; (try rw [if_neg (by omega)]); (try rw [if_pos (by omega)]); try with_reducible rfl); simp only [Act.put, List.setIfInBounds_toArray, List.set_cons_zero, List.set_cons_succ]) | (apply wpPlan_skip; rfl; rfl; simp only [Act.put, List.setIfInBounds_toArray, List.set_cons_zero, List.set_cons_succ]) | (apply wpPlan_pass; rfl; rfl; assumption; simp only [Act.put, List.setIfInBounds_toArray, List.set_cons_zero, List.set_cons_succ]))
  have hbd : Below w2.heap.size w2 w2.drew := (Below.refl _ _).drew
  refine wpPlan_run rfl rfl (by simp [execOp, go_sem, build_2]; exact ⟨rfl, rfl⟩) _ (fun _ h => h) ⟨cell_later ((Below.refl _ _).alloc (Nat.le_refl _) _) HS.1, cell_later ((Below.refl _ _).alloc (Nat.le_refl _) _) HS.2⟩ ?_
  simp only [Act.put, List.setIfInBounds_toArray, List.set_cons_zero, List.set_cons_succ]
  apply wpPlan_call; rfl; rfl; rfl; rfl; kernel_rfl; exact push_2 a (.fn a u) (.slice EA env.length ec) env w2.drew (HE2.out.later hbd) (by omega); rfl; rintro e w3 ⟨v3, rfl, ht3, hb3⟩
  have hb3' := hbd.trans (hb3.mono (Nat.le_refl _))
  have HI3 := HI2.out.later hb3'
  have HK3 := HK2.out.trans (Keep.of hb3')
  replace m4 := cell_later hb3' m4
  replace m5 := cell_later hb3' m5
  refine ⟨_, rfl, as_S ⟨m4, m5⟩ ?_⟩
  clear HS
  intro HS
  simp only [Act.put, List.setIfInBounds_toArray, List.set_cons_zero, List.set_cons_succ]
  repeat (first | (apply wpPlan_look; rfl; rfl; (intro wq hq; (try dsimp only at hq); go_split_ands; go_simp; (try rw [if_neg (by omega)]); (try rw [if_pos (by omega)]); try with_reducible rfl); simp only [Act.put, List.setIfInBounds_toArray, List.set_cons_zero, List.set_cons_succ]) | (apply wpPlan_skip; rfl; rfl; simp only [Act.put, List.setIfInBounds_toArray, List.set_cons_zero, List.set_cons_succ]) | (apply wpPlan_pass; rfl; rfl; assumption; simp only [Act.put, List.setIfInBounds_toArray, List.set_cons_zero, List.set_cons_succ]))
  apply wpPlan_call2; rfl; rfl; rfl; rfl; kernel_rfl; exact ih g r _ v3 (a :: .fn a u :: env) (p + 1) q w3 HI3 ht3 (fits_cons ha (fits_cons hfn.out HF.out)) (by simp; omega) hsq.out; rfl
  cases hr : typedM T f (a :: .fn a u :: env) (p + 1) with
  | error fl =>
    obtain ⟨e0, p0⟩ := fl
    rintro e w4 ⟨hk4, rfl⟩
    refine .inr ⟨_, rfl, ?_⟩
    rw [X.out, hr]
    exact ⟨rfl, TypedRes.bad rfl (HK3.trans hk4)⟩
  | ok bq =>
    obtain ⟨b0, q0⟩ := bq
    rintro e w4 ⟨hk4, rfl, hc4⟩
    have HK4 := HK3.trans hk4
    have hgn : w.heap.size ≠ g := by omega
    replace m4 := hk4.cell m4 hgn
    replace m5 := hk4.cell m5 hgn
    refine .inl ⟨_, rfl, as_S ⟨m4, m5⟩ ?_⟩
    clear HS
    intro HS
    simp only [Act.put, List.setIfInBounds_toArray, List.set_cons_zero, List.set_cons_succ]
    have he := str_eqv b0 u
    by_cases hbu : b0 = u
    all_goals
      first
        | rw [decide_eq_true hbu] at he
        | rw [decide_eq_false hbu] at he
      have HB := Lib.hid hbu
      have HR := Lib.hid hr
      clear hbu hr
      repeat (first | (apply wpPlan_look; rfl; rfl; (intro wq hq; (try dsimp only at hq); go_split_ands; go_simp; (try rw [if_neg (by omega)]); (try rw [if_pos (by omega)]); try with_reducible rfl); simp only [Act.put, List.setIfInBounds_toArray, List.set_cons_zero, List.set_cons_succ]) | (apply wpPlan_skip; rfl; rfl; simp only [Act.put, List.setIfInBounds_toArray, List.set_cons_zero, List.set_cons_succ]) | (apply wpPlan_pass; rfl; rfl; assumption; simp only [Act.put, List.setIfInBounds_toArray, List.set_cons_zero, List.set_cons_succ]))
      first
        | (apply wpPlan_call2; rfl; rfl; rfl; rfl; kernel_rfl; exact need_yes 23 p _; rfl; rintro e w' ⟨rfl, rfl⟩
           refine .inl ⟨_, rfl, HS, ?_⟩
           simp only [Act.put, List.setIfInBounds_toArray, List.set_cons_zero, List.set_cons_succ]
           apply wpPlan_done
           go_wp2
           go_ret
           rw [X.out, HR.out]
           exact TypedRes.ok_ (by simp [bodyM, HB.out]) rfl HK4 hc4)
        | (apply wpPlan_call2; rfl; rfl; rfl; rfl; kernel_rfl; exact need_no 23 p _; rfl; rintro e w' ⟨rfl, rfl⟩
           refine .inr ⟨_, rfl, ?_⟩
           rw [X.out, HR.out]
           exact ⟨rfl, TypedRes.bad (by simp [bodyM, HB.out]) HK4⟩)

set_option maxHeartbeats 1600000 in
theorem typed_fn_large {T : List Nd} (hT : T.length ≤ 16384) (f : Nat)  (g r : Nat) (tv ev : Value) (env : List Ty) (p q : Nat) (w : World) (I : Inv T g r tv p w) (he : Tys w ev env) (hfit : ∀ t ∈ env, t.fits) (hlen : env.length + 2 * (f + 1) ≤ 3000)
    (x : Nd) (hx : T[p]? = some x) (hk : kidsOk x = true) (hq : timesM (shapeM T f) x.kids.toNat (p + 1) = .ok q) (wr : Option Int) (hw : wordsM x env.length = wr) (he0 : wr = none) (h4 : Hid (x.kind = 5)) (a u : Ty) (ha : a.fits) (hu : u.fits) (hta : Hid (x.t = a.str)) (htu : Hid (x.u = u.str)) (hfn : Hid (¬ (Ty.fn a u).fits)) (X : Hid (typedM T (f + 1) env p = .error (21, p))) :
    Calls Tryz.prog 32 #[.pointer (some ⟨g, 0, none⟩), ev] w (TypedRes g tv (.map (some r)) w (typedM T (f + 1) env p)) := by
  obtain ⟨A, c, rfl, hlc, hN⟩ := I.nodes
  obtain ⟨EA, ec, rfl⟩ := tys_form he
  have c0 := I.ck.c0
  have c1 := I.ck.c1
  have fz := I.ck.free 1
  have hgl := I.ck.lt
  have hpl : p < T.length := (List.getElem?_eq_some_iff.1 hx).1
  obtain ⟨b, off, rfl, hM⟩ := hN (by omega)
  obtain ⟨n0, n1, n2, n3, n4, n5, n6, n7⟩ := hM.at_ hx
  have i1 : (p : Int) < (T.length : Int) := by omega
  have fz2 : ∀ o, (w.alloc o).frozen? ⟨g, 1, none⟩ = false := fun o => by rw [World.frozen?_alloc_old _ _ _ (by simp; omega)]; exact fz
  have c12 : ∀ o, (w.alloc o).cell? ⟨g, 1, none⟩ = some (.int .i64 p) := fun o => by rw [World.cell?_alloc_lt w o _ (by simpa using hgl)]; exact c1
  have HI := Lib.hid I; have HE := Lib.hid he; have HF := Lib.hid hfit; have HX := Lib.hid hx; have HK := Lib.hid hk; have HQ := Lib.hid hq
  have HX := Lib.hid hx
  have HW := Lib.hid hw
  clear hx hN hM hk hq I he hfit hw
  go_enter Tryz.func32, Tryz.ntmps32
  go_wp2_with fail
  refine (show Calls Tryz.prog 84 #[x.val, .int .i64 p, .int .i64 env.length] _ (WordsRes (wordsM x env.length) p _) from words_any x p env.length _ (by omega)).mono ?_
  rw [HW.out]
  subst he0
  rintro e w1 ⟨hb, rfl⟩
  have hK0 : Keep g w ((w.setCell ⟨g, 1, none⟩ (.int .i64 ((p : Int) + 1))).alloc (nodeCells x)) := ((Keep.refl g w).setCell 1 _).alloc _
  have hI0 : Inv T g r (.slice (some ⟨b, off, none⟩) T.length c) (p + 1) ((w.setCell ⟨g, 1, none⟩ (.int .i64 ((p : Int) + 1))).alloc (nodeCells x)) := HI.out.step1.later ((Below.refl _ _).alloc (Nat.le_refl _) _)
  have HI1 := Lib.hid (hI0.later hb)
  have HK1 := Lib.hid (hK0.trans (Keep.of hb))
  have HE1 := Lib.hid (HI.out.tys (hK0.trans (Keep.of hb)) HE.out)
  have hsz : w.heap.size + 1 ≤ w1.heap.size := by have := hb.size; simp [World.setCell] at this; omega
  have m0 : w1.cell? ⟨w.heap.size, 0, none⟩ = some (.int .i8 x.kind) := cell_later hb (by rw [World.cell?_alloc_at _ _ _ _ (by simp [World.setCell])]; rfl)
  have m1 : w1.cell? ⟨w.heap.size, 1, none⟩ = some (.int .i64 x.kids) := cell_later hb (by rw [World.cell?_alloc_at _ _ _ _ (by simp [World.setCell])]; rfl)
  have m2 : w1.cell? ⟨w.heap.size, 2, none⟩ = some (.int .i64 x.n) := cell_later hb (by rw [World.cell?_alloc_at _ _ _ _ (by simp [World.setCell])]; rfl)
  have m3 : w1.cell? ⟨w.heap.size, 3, none⟩ = some (.string x.s) := cell_later hb (by rw [World.cell?_alloc_at _ _ _ _ (by simp [World.setCell])]; rfl)
  have m4 : w1.cell? ⟨w.heap.size, 4, none⟩ = some (.string x.t) := cell_later hb (by rw [World.cell?_alloc_at _ _ _ _ (by simp [World.setCell])]; rfl)
  have m5 : w1.cell? ⟨w.heap.size, 5, none⟩ = some (.string x.u) := cell_later hb (by rw [World.cell?_alloc_at _ _ _ _ (by simp [World.setCell])]; rfl)
  have m6 : w1.cell? ⟨w.heap.size, 6, none⟩ = some (.int .i64 x.line) := cell_later hb (by rw [World.cell?_alloc_at _ _ _ _ (by simp [World.setCell])]; rfl)
  have m7 : w1.cell? ⟨w.heap.size, 7, none⟩ = some (.int .i64 x.col) := cell_later hb (by rw [World.cell?_alloc_at _ _ _ _ (by simp [World.setCell])]; rfl)
  clear hI0 hK0 hb n0 n1 n2 n3 n4 n5 n6 n7 c0 c1 c12 fz fz2
  rw [h4.out] at m0
  rw [hta.out] at m4
  rw [htu.out] at m5
  have hs := str_size_le ha
  have hs2 := str_size_le hu
  have hl := str_fn a u
  go_wp2_with fail
  refine (made_any _ (.fn a u) p _).mono ?_
  rw [show madeM (.fn a u) = .error 21 by simp [madeM]; exact Nat.not_le.1 hfn.out]
  rintro e w2 ⟨hb2, rfl⟩
  rw [X.out]
  exact ⟨rfl, TypedRes.bad rfl (HK1.out.trans (Keep.of hb2))⟩
set_option maxHeartbeats 1600000 in
theorem typed_rec_large {T : List Nd} (hT : T.length ≤ 16384) (f : Nat)  (g r : Nat) (tv ev : Value) (env : List Ty) (p q : Nat) (w : World) (I : Inv T g r tv p w) (he : Tys w ev env) (hfit : ∀ t ∈ env, t.fits) (hlen : env.length + 2 * (f + 1) ≤ 3000)
    (x : Nd) (hx : T[p]? = some x) (hk : kidsOk x = true) (hq : timesM (shapeM T f) x.kids.toNat (p + 1) = .ok q) (wr : Option Int) (hw : wordsM x env.length = wr) (he0 : wr = none) (h4 : Hid (x.kind = 6)) (a u : Ty) (ha : a.fits) (hu : u.fits) (hta : Hid (x.t = a.str)) (htu : Hid (x.u = u.str)) (hfn : Hid (¬ (Ty.fn a u).fits)) (X : Hid (typedM T (f + 1) env p = .error (21, p))) :
    Calls Tryz.prog 32 #[.pointer (some ⟨g, 0, none⟩), ev] w (TypedRes g tv (.map (some r)) w (typedM T (f + 1) env p)) := by
  obtain ⟨A, c, rfl, hlc, hN⟩ := I.nodes
  obtain ⟨EA, ec, rfl⟩ := tys_form he
  have c0 := I.ck.c0
  have c1 := I.ck.c1
  have fz := I.ck.free 1
  have hgl := I.ck.lt
  have hpl : p < T.length := (List.getElem?_eq_some_iff.1 hx).1
  obtain ⟨b, off, rfl, hM⟩ := hN (by omega)
  obtain ⟨n0, n1, n2, n3, n4, n5, n6, n7⟩ := hM.at_ hx
  have i1 : (p : Int) < (T.length : Int) := by omega
  have fz2 : ∀ o, (w.alloc o).frozen? ⟨g, 1, none⟩ = false := fun o => by rw [World.frozen?_alloc_old _ _ _ (by simp; omega)]; exact fz
  have c12 : ∀ o, (w.alloc o).cell? ⟨g, 1, none⟩ = some (.int .i64 p) := fun o => by rw [World.cell?_alloc_lt w o _ (by simpa using hgl)]; exact c1
  have HI := Lib.hid I; have HE := Lib.hid he; have HF := Lib.hid hfit; have HX := Lib.hid hx; have HK := Lib.hid hk; have HQ := Lib.hid hq
  have HX := Lib.hid hx
  have HW := Lib.hid hw
  clear hx hN hM hk hq I he hfit hw
  go_enter Tryz.func32, Tryz.ntmps32
  go_wp2_with fail
  refine (show Calls Tryz.prog 84 #[x.val, .int .i64 p, .int .i64 env.length] _ (WordsRes (wordsM x env.length) p _) from words_any x p env.length _ (by omega)).mono ?_
  rw [HW.out]
  subst he0
  rintro e w1 ⟨hb, rfl⟩
  have hK0 : Keep g w ((w.setCell ⟨g, 1, none⟩ (.int .i64 ((p : Int) + 1))).alloc (nodeCells x)) := ((Keep.refl g w).setCell 1 _).alloc _
  have hI0 : Inv T g r (.slice (some ⟨b, off, none⟩) T.length c) (p + 1) ((w.setCell ⟨g, 1, none⟩ (.int .i64 ((p : Int) + 1))).alloc (nodeCells x)) := HI.out.step1.later ((Below.refl _ _).alloc (Nat.le_refl _) _)
  have HI1 := Lib.hid (hI0.later hb)
  have HK1 := Lib.hid (hK0.trans (Keep.of hb))
  have HE1 := Lib.hid (HI.out.tys (hK0.trans (Keep.of hb)) HE.out)
  have hsz : w.heap.size + 1 ≤ w1.heap.size := by have := hb.size; simp [World.setCell] at this; omega
  have m0 : w1.cell? ⟨w.heap.size, 0, none⟩ = some (.int .i8 x.kind) := cell_later hb (by rw [World.cell?_alloc_at _ _ _ _ (by simp [World.setCell])]; rfl)
  have m1 : w1.cell? ⟨w.heap.size, 1, none⟩ = some (.int .i64 x.kids) := cell_later hb (by rw [World.cell?_alloc_at _ _ _ _ (by simp [World.setCell])]; rfl)
  have m2 : w1.cell? ⟨w.heap.size, 2, none⟩ = some (.int .i64 x.n) := cell_later hb (by rw [World.cell?_alloc_at _ _ _ _ (by simp [World.setCell])]; rfl)
  have m3 : w1.cell? ⟨w.heap.size, 3, none⟩ = some (.string x.s) := cell_later hb (by rw [World.cell?_alloc_at _ _ _ _ (by simp [World.setCell])]; rfl)
  have m4 : w1.cell? ⟨w.heap.size, 4, none⟩ = some (.string x.t) := cell_later hb (by rw [World.cell?_alloc_at _ _ _ _ (by simp [World.setCell])]; rfl)
  have m5 : w1.cell? ⟨w.heap.size, 5, none⟩ = some (.string x.u) := cell_later hb (by rw [World.cell?_alloc_at _ _ _ _ (by simp [World.setCell])]; rfl)
  have m6 : w1.cell? ⟨w.heap.size, 6, none⟩ = some (.int .i64 x.line) := cell_later hb (by rw [World.cell?_alloc_at _ _ _ _ (by simp [World.setCell])]; rfl)
  have m7 : w1.cell? ⟨w.heap.size, 7, none⟩ = some (.int .i64 x.col) := cell_later hb (by rw [World.cell?_alloc_at _ _ _ _ (by simp [World.setCell])]; rfl)
  clear hI0 hK0 hb n0 n1 n2 n3 n4 n5 n6 n7 c0 c1 c12 fz fz2
  rw [h4.out] at m0
  rw [hta.out] at m4
  rw [htu.out] at m5
  have hs := str_size_le ha
  have hs2 := str_size_le hu
  have hl := str_fn a u
  go_wp2_with fail
  refine (made_any _ (.fn a u) p _).mono ?_
  rw [show madeM (.fn a u) = .error 21 by simp [madeM]; exact Nat.not_le.1 hfn.out]
  rintro e w2 ⟨hb2, rfl⟩
  rw [X.out]
  exact ⟨rfl, TypedRes.bad rfl (HK1.out.trans (Keep.of hb2))⟩

set_option maxHeartbeats 1600000 in
theorem typed_let {T : List Nd} (hT : T.length ≤ 16384) (f : Nat) (ih : TypedC T f) (g r : Nat) (tv ev : Value) (env : List Ty) (p q : Nat) (w : World) (I : Inv T g r tv p w) (he : Tys w ev env) (hfit : ∀ t ∈ env, t.fits) (hlen : env.length + 2 * (f + 1) ≤ 3000)
    (x : Nd) (hx : T[p]? = some x) (hk : kidsOk x = true) (hq : timesM (shapeM T f) x.kids.toNat (p + 1) = .ok q) (wr : Option Int) (hw : wordsM x env.length = wr) (he0 : wr = none) (h4 : Hid (x.kind = 8)) (q1 : Nat) (hs1 : Hid (shapeM T f (p + 1) = .ok q1)) (hs2 : Hid (shapeM T f q1 = .ok q)) (X : Hid (typedM T (f + 1) env p = match typedM T f env (p + 1) with | .error e => .error e | .ok (a, q) => typedM T f (a :: env) q)) :
    Calls Tryz.prog 32 #[.pointer (some ⟨g, 0, none⟩), ev] w (TypedRes g tv (.map (some r)) w (typedM T (f + 1) env p)) := by
  obtain ⟨A, c, rfl, hlc, hN⟩ := I.nodes
  obtain ⟨EA, ec, rfl⟩ := tys_form he
  have c0 := I.ck.c0
  have c1 := I.ck.c1
  have fz := I.ck.free 1
  have hgl := I.ck.lt
  have hpl : p < T.length := (List.getElem?_eq_some_iff.1 hx).1
  obtain ⟨b, off, rfl, hM⟩ := hN (by omega)
  obtain ⟨n0, n1, n2, n3, n4, n5, n6, n7⟩ := hM.at_ hx
  have i1 : (p : Int) < (T.length : Int) := by omega
  have fz2 : ∀ o, (w.alloc o).frozen? ⟨g, 1, none⟩ = false := fun o => by rw [World.frozen?_alloc_old _ _ _ (by simp; omega)]; exact fz
  have c12 : ∀ o, (w.alloc o).cell? ⟨g, 1, none⟩ = some (.int .i64 p) := fun o => by rw [World.cell?_alloc_lt w o _ (by simpa using hgl)]; exact c1
  have HI := Lib.hid I; have HE := Lib.hid he; have HF := Lib.hid hfit; have HX := Lib.hid hx; have HK := Lib.hid hk; have HQ := Lib.hid hq
  have HX := Lib.hid hx
  have HW := Lib.hid hw
  clear hx hN hM hk hq I he hfit hw
  go_enter Tryz.func32, Tryz.ntmps32
  go_wp2_with fail
  refine (show Calls Tryz.prog 84 #[x.val, .int .i64 p, .int .i64 env.length] _ (WordsRes (wordsM x env.length) p _) from words_any x p env.length _ (by omega)).mono ?_
  rw [HW.out]
  subst he0
  rintro e w1 ⟨hb, rfl⟩
  have hK0 : Keep g w ((w.setCell ⟨g, 1, none⟩ (.int .i64 ((p : Int) + 1))).alloc (nodeCells x)) := ((Keep.refl g w).setCell 1 _).alloc _
  have hI0 : Inv T g r (.slice (some ⟨b, off, none⟩) T.length c) (p + 1) ((w.setCell ⟨g, 1, none⟩ (.int .i64 ((p : Int) + 1))).alloc (nodeCells x)) := HI.out.step1.later ((Below.refl _ _).alloc (Nat.le_refl _) _)
  have HI1 := Lib.hid (hI0.later hb)
  have HK1 := Lib.hid (hK0.trans (Keep.of hb))
  have HE1 := Lib.hid (HI.out.tys (hK0.trans (Keep.of hb)) HE.out)
  have hsz : w.heap.size + 1 ≤ w1.heap.size := by have := hb.size; simp [World.setCell] at this; omega
  have m0 : w1.cell? ⟨w.heap.size, 0, none⟩ = some (.int .i8 x.kind) := cell_later hb (by rw [World.cell?_alloc_at _ _ _ _ (by simp [World.setCell])]; rfl)
  have m1 : w1.cell? ⟨w.heap.size, 1, none⟩ = some (.int .i64 x.kids) := cell_later hb (by rw [World.cell?_alloc_at _ _ _ _ (by simp [World.setCell])]; rfl)
  have m2 : w1.cell? ⟨w.heap.size, 2, none⟩ = some (.int .i64 x.n) := cell_later hb (by rw [World.cell?_alloc_at _ _ _ _ (by simp [World.setCell])]; rfl)
  have m3 : w1.cell? ⟨w.heap.size, 3, none⟩ = some (.string x.s) := cell_later hb (by rw [World.cell?_alloc_at _ _ _ _ (by simp [World.setCell])]; rfl)
  have m4 : w1.cell? ⟨w.heap.size, 4, none⟩ = some (.string x.t) := cell_later hb (by rw [World.cell?_alloc_at _ _ _ _ (by simp [World.setCell])]; rfl)
  have m5 : w1.cell? ⟨w.heap.size, 5, none⟩ = some (.string x.u) := cell_later hb (by rw [World.cell?_alloc_at _ _ _ _ (by simp [World.setCell])]; rfl)
  have m6 : w1.cell? ⟨w.heap.size, 6, none⟩ = some (.int .i64 x.line) := cell_later hb (by rw [World.cell?_alloc_at _ _ _ _ (by simp [World.setCell])]; rfl)
  have m7 : w1.cell? ⟨w.heap.size, 7, none⟩ = some (.int .i64 x.col) := cell_later hb (by rw [World.cell?_alloc_at _ _ _ _ (by simp [World.setCell])]; rfl)
  clear hI0 hK0 hb n0 n1 n2 n3 n4 n5 n6 n7 c0 c1 c12 fz fz2
  rw [h4.out] at m0
  clear m1 m2 m3 m4 m5 m6 m7
  go_wp2_with fail
  refine (ih g r _ (.slice EA env.length ec) env (p + 1) q1 _ HI1.out HE1.out HF.out (by omega) hs1.out).mono ?_
  cases hr : typedM T f env (p + 1) with
  | error fl =>
    obtain ⟨e0, p0⟩ := fl
    rintro e w2 ⟨hk2, rfl⟩
    rw [X.out, hr]
    exact ⟨rfl, TypedRes.bad rfl (HK1.out.trans hk2)⟩
  | ok bq =>
    obtain ⟨b0, q0⟩ := bq
    obtain ⟨rfl, hbf⟩ := typedM_ok T f env (p + 1) q1 b0 q0 HF.out hs1.out hr
    rintro e w2 ⟨hk2, rfl, hc2⟩
    have HI2 := Lib.hid (HI1.out.keep hk2 hc2)
    have HK2 := Lib.hid (HK1.out.trans hk2)
    have HE2 := Lib.hid (HI1.out.tys hk2 HE1.out)
    have HR := Lib.hid hr
    clear hr hk2 hc2 m0
    go_wp2_with fail
    refine (push_1 b0 (.slice EA env.length ec) env w2 HE2.out (by omega)).mono ?_
    rintro e w3 ⟨v3, rfl, ht3, hb3⟩
    have HI3 := Lib.hid (HI2.out.later hb3)
    have HK3 := Lib.hid (HK2.out.trans (Keep.of hb3))
    have HT3 := Lib.hid ht3
    clear hb3 ht3
    go_wp2_with fail
    refine (ih g r _ v3 (b0 :: env) q0 q _ HI3.out HT3.out (fits_cons hbf HF.out) (by simp; omega) hs2.out).mono ?_
    cases hr2 : typedM T f (b0 :: env) q0 with
    | error fl =>
      obtain ⟨e0, p0⟩ := fl
      rintro e w4 ⟨hk4, rfl⟩
      rw [X.out, HR.out]
      simp only [hr2]
      exact ⟨rfl, TypedRes.bad rfl (HK3.out.trans hk4)⟩
    | ok bq =>
      obtain ⟨b1, q2⟩ := bq
      rintro e w4 ⟨hk4, rfl, hc4⟩
      have HR2 := Lib.hid hr2
      have HC := Lib.hid hc4
      have HK4 := Lib.hid (HK3.out.trans hk4)
      clear hr2 hc4 hk4
      go_wp2_with fail
      go_ret
      rw [X.out, HR.out]
      simp only [HR2.out]
      exact TypedRes.ok_ rfl rfl HK4.out HC.out

end Go.Proofs.YtdfadmhomjcmeaaGreatDoor

/- Walks of package core: the type of a node: a node whose rule stands in the table. -/
namespace Go.Proofs.YtdfadmhomjcmeaaGreatDoor
set_option linter.unusedSimpArgs false
set_option linter.unusedVariables false
open Go.RowKit Culp

/-- What the kids so far make of the rest. -/
def ahead (ds : List Ty) : Except Flt (List Ty × Nat) → Except Flt (List Ty × Nat)
  | .error e => .error e
  | .ok (ts, q) => .ok (ds ++ ts, q)
theorem ahead_nil (r : Except Flt (List Ty × Nat)) : ahead [] r = r := by rcases r with e | ⟨ts, q⟩ <;> rfl
theorem ahead_step (ds : List Ty) (t : Ty) (r : Except Flt (List Ty × Nat)) : ahead (ds ++ [t]) r = ahead ds (match r with | .error e => .error e | .ok (ts, q) => .ok (t :: ts, q)) := by
  rcases r with e | ⟨ts, q⟩
  · rfl
  · simp [ahead]

def ownK (v : Value) (n : Nat) (xs : List Value) (B : Nat) (w : World) : Prop := w.ownsRow B 9 1 v n xs
theorem ownK.keep {v : Value} {n : Nat} {xs : List Value} {B g : Nat} {w w' : World} (h : ownK v n xs B w) (hg : g < B) (hk : Keep g w w') : ownK v n xs B w' := by
  refine ⟨h.1, ?_⟩
  rcases h.2 with hn | ⟨b, cap, cur, rfl, hb, hgg, rest⟩
  · exact .inl hn
  · refine .inr ⟨b, cap, cur, rfl, hb, ?_, rest⟩
    rw [hk.block b (Array.getElem?_eq_some_iff.1 hgg).1 (by omega)]
    exact hgg

theorem times_len {T : List Nd} {f : Nat} : ∀ (n p q : Nat), p ≤ T.length → timesM (shapeM T f) n p = .ok q → p + n ≤ q ∧ q ≤ T.length := by
  intro n
  induction n with
  | zero => intro p q hp h; have := times_zero h; omega
  | succ n ih =>
    intro p q hp h
    obtain ⟨m, h1, h2⟩ := times_succ h
    have h3 := shapeM_lt T f p m h1
    have h4 := shapeM_le T f p m h1
    have := ih m q h4 h2
    omega
theorem Keep.grow {g : Nat} {w w1 w2 : World} (h : Keep g w w1) (hb : Below w.heap.size w1 w2) : Keep g w w2 :=
  ⟨hb.os.trans h.os, hb.tape.trans h.tape, hb.output.trans h.output, Nat.le_trans h.size hb.size, fun k hk hg => (hb.block k hk).trans (h.block k hk hg)⟩
theorem Ck.grow {g : Nat} {tv mv : Value} {p B : Nat} {w w' : World} (h : Ck g tv mv p w) (hg : g < B) (hb : Below B w w') : Ck g tv mv p w' := (hb.block g hg).trans h

set_option maxHeartbeats 1600000 in
theorem typed_rule {T : List Nd} (hT : T.length ≤ 16384) (f : Nat) (ih : TypedC T f) (g r : Nat) (tv ev : Value) (env : List Ty) (p q : Nat) (w : World) (I : Inv T g r tv p w) (he : Tys w ev env) (hfit : ∀ t ∈ env, t.fits) (hlen : env.length + 2 * (f + 1) ≤ 3000)
    (x : Nd) (hx : T[p]? = some x) (hk : kidsOk x = true) (hq : timesM (shapeM T f) x.kids.toNat (p + 1) = .ok q) (wr : Option Int) (hw : wordsM x env.length = wr) (he0 : wr = none) (h4 : Hid (x.kind ≠ 4)) (h5 : Hid (x.kind ≠ 5)) (h6 : Hid (x.kind ≠ 6)) (h8 : Hid (x.kind ≠ 8)) (n : Nat) (hn : Hid (x.kids = n)) (X : Hid (typedM T (f + 1) env p = match kidsM (typedM T f env) n (p + 1) with | .error e => .error e | .ok (ks, q) => (match ruleM x ks with | .error e => .error (e, p) | .ok t => .ok (t, q)))) :
    Calls Tryz.prog 32 #[.pointer (some ⟨g, 0, none⟩), ev] w (TypedRes g tv (.map (some r)) w (typedM T (f + 1) env p)) := by
  obtain ⟨A, c, rfl, hlc, hN⟩ := I.nodes
  obtain ⟨EA, ec, rfl⟩ := tys_form he
  have c0 := I.ck.c0
  have c1 := I.ck.c1
  have fz := I.ck.free 1
  have hgl := I.ck.lt
  have hpl : p < T.length := (List.getElem?_eq_some_iff.1 hx).1
  obtain ⟨b, off, rfl, hM⟩ := hN (by omega)
  obtain ⟨n0, n1, n2, n3, n4, n5, n6, n7⟩ := hM.at_ hx
  have i1 : (p : Int) < (T.length : Int) := by omega
  have fz2 : ∀ o, (w.alloc o).frozen? ⟨g, 1, none⟩ = false := fun o => by rw [World.frozen?_alloc_old _ _ _ (by simp; omega)]; exact fz
  have c12 : ∀ o, (w.alloc o).cell? ⟨g, 1, none⟩ = some (.int .i64 p) := fun o => by rw [World.cell?_alloc_lt w o _ (by simpa using hgl)]; exact c1
  have HI := Lib.hid I; have HE := Lib.hid he; have HF := Lib.hid hfit; have HX := Lib.hid hx; have HK := Lib.hid hk; have HQ := Lib.hid hq
  have HX := Lib.hid hx
  have HW := Lib.hid hw
  clear hx hN hM hk hq I he hfit hw
  go_enter Tryz.func32, Tryz.ntmps32
  go_wp2_with fail
  refine (show Calls Tryz.prog 84 #[x.val, .int .i64 p, .int .i64 env.length] _ (WordsRes (wordsM x env.length) p _) from words_any x p env.length _ (by omega)).mono ?_
  rw [HW.out]
  subst he0
  rintro e w1 ⟨hb, rfl⟩
  have hK0 : Keep g w ((w.setCell ⟨g, 1, none⟩ (.int .i64 ((p : Int) + 1))).alloc (nodeCells x)) := ((Keep.refl g w).setCell 1 _).alloc _
  have hI0 : Inv T g r (.slice (some ⟨b, off, none⟩) T.length c) (p + 1) ((w.setCell ⟨g, 1, none⟩ (.int .i64 ((p : Int) + 1))).alloc (nodeCells x)) := HI.out.step1.later ((Below.refl _ _).alloc (Nat.le_refl _) _)
  have HI1 := Lib.hid (hI0.later hb)
  have HK1 := Lib.hid (hK0.trans (Keep.of hb))
  have HE1 := Lib.hid (HI.out.tys (hK0.trans (Keep.of hb)) HE.out)
  have hsz : w.heap.size + 1 ≤ w1.heap.size := by have := hb.size; simp [World.setCell] at this; omega
  have m0 : w1.cell? ⟨w.heap.size, 0, none⟩ = some (.int .i8 x.kind) := cell_later hb (by rw [World.cell?_alloc_at _ _ _ _ (by simp [World.setCell])]; rfl)
  have m1 : w1.cell? ⟨w.heap.size, 1, none⟩ = some (.int .i64 x.kids) := cell_later hb (by rw [World.cell?_alloc_at _ _ _ _ (by simp [World.setCell])]; rfl)
  have m2 : w1.cell? ⟨w.heap.size, 2, none⟩ = some (.int .i64 x.n) := cell_later hb (by rw [World.cell?_alloc_at _ _ _ _ (by simp [World.setCell])]; rfl)
  have m3 : w1.cell? ⟨w.heap.size, 3, none⟩ = some (.string x.s) := cell_later hb (by rw [World.cell?_alloc_at _ _ _ _ (by simp [World.setCell])]; rfl)
  have m4 : w1.cell? ⟨w.heap.size, 4, none⟩ = some (.string x.t) := cell_later hb (by rw [World.cell?_alloc_at _ _ _ _ (by simp [World.setCell])]; rfl)
  have m5 : w1.cell? ⟨w.heap.size, 5, none⟩ = some (.string x.u) := cell_later hb (by rw [World.cell?_alloc_at _ _ _ _ (by simp [World.setCell])]; rfl)
  have m6 : w1.cell? ⟨w.heap.size, 6, none⟩ = some (.int .i64 x.line) := cell_later hb (by rw [World.cell?_alloc_at _ _ _ _ (by simp [World.setCell])]; rfl)
  have m7 : w1.cell? ⟨w.heap.size, 7, none⟩ = some (.int .i64 x.col) := cell_later hb (by rw [World.cell?_alloc_at _ _ _ _ (by simp [World.setCell])]; rfl)
  clear hI0 hK0 hb n0 n1 n2 n3 n4 n5 n6 n7 c0 c1 c12 fz fz2
  rw [hn.out] at m1
  have HQ1 : Hid (timesM (shapeM T f) n (p + 1) = .ok q) := by rw [Hid, ← HQ.out, hn.out]; simp
  have e4 : (x.kind == 4) = false := beq_eq_false_iff_ne.2 h4.out
  have e5 : (x.kind == 5) = false := beq_eq_false_iff_ne.2 h5.out
  have e6 : (x.kind == 6) = false := beq_eq_false_iff_ne.2 h6.out
  have e8 : (x.kind == 8) = false := beq_eq_false_iff_ne.2 h8.out
  go_wp2_with fail
  have hnl : n ≤ 16384 := by have := times_len n (p + 1) q (by omega) HQ1.out; omega
  have hgw : g < w1.heap.size := by omega
  go_loopw [9, 103] (fun v i wr => ∃ (k pk : Nat) (ds : List Ty), k ≤ n ∧ i = .int .i64 k ∧ Hid (ds.length = k) ∧ Hid (∀ t ∈ ds, t.fits) ∧ Hid (timesM (shapeM T f) (n - k) pk = .ok q) ∧ Hid (kidsM (typedM T f env) n (p + 1) = ahead ds (kidsM (typedM T f env) (n - k) pk)) ∧ Hid (Ck g (.slice (some ⟨b, off, none⟩) T.length c) (.map (some r)) pk wr) ∧ Hid (Keep g w1 wr) ∧ Hid (ownK v ds.length (strs ds) w1.heap.size wr)) (fun _ i _ => n - (intOf i).toNat)
  case atStart => exact ⟨0, p + 1, [], by omega, rfl, rfl, Lib.hid (by simp), HQ1, Lib.hid (by rw [ahead_nil]; rfl), Lib.hid HI1.out.ck, Lib.hid (Keep.refl _ _), Lib.hid (World.ownsRow_nil _ _ _ _)⟩
  case round =>
    obtain ⟨k, pk, ds, hk, rfl, hdl, HD, HT, HM, HC, HKr, HO⟩ := hrel
    have HIr := Lib.hid (HI1.out.keep HKr.out HC.out)
    have HEr := Lib.hid (HI1.out.tys HKr.out HE1.out)
    by_cases hlt : k < n
    · obtain ⟨m, hm⟩ : ∃ m, n - k = m + 1 := ⟨n - k - 1, by omega⟩
      have HM2 := HM.out
      have HT2 := HT.out
      rw [hm] at HM2 HT2
      obtain ⟨pm, hs1, HT3⟩ := times_succ HT2
      simp only [kidsM] at HM2
      have HS1 := Lib.hid hs1
      cases hr : typedM T f env pk with
      | error fl =>
        obtain ⟨e0, p0⟩ := fl
        rw [hr] at HM2
        have HR := Lib.hid hr
        have Y := Lib.hid HM2
        clear hr HM2 HT2 HM HT HT3 hm hs1
        go_wp2_with fail
        refine (ih g r _ (.slice EA env.length ec) env pk pm _ HIr.out HEr.out HF.out (by omega) HS1.out).mono ?_
        rw [HR.out]
        rintro e w' ⟨hk4, rfl⟩
        show bodyPost Tryz.prog Tryz.f32 (TypedRes g _ _ w (typedM T (f + 1) env p)) (Exit.panic (flawV e0 p0)) _ w'
        rw [X.out, Y.out]
        exact ⟨rfl, TypedRes.bad rfl ((HK1.out.trans HKr.out).trans hk4)⟩
      | ok bq =>
        obtain ⟨b0, q0⟩ := bq
        obtain ⟨rfl, hbf⟩ := typedM_ok T f env pk pm b0 q0 HF.out hs1 hr
        rw [hr] at HM2
        simp only at HM2
        have HR := Lib.hid hr
        have Y : Hid (kidsM (typedM T f env) n (p + 1) = ahead (ds ++ [b0]) (kidsM (typedM T f env) (n - (k + 1)) q0)) := by
          rw [Hid, HM2, ahead_step, show n - (k + 1) = m by omega]; rcases kidsM (typedM T f env) m q0 with _ | ⟨_, _⟩ <;> rfl
        have Z : Hid (timesM (shapeM T f) (n - (k + 1)) q0 = .ok q) := by rw [Hid, show n - (k + 1) = m by omega]; exact HT3
        have hdf : Hid (∀ t ∈ ds ++ [b0], t.fits) := Lib.hid (by intro t ht; rcases List.mem_append.1 ht with h | h; exact HD.out t h; simp at h; subst h; exact hbf)
        clear hr HM2 HT2 HM HT HT3 hm hs1
        go_wp2_with fail
        refine (ih g r _ (.slice EA env.length ec) env pk q0 _ HIr.out HEr.out HF.out (by omega) HS1.out).mono ?_
        rw [HR.out]
        rintro e w2 ⟨hk2, rfl, hc2⟩
        have hKr2 := HKr.out.trans hk2
        have hown : w2.ownsRow w1.heap.size 9 1 _ ds.length (strs ds) := HO.out.keep hgw hk2
        have hC2 := Lib.hid hc2
        have HK2 := Lib.hid hKr2
        have hbase : w1.heap.size ≤ w2.heap.size := hKr2.size
        clear hk2 hc2 hKr2
        go_wp2_with (at_builtin; refine append_one rfl (.tmp 105) (.tmp 109) 24 9 rfl w1.heap.size _ 16 Tryz.underlying24 string_info rfl _ _ _ rfl hown _ rfl rfl ?_ ?_ ?_ ?_)
        · have := hdl.out; omega
        · have := hdl.out; omega
        · exact hbase
        · intro v' w' hown' hg hb'
          have hown2 : Hid (ownK v' (ds ++ [b0]).length (strs (ds ++ [b0])) w1.heap.size w') := Lib.hid (by simpa [strs, ownK] using hown')
          have HK3 := Lib.hid (Keep.grow HK2.out hb')
          have HC3 := Lib.hid (Ck.grow hC2.out hgw hb')
          clear hown' hg hb' hown
          go_wp2
          go_roundw
          case rel => exact ⟨k + 1, q0, ds ++ [b0], by omega, by go_num, Lib.hid (by have := hdl.out; simp; omega), hdf, Z, Y, HC3, HK3, hown2⟩
          case measure => simp [intOf]; omega
    · obtain rfl : k = n := by omega
      have hpk : pk = q := times_zero (by have := HT.out; rwa [Nat.sub_self] at this)
      subst hpk
      have Y : Hid (kidsM (typedM T f env) k (p + 1) = .ok (ds, pk)) := by rw [Hid, HM.out, Nat.sub_self]; simp [kidsM, ahead]
      clear HM HT
      go_wp2_with fail
      obtain ⟨v1, v2, v3, v4, hmap, o1, o2, o3, o4⟩ := HIr.out.rules
      have hks : Tys wr _ ds := Tys.own HO.out
      obtain ⟨KA, kc, rfl⟩ := tys_form hks
      have hgn : w.heap.size ≠ g := by omega
      replace m0 := HKr.out.cell m0 hgn
      replace m1 := HKr.out.cell m1 hgn
      rw [← hn.out] at m1
      replace m2 := HKr.out.cell m2 hgn
      replace m3 := HKr.out.cell m3 hgn
      replace m4 := HKr.out.cell m4 hgn
      replace m5 := HKr.out.cell m5 hgn
      replace m6 := HKr.out.cell m6 hgn
      replace m7 := HKr.out.cell m7 hgn
      have c2 := HC.out.c2
      have hbd : Below wr.heap.size wr wr.drew := (Below.refl _ _).drew
      obtain ⟨fv, hfv, F⟩ := rule_any (.pointer (some ⟨g, 0, none⟩)) x ds (.slice KA ds.length kc) p env.length wr.drew v1 v2 v3 v4 (o1.later hbd) (o2.later hbd) (o3.later hbd) (o4.later hbd) (hks.later hbd) HD.out HW.out HK.out (by have := hdl.out; have := hn.out; omega) h4.out h5.out h6.out h8.out (by have := hdl.out; omega)
      obtain ⟨fid, caps, rfl, hbod, hcall⟩ := F
      have HCall := Lib.hid hcall
      have HFv := Lib.hid hfv
      have HB := Lib.hid hbod
      clear hcall hfv hbod o1 o2 o3 o4
      refine wp_region_plan (S := fun w' => (w'.cell? ⟨g, 2, none⟩ = some (.map (some r)) ∧ w'.cell? ⟨w.heap.size, 0, none⟩ = some (.int .i8 x.kind) ∧ w'.cell? ⟨w.heap.size, 1, none⟩ = some (.int .i64 x.kids) ∧ w'.cell? ⟨w.heap.size, 2, none⟩ = some (.int .i64 x.n) ∧ w'.cell? ⟨w.heap.size, 3, none⟩ = some (.string x.s) ∧ w'.cell? ⟨w.heap.size, 4, none⟩ = some (.string x.t) ∧ w'.cell? ⟨w.heap.size, 5, none⟩ = some (.string x.u) ∧ w'.cell? ⟨w.heap.size, 6, none⟩ = some (.int .i64 x.line) ∧ w'.cell? ⟨w.heap.size, 7, none⟩ = some (.int .i64 x.col)) ∧ Hid (MapAt w' .i8 r (ruleTable v1 v2 v3 v4)))
        [(0, true), (1, true), (2, true), (3, true), (4, true), (5, true), (6, true), (7, true), (8, true), (9, true), (10, true), (11, false), (12, true)] (by kernel_rfl) (by kernel_rfl) (by kernel_rfl) (fun _ _ _ _ _ h => h) ⟨⟨cell_later hbd c2, cell_later hbd m0, cell_later hbd m1, cell_later hbd m2, cell_later hbd m3, cell_later hbd m4, cell_later hbd m5, cell_later hbd m6, cell_later hbd m7⟩, hmap.later hbd hmap.lt⟩ ?_
      intro HS
      repeat (first | (apply wpPlan_look; rfl; rfl; (intro wq hq; (try dsimp only at hq); go_split_ands; go_simp; (try rw [if_neg (by omega)]); (try rw [if_pos (by omega)]); try with_reducible rfl); simp only [Act.put, List.setIfInBounds_toArray, List.set_cons_zero, List.set_cons_succ]) | (apply wpPlan_skip; rfl; rfl; simp only [Act.put, List.setIfInBounds_toArray, List.set_cons_zero, List.set_cons_succ]) | (apply wpPlan_pass; rfl; rfl; assumption; simp only [Act.put, List.setIfInBounds_toArray, List.set_cons_zero, List.set_cons_succ]))
      apply wpPlan_look (v := .func (.func fid) #[] caps.toArray); rfl; rfl; (intro wq hq; have hl := run_lookup_there (P := Tryz.prog) wq 94 34 125 .i8 Tryz.underlying94 Tryz.underlying34 r _ x.kind _ hq.2.out HFv.out; simp [execOp, go_sem, hl]); simp only [Act.put, List.setIfInBounds_toArray, List.set_cons_zero, List.set_cons_succ]
      repeat (first | (apply wpPlan_look; rfl; rfl; (intro wq hq; (try dsimp only at hq); go_split_ands; go_simp; (try rw [if_neg (by omega)]); (try rw [if_pos (by omega)]); try with_reducible rfl); simp only [Act.put, List.setIfInBounds_toArray, List.set_cons_zero, List.set_cons_succ]) | (apply wpPlan_skip; rfl; rfl; simp only [Act.put, List.setIfInBounds_toArray, List.set_cons_zero, List.set_cons_succ]) | (apply wpPlan_pass; rfl; rfl; assumption; simp only [Act.put, List.setIfInBounds_toArray, List.set_cons_zero, List.set_cons_succ]))
      apply wpPlan_call2; rfl; rfl; rfl; rfl; exact HB.out; exact HCall.out; rfl
      cases hr : ruleM x ds with
      | error e0 =>
        rintro e w4 ⟨hb4, rfl⟩
        refine .inr ⟨_, rfl, ?_⟩
        rw [X.out, Y.out]
        simp only [hr]
        exact ⟨rfl, TypedRes.bad rfl ((HK1.out.trans HKr.out).trans (Keep.of (hbd.trans (hb4.mono (Nat.le_refl _)))))⟩
      | ok t0 =>
        rintro e w4 ⟨hb4, rfl⟩
        have hb4' := hbd.trans (hb4.mono (Nat.le_refl _))
        have HC4 := HC.out.later hb4'
        have HK4 := (HK1.out.trans HKr.out).trans (Keep.of hb4')
        refine .inl ⟨_, rfl, as_S ⟨⟨cell_later hb4 HS.1.1, cell_later hb4 HS.1.2.1, cell_later hb4 HS.1.2.2.1, cell_later hb4 HS.1.2.2.2.1, cell_later hb4 HS.1.2.2.2.2.1, cell_later hb4 HS.1.2.2.2.2.2.1, cell_later hb4 HS.1.2.2.2.2.2.2.1, cell_later hb4 HS.1.2.2.2.2.2.2.2.1, cell_later hb4 HS.1.2.2.2.2.2.2.2.2⟩, hmap.later hb4' hmap.lt⟩ ?_⟩
        have HR := Lib.hid hr
        clear HS hr hb4 hb4'
        intro HS
        simp only [Act.put, List.setIfInBounds_toArray, List.set_cons_zero, List.set_cons_succ]
        repeat (first | (apply wpPlan_look; rfl; rfl; (intro wq hq; (try dsimp only at hq); go_split_ands; go_simp; (try rw [if_neg (by omega)]); (try rw [if_pos (by omega)]); try with_reducible rfl); simp only [Act.put, List.setIfInBounds_toArray, List.set_cons_zero, List.set_cons_succ]) | (apply wpPlan_skip; rfl; rfl; simp only [Act.put, List.setIfInBounds_toArray, List.set_cons_zero, List.set_cons_succ]) | (apply wpPlan_pass; rfl; rfl; assumption; simp only [Act.put, List.setIfInBounds_toArray, List.set_cons_zero, List.set_cons_succ]))
        apply wpPlan_done
        go_wp2
        go_ret
        rw [X.out, Y.out]
        simp only [HR.out]
        exact TypedRes.ok_ rfl rfl HK4 HC4

theorem typed_any {T : List Nd} (hT : T.length ≤ 16384) : ∀ f, TypedC T f
  | 0 => fun g r tv ev env p q w I he hfit hlen hs => absurd hs shape_zero_no
  | f + 1 => fun g r tv ev env p q w I he hfit hlen hs => by
    have ih := typed_any hT f
    obtain ⟨x, hx, hk, hq⟩ := shape_ok hs
    cases hw : wordsM x env.length with
    | some e0 => exact typed_bad hT f g r tv ev env p q w I he hfit hlen x hx hk hq _ hw e0 rfl (Lib.hid (by rw [typedM, hx]; simp only [hw]))
    | none =>
      by_cases h4 : x.kind = 4
      · have hw2 := hw
        simp only [wordsM, h4] at hw2
        have hn : 0 ≤ x.n ∧ x.n < (env.length : Int) := by
          refine Decidable.byContradiction fun hc => ?_
          rw [if_neg hc] at hw2
          simp at hw2
        have hkl : x.n.toNat < env.length := by omega
        refine typed_var hT f g r tv ev env p q w I he hfit hlen x hx hk hq _ hw rfl (Lib.hid h4) x.n.toNat (Lib.hid (by omega)) hkl (Lib.hid ?_)
        rw [typedM, hx]
        simp only [hw, h4, if_true, List.getElem?_eq_getElem hkl]
      · by_cases h56 : x.kind = 5 ∨ x.kind = 6
        · have h0 := kids_ok hk (a := 1) (by rcases h56 with h | h <;> rw [h] <;> rfl)
          have hk1 : x.kids.toNat = 1 := by omega
          have hs1 := hq
          rw [hk1] at hs1
          have hs1 := times_one hs1
          cases ht : tyOf x.t with
          | none => rcases h56 with h | h <;> simp [wordsM, h, ht] at hw
          | some a =>
            cases hu : tyOf x.u with
            | none => rcases h56 with h | h <;> simp [wordsM, h, ht, hu] at hw
            | some u =>
              obtain ⟨ha1, ha2⟩ := tyOf_good ht
              obtain ⟨hu1, hu2⟩ := tyOf_good hu
              by_cases hf : (Ty.fn a u).fits
              · have hm : madeM (.fn a u) = .ok (.fn a u) := by simp [madeM]; exact hf
                rcases h56 with h | h
                · refine typed_fn hT f ih g r tv ev env p q w I he hfit hlen x hx hk hq _ hw rfl (Lib.hid h) a u ha2 hu2 (Lib.hid ha1) (Lib.hid hu1) (Lib.hid hf) (Lib.hid hs1) (Lib.hid ?_)
                  rw [typedM, hx]
                  simp [hw, h, ht, hu, hm, atM]
                · refine typed_rec hT f ih g r tv ev env p q w I he hfit hlen x hx hk hq _ hw rfl (Lib.hid h) a u ha2 hu2 (Lib.hid ha1) (Lib.hid hu1) (Lib.hid hf) (Lib.hid hs1) (Lib.hid ?_)
                  rw [typedM, hx]
                  simp [hw, h, ht, hu, hm, atM]
              · have hm : madeM (.fn a u) = .error 21 := by simp [madeM]; exact Nat.not_le.1 hf
                rcases h56 with h | h
                · refine typed_fn_large hT f g r tv ev env p q w I he hfit hlen x hx hk hq _ hw rfl (Lib.hid h) a u ha2 hu2 (Lib.hid ha1) (Lib.hid hu1) (Lib.hid hf) (Lib.hid ?_)
                  rw [typedM, hx]
                  simp [hw, h, ht, hu, hm, atM]
                · refine typed_rec_large hT f g r tv ev env p q w I he hfit hlen x hx hk hq _ hw rfl (Lib.hid h) a u ha2 hu2 (Lib.hid ha1) (Lib.hid hu1) (Lib.hid hf) (Lib.hid ?_)
                  rw [typedM, hx]
                  simp [hw, h, ht, hu, hm, atM]
        · have h5 : x.kind ≠ 5 := fun h => h56 (.inl h)
          have h6 : x.kind ≠ 6 := fun h => h56 (.inr h)
          by_cases h8 : x.kind = 8
          · have h0 := kids_ok hk (a := 2) (by rw [h8]; rfl)
            have hk1 : x.kids.toNat = 2 := by omega
            have hs1 := hq
            rw [hk1] at hs1
            obtain ⟨m, hs1, hs2⟩ := times_succ hs1
            have hs2 := times_one hs2
            refine typed_let hT f ih g r tv ev env p q w I he hfit hlen x hx hk hq _ hw rfl (Lib.hid h8) m (Lib.hid hs1) (Lib.hid hs2) (Lib.hid ?_)
            rw [typedM, hx]
            simp [hw, h8]
            rfl
          · have h0 : 0 ≤ x.kids := by
              obtain ⟨a, ha, h0, _⟩ := kids_facts hk
              exact h0
            refine typed_rule hT f ih g r tv ev env p q w I he hfit hlen x hx hk hq _ hw rfl (Lib.hid h4) (Lib.hid h5) (Lib.hid h6) (Lib.hid h8) x.kids.toNat (Lib.hid (by omega)) (Lib.hid ?_)
            rw [typedM, hx]
            simp only [hw, if_neg h4, if_neg h5, if_neg h6, if_neg h8]
            rfl
end Go.Proofs.YtdfadmhomjcmeaaGreatDoor

/- Walks of package core: Check, with its deferred closure. -/
namespace Go.Proofs.YtdfadmhomjcmeaaGreatDoor
set_option linter.unusedSimpArgs false
set_option linter.unusedVariables false
open Go.RowKit Culp

theorem assert_nil (w : World) : (Instr.typeAssert .nilIface 20 91 true).run Tryz.prog w = .ok (.tuple #[.agg #[.int .i64 0, .int .i64 0], .bool false]) w := by kernel_rfl
theorem assert_flaw (e p : Int) (w : World) : (Instr.typeAssert (.iface 91 (.agg #[.int .i64 e, .int .i64 p])) 20 91 true).run Tryz.prog w = .ok (.tuple #[.agg #[.int .i64 e, .int .i64 p], .bool true]) w := by kernel_rfl

/-- A block of one cell. -/
def COne (a : Nat) (t : TypeId) (v : Value) (w : World) : Prop := w.heap[a]? = some (.cells #[v] t (0, 0))
theorem COne.cell {a : Nat} {t : TypeId} {v : Value} {w : World} (h : COne a t v w) : w.cell? ⟨a, 0, none⟩ = some v := by unfold COne at h; simp [World.cell?, h]
theorem COne.free {a : Nat} {t : TypeId} {v : Value} {w : World} (h : COne a t v w) : w.frozen? ⟨a, 0, none⟩ = false := by unfold COne at h; simp [World.frozen?, h]
theorem COne.put {a : Nat} {t : TypeId} {v : Value} {w : World} (h : COne a t v w) (u : Value) : COne a t u (w.setCell ⟨a, 0, none⟩ u) := by
  unfold COne at h ⊢
  simp [World.setCell, Array.getElem?_modify, h]
theorem COne.other {a b : Nat} {t : TypeId} {v : Value} {w : World} (h : COne a t v w) (hb : b ≠ a) (u : Value) : COne a t v (w.setCell ⟨b, 0, none⟩ u) := by
  unfold COne at h ⊢
  rw [Below.heap_setCell _ _ _ _ (by simpa using hb.symm)]
  exact h
theorem COne.later {a : Nat} {t : TypeId} {v : Value} {w w' : World} (h : COne a t v w) (hb : Below w.heap.size w w') : COne a t v w' := (hb.block a (Array.getElem?_eq_some_iff.1 h).1).trans h
theorem other_cell {a b j : Nat} {v : Value} {w : World} (h : w.cell? ⟨a, j, none⟩ = some v) (hb : b ≠ a) (u : Value) : (w.setCell ⟨b, 0, none⟩ u).cell? ⟨a, j, none⟩ = some v := by
  rw [World.cell?_of_block (w := w) (Below.heap_setCell _ _ _ _ (by simpa using hb.symm))]
  exact h
theorem cmode_same {c₀ : Frame} {cs : List Frame} {u : FrameMode} (hu : c₀.mode = u) : c₀ :: cs = { c₀ with mode := u } :: cs := by cases c₀; simp_all

theorem ccatch_idle (a b d : Nat) (w : World) :
    CallsD Tryz.prog 28 #[.pointer (some ⟨a, 0, none⟩), .pointer (some ⟨b, 0, none⟩), .pointer (some ⟨d, 0, none⟩)] .returning w fun e u' w' => e = .returned (.tuple #[]) ∧ u' = .returning ∧ Below w.heap.size w w' := by
  have ha := @assert_nil
  refine callsD_of_wpS Tryz.func28 rfl fun c₀ cs hu => ?_
  simp only [Tryz.ntmps28, Array.replicate, List.replicate, List.size_toArray, List.length_cons, List.length_nil]
  apply wpS_seq
  apply wpS_region
  simp [wpOpsS, go_sem, recoverD, hu, Exit.thenS]
  refine wpS_of_wp ?_
  go_wp2
  exact ⟨rfl, _, cmode_same hu, _, results_none rfl _ _ _, rfl, rfl, (Below.refl _ _).alloc (Nat.le_refl _) _⟩

theorem catch_flaw (a b d B : Nat) (e p : Int) (x y z : Value) (older : List PanicEntry) (w : World) (hx : w.heap[a]? = some (.cells #[x] 9 (0, 0))) (hy : w.heap[b]? = some (.cells #[y] 25 (0, 0))) (hz : w.heap[d]? = some (.cells #[z] 3 (0, 0)))
    (hab : a ≠ b) (had : a ≠ d) (hbd : b ≠ d) (ha : B ≤ a) (hb : B ≤ b) (hd : B ≤ d) :
    CallsD Tryz.prog 28 #[.pointer (some ⟨a, 0, none⟩), .pointer (some ⟨b, 0, none⟩), .pointer (some ⟨d, 0, none⟩)] (.panicking ({ v := .iface 91 (.agg #[.int .i64 e, .int .i64 p]), recovered := false } :: older)) w fun en u' w' =>
      en = .returned (.tuple #[]) ∧ u' = .panicking ({ v := .iface 91 (.agg #[.int .i64 e, .int .i64 p]), recovered := true } :: older) ∧
      (w'.cell? ⟨a, 0, none⟩ = some (.string ⟨#[]⟩) ∧ w'.cell? ⟨b, 0, none⟩ = some (.int .i64 e) ∧ w'.cell? ⟨d, 0, none⟩ = some (.int .i64 p)) ∧ Below B w w' := by
  have hta := @assert_flaw
  have hal : a < w.heap.size := (Array.getElem?_eq_some_iff.1 hx).1
  have hbl : b < w.heap.size := (Array.getElem?_eq_some_iff.1 hy).1
  have hdl : d < w.heap.size := (Array.getElem?_eq_some_iff.1 hz).1
  have hx' := Lib.hid hx
  have hy' := Lib.hid hy
  have hz' := Lib.hid hz
  clear hx hy hz
  refine callsD_of_wpS Tryz.func28 rfl fun c₀ cs hu => ?_
  simp only [Tryz.ntmps28, Array.replicate, List.replicate, List.size_toArray, List.length_cons, List.length_nil]
  apply wpS_seq
  apply wpS_region
  simp [wpOpsS, go_sem, recoverD, hu, Exit.thenS]
  refine wpS_of_wp ?_
  go_wp2
  have hB0 : Below w.heap.size w (w.alloc (.cells #[.int .i64 e, .int .i64 p] 91)) := (Below.refl _ _).alloc (Nat.le_refl _) _
  have f0 : (w.alloc (.cells #[.int .i64 e, .int .i64 p] 91)).cell? ⟨w.heap.size, 0, none⟩ = some (.int .i64 e) := by go_simp
  have f1 : (w.alloc (.cells #[.int .i64 e, .int .i64 p] 91)).cell? ⟨w.heap.size, 1, none⟩ = some (.int .i64 p) := by go_simp
  have ox : COne a 9 x (w.alloc (.cells #[.int .i64 e, .int .i64 p] 91)).drew := (hB0.drew.block a hal).trans hx'.out
  have oy : COne b 25 y (w.alloc (.cells #[.int .i64 e, .int .i64 p] 91)).drew := (hB0.drew.block b hbl).trans hy'.out
  have oz : COne d 3 z (w.alloc (.cells #[.int .i64 e, .int .i64 p] 91)).drew := (hB0.drew.block d hdl).trans hz'.out
  have hB1 : Below B w (w.alloc (.cells #[.int .i64 e, .int .i64 p] 91)).drew := (hB0.mono (by omega)).drew
  generalize w.alloc (.cells #[.int .i64 e, .int .i64 p] 91) = w0 at *
  refine wp_region_plan (S := fun w' => w'.cell? ⟨w.heap.size, 0, none⟩ = some (.int .i64 e) ∧ w'.cell? ⟨w.heap.size, 1, none⟩ = some (.int .i64 p))
    [(0, true), (1, true), (2, true), (3, true), (4, false), (5, false), (6, false)] (by kernel_rfl) (by kernel_rfl) (by kernel_rfl) (fun _ _ _ _ _ h => h) ⟨f0, f1⟩ ?_
  intro HS
  repeat (first | (apply wpPlan_look; rfl; rfl; (intro wq hq; (try dsimp only at hq); go_split_ands; go_simp; (try rw [if_neg (by omega)]); (try rw [if_pos (by omega)]); try with_reducible rfl); simp only [Act.put, List.setIfInBounds_toArray, List.set_cons_zero, List.set_cons_succ]) | (apply wpPlan_skip; rfl; rfl; simp only [Act.put, List.setIfInBounds_toArray, List.set_cons_zero, List.set_cons_succ]) | (apply wpPlan_pass; rfl; rfl; assumption; simp only [Act.put, List.setIfInBounds_toArray, List.set_cons_zero, List.set_cons_succ]))
  clear f0 f1 hB0
  generalize w0.drew = w1 at *
  have o1 := ox.put (.string ⟨#[]⟩)
  have oy1 := oy.other hab (.string ⟨#[]⟩)
  have oz1 := oz.other had (.string ⟨#[]⟩)
  have hB2 : Below B w (w1.setCell ⟨a, 0, none⟩ (.string ⟨#[]⟩)) := hB1.setCell ha _
  have g0 := other_cell HS.1 (b := a) (by omega) (.string ⟨#[]⟩)
  have g1 := other_cell HS.2 (b := a) (by omega) (.string ⟨#[]⟩)
  refine wpPlan_run0 rfl rfl (by simp [execOp, go_sem, ox.cell, ox.free]) _ (fun _ h => h) ⟨g0, g1⟩ ?_
  simp only [Act.put, List.setIfInBounds_toArray, List.set_cons_zero, List.set_cons_succ]
  have oy2 := oy1.put (.int .i64 e)
  have ox2 := o1.other hab.symm (.int .i64 e)
  have oz2 := oz1.other hbd (.int .i64 e)
  have hB3 : Below B w ((w1.setCell ⟨a, 0, none⟩ (.string ⟨#[]⟩)).setCell ⟨b, 0, none⟩ (.int .i64 e)) := hB2.setCell hb _
  have g2 := other_cell g0 (b := b) (by omega) (.int .i64 e)
  have g3 := other_cell g1 (b := b) (by omega) (.int .i64 e)
  refine wpPlan_run0 rfl rfl (by simp [execOp, go_sem, oy1.cell, oy1.free]) _ (fun _ h => h) ⟨g2, g3⟩ ?_
  simp only [Act.put, List.setIfInBounds_toArray, List.set_cons_zero, List.set_cons_succ]
  have oz3 := oz2.put (.int .i64 p)
  have ox3 := ox2.other had.symm (.int .i64 p)
  have oy3 := oy2.other hbd.symm (.int .i64 p)
  have hB4 : Below B w (((w1.setCell ⟨a, 0, none⟩ (.string ⟨#[]⟩)).setCell ⟨b, 0, none⟩ (.int .i64 e)).setCell ⟨d, 0, none⟩ (.int .i64 p)) := hB3.setCell hd _
  have g4 := other_cell g2 (b := d) (by omega) (.int .i64 p)
  have g5 := other_cell g3 (b := d) (by omega) (.int .i64 p)
  refine wpPlan_run0 rfl rfl (by simp [execOp, go_sem, oz2.cell, oz2.free]) _ (fun _ h => h) ⟨g4, g5⟩ ?_
  simp only [Act.put, List.setIfInBounds_toArray, List.set_cons_zero, List.set_cons_succ]
  apply wpPlan_done
  exact ⟨rfl, _, rfl, _, results_none rfl _ _ _, rfl, rfl, ⟨ox3.cell, oy3.cell, oz3.cell⟩, hB4⟩

section
variable {P : Program} {ops : Array Oper} {Q : Exit → Act → World → Prop} {S : World → Prop}
/-- The rule for such a statement, where a panic's end leans on some slots that the statement does not write. -/
theorem wpPlan_any2 (hs : Region.noSelect ops = true) (hQ : ∀ (i : Nat) (o : Oper), ops[i]? = some o → ∀ c a v w, Q (.panic c) (a.put o.dst v) w → Q (.panic c) a w) :
    ∀ (l : List (Nat × Bool)) (S : World → Prop) (listed : Array Bool) (a : Act) (w : World), planOk ops listed l = true → S w → wpPlan P ops Q S l a w → wpAnyH P .any ops Q S l.length listed a w := by
  intro l
  induction l with
  | nil =>
    intro S listed a w hp _ h
    exact wpAnyH_done (by simpa [planOk] using hp) h 0
  | cons x l ih =>
    intro S listed a w hp hS h
    obtain ⟨i, b⟩ := x
    cases b with
    | true =>
      simp only [planOk, Bool.and_eq_true] at hp
      obtain ⟨o, v, ho, hy, h⟩ := h
      exact wpAnyH_take ho hs hp.1.1 hp.1.2 (fun c a w hq => hQ i o ho c a v w hq) hy hS (ih _ _ _ _ hp.2 hS h)
    | false =>
      simp only [planOk, Bool.and_eq_true] at hp
      have hr : Region.ready .any ops listed = [i] := by simpa using hp.1
      refine wpAnyH_all hr (by simp) (fun j hj => ?_)
      have : j = i := by simpa using hj
      subst this
      exact wpOp_mono (fun a' w' ⟨S', h1, h2, h3⟩ => ⟨h1 _ h2, wpAnyH_weak h1 _ _ _ _ (ih S' _ _ _ hp.2 h2 h3)⟩) h
theorem wp_region_plan2 {id : Nat} {a : Act} {w : World} (l : List (Nat × Bool)) (hm : P.follows .mixedOrders = true) (hs : Region.noSelect ops = true)
    (hp : (planOk ops (Array.replicate ops.size false) l && l.length == ops.size) = true) (n : Nat) (hd : (ops.toList.all fun o => match o.dst with | some d => decide (n ≤ d) | none => true) = true) (hQ : ∀ c a d v w, n ≤ d → Q (.panic c) (a.put (some d) v) w → Q (.panic c) a w)
    (hS : S w.drew) (h : S w.drew → wpPlan P ops Q S l a w.drew) : (Code.region id ops true).wp P Q a w := by
  simp only [Bool.and_eq_true, beq_iff_eq] at hp
  refine wp_region_held_drew hm hS (fun _ => ?_)
  have hQ2 : ∀ (i : Nat) (o : Oper), ops[i]? = some o → ∀ c a v w, Q (.panic c) (a.put o.dst v) w → Q (.panic c) a w := by
    intro i o ho c a v w hq
    have h1 := List.all_eq_true.1 hd o (by simpa using Array.mem_of_getElem? ho)
    cases hod : o.dst with
    | none => rw [hod] at hq; exact hq
    | some d =>
      rw [hod] at hq h1
      exact hQ c a d v w (by simpa using h1) hq
  have := wpPlan_any2 hs hQ2 l S _ a _ hp.1 hS (h hS)
  rw [hp.2] at this
  exact this
theorem leaves_tmps {fn : Func} {t1 t2 : Array Value} {R : Ending → World → Prop} (h : results fn t1 = results fn t2) : ∀ (ds : List Deferred) (u : FrameMode) (w : World), Leaves P fn t1 R ds u w → Leaves P fn t2 R ds u w := by
  intro ds
  induction ds with
  | nil =>
    intro u w hl
    cases u with
    | returning => simpa [Leaves, ← h] using hl
    | panicking c => exact hl
    | run => exact hl
  | cons d ds ih =>
    intro u w ⟨h1, fv, cap, f, args, h2, h3, h4⟩
    refine ⟨h1, fv, cap, f, args, h2, h3, h4.mono fun e u' w' hh => ?_⟩
    cases e with
    | returned v => exact ih _ _ hh
    | panicked c => exact ih _ _ hh
    | outgrown => exact hh
end
theorem results_put (t : Array Value) (d : Nat) (v : Value) (h : ¬ (d = 2 ∨ d = 3 ∨ d = 4)) : results Tryz.f8 (t.setIfInBounds d v) = results Tryz.f8 t := by
  have h2 : d ≠ 2 := fun e => h (.inl e)
  have h3 : d ≠ 3 := fun e => h (.inr (.inl e))
  have h4 : d ≠ 4 := fun e => h (.inr (.inr e))
  simp [results, Tryz.results8, Array.getD_eq_getD_getElem?, Array.getElem?_setIfInBounds, h2, h3, h4]

/-- What Check answers. -/
def checkV : Except Flt Ty → Value
  | .ok t => .tuple #[.string t.str, .int .i64 0, .int .i64 0]
  | .error (e, p) => .tuple #[.string ⟨#[]⟩, .int .i64 e, .int .i64 p]

set_option maxHeartbeats 800000 in
theorem Check_many (T : List Nd) (tv : Value) (w : World) (hn : Nodes w tv T) (h : 16384 < T.length) (hT : T.length ≤ 100000000) : Calls Tryz.prog 8 #[tv] w (Makes (checkV (checkM T)) w) := by
  have X : Hid (checkM T = .error (17, 0)) := by rw [Hid, checkM, if_pos h]
  obtain ⟨A, c, rfl, hlc, hN⟩ := hn
  clear hN
  have i1 : (16384 : Int) < (T.length : Int) := by omega
  go_enter_defers Tryz.func8, Tryz.ntmps8
  go_wp2_with fail
  rw [X.out]
  simp [bodyPostD, Leaves, settle, results, Tryz.results8, go_sem, checkV, Makes]
  exact (((Below.refl _ _).alloc (Nat.le_refl _) _).alloc (by simp) _).alloc (by simp; omega) _

/-- The three results' blocks, as a call goes on. -/
structure Res3 (B : Nat) (W w : World) : Prop where
  x : ∃ v, COne B 9 v w
  y : ∃ v, COne (B + 1) 25 v w
  z : ∃ v, COne (B + 1 + 1) 3 v w
  below : Below B W w
theorem Res3.keep {B g : Nat} {W w w' : World} (h : Res3 B W w) (hk : Keep g w w') (hg : B + 1 + 1 < g) : Res3 B W w' := by
  obtain ⟨⟨v1, h1⟩, ⟨v2, h2⟩, ⟨v3, h3⟩, hb⟩ := h
  have l1 := (Array.getElem?_eq_some_iff.1 h1).1
  have l2 := (Array.getElem?_eq_some_iff.1 h2).1
  have l3 := (Array.getElem?_eq_some_iff.1 h3).1
  refine ⟨⟨v1, (hk.block _ l1 (by omega)).trans h1⟩, ⟨v2, (hk.block _ l2 (by omega)).trans h2⟩, ⟨v3, (hk.block _ l3 (by omega)).trans h3⟩, ?_⟩
  exact ⟨hk.os.trans hb.os, hk.tape.trans hb.tape, hk.output.trans hb.output, Nat.le_trans hb.size hk.size, fun k hk1 => (hk.block k (by omega) (by omega)).trans (hb.block k hk1)⟩

theorem res3_start (w : World) : Res3 w.heap.size w (((w.alloc (.cells #[.string ⟨#[]⟩] 9)).alloc (.cells #[.int .i64 0] 25)).alloc (.cells #[.int .i64 0] 3)) := by
  have b1 : Below (w.heap.size + 1) (w.alloc (.cells #[.string ⟨#[]⟩] 9)) ((w.alloc (.cells #[.string ⟨#[]⟩] 9)).alloc (.cells #[.int .i64 0] 25)) := (Below.refl _ _).alloc (by simp) _
  have b2 : Below (w.heap.size + 1 + 1) ((w.alloc (.cells #[.string ⟨#[]⟩] 9)).alloc (.cells #[.int .i64 0] 25)) (((w.alloc (.cells #[.string ⟨#[]⟩] 9)).alloc (.cells #[.int .i64 0] 25)).alloc (.cells #[.int .i64 0] 3)) := (Below.refl _ _).alloc (by simp) _
  have h1 := heap_alloc_new (w.alloc (.cells #[.string ⟨#[]⟩] 9)) (.cells #[.int .i64 0] 25)
  have h2 := heap_alloc_new ((w.alloc (.cells #[.string ⟨#[]⟩] 9)).alloc (.cells #[.int .i64 0] 25)) (.cells #[.int .i64 0] 3)
  have e1 : (w.alloc (.cells #[.string ⟨#[]⟩] 9)).heap.size = w.heap.size + 1 := by simp
  have e2 : ((w.alloc (.cells #[.string ⟨#[]⟩] 9)).alloc (.cells #[.int .i64 0] 25)).heap.size = w.heap.size + 1 + 1 := by simp
  rw [e1] at h1
  rw [e2] at h2
  refine ⟨⟨.string ⟨#[]⟩, (b2.block _ (by omega)).trans ((b1.block _ (by omega)).trans (heap_alloc_new w _))⟩, ⟨.int .i64 0, (b2.block _ (by omega)).trans h1⟩, ⟨.int .i64 0, h2⟩, (((Below.refl _ _).alloc (Nat.le_refl _) _).alloc (by simp) _).alloc (by simp; omega) _⟩


set_option maxHeartbeats 1600000 in
theorem Check_short (T : List Nd) (tv : Value) (w : World) (hn : Nodes w tv T) (hT : T.length ≤ 16384) : Calls Tryz.prog 8 #[tv] w (Makes (checkV (checkM T)) w) := by
  have X : Hid (checkM T = match shapeM T 1024 0 with | .error e => .error e | .ok q => if q = T.length then (match typedM T 1024 [] 0 with | .error e => .error e | .ok (t, _) => .ok t) else .error (18, q)) := by rw [Hid, checkM, if_neg (by omega)]; rfl
  have hmf : ∀ (fn : Fn) (first cap : Array Value) (w : World), (Instr.makeFunc fn first cap).run Tryz.prog w = .ok (.func fn first cap) w := fun _ _ _ _ => rfl
  have HN := Lib.hid hn
  obtain ⟨A, c, rfl, hlc, hN⟩ := hn
  clear hN
  have i1 : ¬ (16384 : Int) < (T.length : Int) := by omega
  go_enter_defers Tryz.func8, Tryz.ntmps8
  go_wp2_with fail
  refine (rules_any _).mono ?_
  rintro e w1 ⟨r, rfl, hr, hR, hb⟩
  have hR0 := res3_start w
  have hsz1 : w.heap.size + 1 + 1 < w1.heap.size := by have := hb.size; simp at this; omega
  have hR1 := Lib.hid (hR0.keep (Keep.of (g := w1.heap.size) hb) hsz1)
  have HR := Lib.hid hR
  have hNo1 := (HN.out.later hR0.below).later hb
  have hrl : r < w1.heap.size := by obtain ⟨_, _, _, _, hm, _⟩ := hR; exact hm.lt
  have hB1 : Below w1.heap.size w1 (w1.alloc (.cells #[.slice A T.length c, .int .i64 0, .map (some r)] 97)) := (Below.refl _ _).alloc (Nat.le_refl _) _
  have hI : Inv T w1.heap.size r (.slice A T.length c) 0 (w1.alloc (.cells #[.slice A T.length c, .int .i64 0, .map (some r)] 97)) :=
    ⟨heap_alloc_new w1 _, hNo1.later hB1, by
      obtain ⟨v1, v2, v3, v4, hm, o1, o2, o3, o4⟩ := hR
      exact ⟨v1, v2, v3, v4, hm.later hB1 hm.lt, o1.later hB1, o2.later hB1, o3.later hB1, o4.later hB1⟩, by omega, by simp, by simp⟩
  have HI := Lib.hid hI
  clear hR0 hb hR hNo1 hI hB1
  go_wp2_with fail
  refine (shape_any hT 1024 w1.heap.size (.slice A T.length c) (.map (some r)) 0 1 _ rfl HI.out.ck (by simp) (by simp) HI.out.nodes (by omega)).mono ?_
  have HRa := Lib.hid (fun o => hR1.out.keep (Keep.of (g := w1.heap.size) ((Below.refl _ _).alloc (Nat.le_refl _) o)) hsz1)
  cases hs : shapeM T 1024 0 with
  | error fl =>
    obtain ⟨e0, p0⟩ := fl
    rintro e w2 ⟨hk, rfl⟩
    have hR2 := (HRa.out _).keep hk hsz1
    rw [X.out, hs]
    simp only
    refine leaves_cons (f := 28) (args := #[.pointer (some ⟨w.heap.size, 0, none⟩), .pointer (some ⟨w.heap.size + 1, 0, none⟩), .pointer (some ⟨w.heap.size + 1 + 1, 0, none⟩)]) (by simp) (by simp [go_sem]) ?_
    refine (catch_flaw w.heap.size (w.heap.size + 1) (w.heap.size + 1 + 1) w.heap.size _ _ _ _ _ [] _ hR2.x.choose_spec hR2.y.choose_spec hR2.z.choose_spec (by omega) (by omega) (by omega) (by omega) (by omega) (by omega)).mono ?_
    rintro e u' w'' ⟨rfl, rfl, ⟨k0, k1, k2⟩, hB⟩
    simp [Leaves, settle, results, Tryz.results8, go_sem, k0, k1, k2, checkV, Makes]
    exact hR2.below.trans hB
  | ok q =>
    rintro e w2 ⟨hk, rfl, hc2⟩
    have hR2 := Lib.hid ((HRa.out _).keep hk hsz1)
    have HI2 := Lib.hid (HI.out.keep hk hc2)
    have HS := Lib.hid hs
    have hgl : w1.heap.size < w2.heap.size := by have := hk.size; simp at this; omega
    clear hs hk hc2 HI
    have c1 := HI2.out.ck.c1
    go_wp2_with fail
    have hqe : ((q : Int) == (T.length : Int)) = decide (q = T.length) := by rw [Bool.eq_iff_iff]; simp only [beq_iff_eq, decide_eq_true_eq]; omega
    refine wp_region_plan2 (S := fun w' => w'.cell? ⟨w1.heap.size, 1, none⟩ = some (.int .i64 q))
      [(0, true), (1, true), (2, true), (3, true), (4, true), (5, true), (6, true), (7, true), (8, true), (9, true), (10, true), (11, false)] (by kernel_rfl) (by kernel_rfl) (by kernel_rfl) 5 (by kernel_rfl) (fun c a d v w' hd hq => leaves_tmps (results_put a.tmps d v (by omega)) _ _ _ hq) c1 ?_
    intro HSt
    by_cases hql : q = T.length
    · rw [decide_eq_true hql] at hqe
      have HQ := Lib.hid hql
      clear hql
      repeat (first | (apply wpPlan_look; rfl; rfl; (intro wq hq; (try dsimp only at hq); go_split_ands; go_simp; (try rw [if_neg (by omega)]); (try rw [if_pos (by omega)]); try with_reducible rfl); simp only [Act.put, List.setIfInBounds_toArray, List.set_cons_zero, List.set_cons_succ]) | (apply wpPlan_skip; rfl; rfl; simp only [Act.put, List.setIfInBounds_toArray, List.set_cons_zero, List.set_cons_succ]) | (apply wpPlan_pass; rfl; rfl; assumption; simp only [Act.put, List.setIfInBounds_toArray, List.set_cons_zero, List.set_cons_succ]))
      apply wpPlan_call2; rfl; rfl; rfl; rfl; kernel_rfl; exact need_yes 18 q _; rfl; rintro e w' ⟨rfl, rfl⟩
      refine .inl ⟨_, rfl, HSt, ?_⟩
      simp only [Act.put, List.setIfInBounds_toArray, List.set_cons_zero, List.set_cons_succ]
      apply wpPlan_done
      have hbd : Below w2.heap.size w2 w2.drew := (Below.refl _ _).drew
      have HI3 := Lib.hid (HI2.out.later hbd)
      have HR3 := Lib.hid (hR2.out.keep (Keep.of (g := w1.heap.size) hbd) hsz1)
      clear HSt hqe c1 hR2 HI2
      have hgl3 : w1.heap.size < w2.drew.heap.size := hgl
      clear hgl hbd
      generalize w2.drew = w3 at *
      have c1 := HI3.out.ck.c1
      have fz := HI3.out.ck.free 1
      go_wp2_with fail
      have HI4 := Lib.hid (HI3.out.step 0)
      refine (typed_any hT 1024 w1.heap.size r (.slice A T.length c) (.slice none 0 0) [] 0 q _ HI4.out (.inl ⟨rfl, rfl⟩) (by simp) (by simp) HS.out).mono ?_
      have HR4 := Lib.hid (HR3.out.keep ((Keep.refl w1.heap.size w3).setCell 1 (.int .i64 0)) hsz1)
      cases hty : typedM T 1024 [] 0 with
      | error fl =>
        obtain ⟨e0, p0⟩ := fl
        rintro e w4 ⟨hk, rfl⟩
        have hR5 := HR4.out.keep hk hsz1
        rw [X.out, HS.out]
        simp only [if_pos HQ.out, hty]
        refine leaves_cons (f := 28) (args := #[.pointer (some ⟨w.heap.size, 0, none⟩), .pointer (some ⟨w.heap.size + 1, 0, none⟩), .pointer (some ⟨w.heap.size + 1 + 1, 0, none⟩)]) (by simp) (by simp [go_sem]) ?_
        refine (catch_flaw w.heap.size (w.heap.size + 1) (w.heap.size + 1 + 1) w.heap.size _ _ _ _ _ [] _ hR5.x.choose_spec hR5.y.choose_spec hR5.z.choose_spec (by omega) (by omega) (by omega) (by omega) (by omega) (by omega)).mono ?_
        rintro e u' w'' ⟨rfl, rfl, ⟨k0, k1, k2⟩, hB⟩
        simp [Leaves, settle, results, Tryz.results8, go_sem, k0, k1, k2, checkV, Makes]
        exact hR5.below.trans hB
      | ok tq =>
        obtain ⟨t0, q0⟩ := tq
        rintro e w4 ⟨hk, rfl, hc4⟩
        have hR5 := HR4.out.keep hk hsz1
        obtain ⟨x1, hx1⟩ := hR5.x
        obtain ⟨y1, hy1⟩ := hR5.y
        obtain ⟨z1, hz1⟩ := hR5.z
        have k0 := hx1.cell
        have k0' := hx1.free
        have k1 := hy1.cell
        have k1' := hy1.free
        have k2 := hz1.cell
        have k2' := hz1.free
        have HT := Lib.hid hty
        have HB := Lib.hid hR5.below
        have HZ : Hid (w.heap.size + 1 + 1 < w4.heap.size) := (Array.getElem?_eq_some_iff.1 hz1).1
        have HX1 := Lib.hid hx1
        have HY1 := Lib.hid hy1
        have HZ1 := Lib.hid hz1
        clear hk hc4 hR5 hx1 hy1 hz1 hty
        go_wp2_with fail
        refine leaves_cons (f := 28) (args := #[.pointer (some ⟨w.heap.size, 0, none⟩), .pointer (some ⟨w.heap.size + 1, 0, none⟩), .pointer (some ⟨w.heap.size + 1 + 1, 0, none⟩)]) (by simp) (by simp [go_sem]) ?_
        refine (ccatch_idle _ _ _ _).mono ?_
        rintro e u' w'' ⟨rfl, rfl, hB⟩
        have z0 := (((HX1.out.put (.string t0.str)).other (b := w.heap.size + 1) (by omega) (.int .i64 0)).other (b := w.heap.size + 1 + 1) (by omega) (.int .i64 0)).later hB
        have z1 := (((HY1.out.other (b := w.heap.size) (by omega) (.string t0.str)).put (.int .i64 0)).other (b := w.heap.size + 1 + 1) (by omega) (.int .i64 0)).later hB
        have z2 := (((HZ1.out.other (b := w.heap.size) (by omega) (.string t0.str)).other (b := w.heap.size + 1) (by omega) (.int .i64 0)).put (.int .i64 0)).later hB
        have q0 := z0.cell
        have q1 := z1.cell
        have q2 := z2.cell
        have hBe : Below w.heap.size w w'' := (((HB.out.setCell (Nat.le_refl _) _).setCell (by simp) _).setCell (by simp; omega) _).trans (hB.mono (by have := HZ.out; simp [World.setCell]; omega))
        rw [X.out, HS.out]
        simp only [if_pos HQ.out, HT.out]
        simp [Leaves, settle, results, Tryz.results8, go_sem, q0, q1, q2, checkV, Makes]
        exact hBe
    · rw [decide_eq_false hql] at hqe
      have HQ := Lib.hid hql
      clear hql
      repeat (first | (apply wpPlan_look; rfl; rfl; (intro wq hq; (try dsimp only at hq); go_split_ands; go_simp; (try rw [if_neg (by omega)]); (try rw [if_pos (by omega)]); try with_reducible rfl); simp only [Act.put, List.setIfInBounds_toArray, List.set_cons_zero, List.set_cons_succ]) | (apply wpPlan_skip; rfl; rfl; simp only [Act.put, List.setIfInBounds_toArray, List.set_cons_zero, List.set_cons_succ]) | (apply wpPlan_pass; rfl; rfl; assumption; simp only [Act.put, List.setIfInBounds_toArray, List.set_cons_zero, List.set_cons_succ]))
      apply wpPlan_call2; rfl; rfl; rfl; rfl; kernel_rfl; exact need_no 18 q _; rfl; rintro e w' ⟨rfl, rfl⟩
      refine .inr ⟨_, rfl, ?_⟩
      have hR3 := hR2.out.keep (Keep.of (g := w1.heap.size) ((Below.refl _ _).drew)) hsz1
      rw [X.out, HS.out]
      simp only [if_neg HQ.out]
      refine leaves_cons (f := 28) (args := #[.pointer (some ⟨w.heap.size, 0, none⟩), .pointer (some ⟨w.heap.size + 1, 0, none⟩), .pointer (some ⟨w.heap.size + 1 + 1, 0, none⟩)]) (by simp) (by simp [go_sem]) ?_
      refine (catch_flaw w.heap.size (w.heap.size + 1) (w.heap.size + 1 + 1) w.heap.size _ _ _ _ _ [] _ hR3.x.choose_spec hR3.y.choose_spec hR3.z.choose_spec (by omega) (by omega) (by omega) (by omega) (by omega) (by omega)).mono ?_
      rintro e u' w'' ⟨rfl, rfl, ⟨k0, k1, k2⟩, hB⟩
      simp [Leaves, settle, results, Tryz.results8, go_sem, k0, k1, k2, checkV, Makes]
      exact hR3.below.trans hB

theorem coreCheck_any (T : List Nd) (tv : Value) (w : World) (hn : Nodes w tv T) (hT : T.length ≤ 100000000) : Calls Tryz.prog 8 #[tv] w (Makes (checkV (checkM T)) w) := by
  rcases Nat.lt_or_ge 16384 T.length with h | h
  · exact Check_many T tv w hn h hT
  · exact Check_short T tv w hn h
end Go.Proofs.YtdfadmhomjcmeaaGreatDoor

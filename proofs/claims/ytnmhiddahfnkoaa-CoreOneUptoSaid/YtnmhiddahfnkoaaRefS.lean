/- Walks of the document's answer for layer 10: the shape of a term. -/
import Derived.Test.YtnmhiddahfnkoaaRefW
namespace Go.Proofs.Ytnmhiddahfnkoaa
set_option linter.unusedSimpArgs false
set_option linter.unusedVariables false
open Go.RowKit Culp

/-- The nodes lie elsewhere. -/
def NodesX (g : Nat) (w : World) (tv : Value) (T : List Nd) : Prop := Nodes w tv T ∧ (0 < T.length → ∀ b off n c, tv = .slice (some ⟨b, off, none⟩) n c → b ≠ g)
theorem NodesX.keep {g : Nat} {w w' : World} {tv : Value} {T : List Nd} (h : NodesX g w tv T) (hk : Keep g w w') : NodesX g w' tv T := by
  obtain ⟨⟨A, c, rfl, hl, hN⟩, h2⟩ := h
  refine ⟨⟨A, c, rfl, hl, fun h0 => ?_⟩, h2⟩
  obtain ⟨b, off, rfl, hM⟩ := hN h0
  exact ⟨b, off, rfl, fun i x hx j u hu => hk.cell (hM i x hx j u hu) (h2 h0 b off _ _ rfl)⟩

theorem timesM_err {g : Nat → Except Flt Nat} (hg : ∀ p e n, g p = .error (e, n) → e ≠ 0) : ∀ (k p : Nat) (e : Int) (n : Nat), timesM g k p = .error (e, n) → e ≠ 0 := by
  intro k
  induction k with
  | zero => intro p e n h; simp [timesM] at h
  | succ k ih =>
    intro p e n h
    simp only [timesM] at h
    split at h
    · rename_i f hf; cases h; exact hg _ _ _ hf
    · exact ih _ _ _ h
theorem shapeM_err (T : List Nd) : ∀ (f p : Nat) (e : Int) (n : Nat), shapeM T f p = .error (e, n) → e ≠ 0 := by
  intro f
  induction f with
  | zero =>
    intro p e n h
    rw [shapeM] at h
    split at h
    · cases h; decide
    · split at h <;> cases h <;> decide
  | succ f ih =>
    intro p e n h
    rw [shapeM] at h
    split at h
    · cases h; decide
    · split at h
      · exact timesM_err ih _ _ _ _ h
      · cases h; decide

def RShapeRes (g : Nat) (tv av : Value) (w : World) (r : Except Flt Nat) (en : Ending) (w' : World) : Prop :=
  en = .returned (.tuple #[]) ∧ Keep g w w' ∧ match r with
    | .ok q => Wk g tv q 0 0 av w'
    | .error (e, p) => ∃ q : Int, Wk g tv q e p av w'
def RShapeC (T : List Nd) (f : Nat) : Prop := ∀ (g : Nat) (tv av : Value) (p d : Nat) (w : World), d + f = 1025 → Wk g tv p 0 0 av w → NodesX g w tv T → p ≤ T.length →
  Calls Try.prog 56 #[.pointer (some ⟨g, 0, none⟩), .int .i64 d] w (RShapeRes g tv av w (shapeM T f p))

theorem arM_vals {k a : Int} (ha : arM k = some a) : a = -1 ∨ 0 ≤ a := by
  unfold arM at ha
  rcases ite_or ha with h | ha
  · cases h; omega
  rcases ite_or ha with h | ha
  · cases h; omega
  rcases ite_or ha with h | ha
  · cases h; omega
  rcases ite_or ha with h | ha
  · cases h; omega
  rcases ite_or ha with h | ha
  · cases h; omega
  · cases ha
/-- How a node's number of kids was told not to fit. -/
theorem kd_bad {x : Nd} (hk : kidsOk x = false) : (kdM x.kind == -2) = true ∨ ((kdM x.kind == -2) = false ∧ ((0 ≤ kdM x.kind ∧ (x.kids != kdM x.kind) = true) ∨ (decide (0 ≤ kdM x.kind) = false ∧ decide (x.kids < 0) = true) ∨ (0 ≤ kdM x.kind ∧ (x.kids != kdM x.kind) = false ∧ decide (x.kids < 0) = true))) := by
  unfold kdM
  cases ha : arM x.kind with
  | none => left; rfl
  | some a =>
    rw [kidsOk_of ha] at hk
    have ha' := arM_vals ha
    right
    refine ⟨beq_eq_false_iff_ne.2 (by simp only; omega), ?_⟩
    simp only [Bool.and_eq_false_iff, Bool.or_eq_false_iff, decide_eq_false_iff_not] at hk
    by_cases h0 : 0 ≤ a
    · by_cases h1 : x.kids = a
      · right; right; refine ⟨h0, by simp [h1], decide_eq_true ?_⟩; omega
      · left; exact ⟨h0, by simpa using h1⟩
    · right; left; refine ⟨decide_eq_false h0, decide_eq_true ?_⟩; omega
theorem kd_good {x : Nd} (hk : kidsOk x = true) : (kdM x.kind == -2) = false ∧ 0 ≤ x.kids ∧ (decide (0 ≤ kdM x.kind) = false ∨ (0 ≤ kdM x.kind ∧ (x.kids != kdM x.kind) = false)) := by
  obtain ⟨a, ha, h0, h1⟩ := kids_facts hk
  unfold kdM
  rw [ha]
  have ha' := arM_vals ha
  refine ⟨beq_eq_false_iff_ne.2 (by simp only; omega), h0, ?_⟩
  rcases h1 with h | ⟨_, h⟩
  · left; have := beq_iff_eq.1 h; exact decide_eq_false (by simp only; omega)
  · have := beq_iff_eq.1 h
    by_cases h2 : 0 ≤ a
    · right; exact ⟨h2, by simp [this]⟩
    · left; exact decide_eq_false h2

set_option maxHeartbeats 1600000 in
theorem rshape_end {T : List Nd} (hT : T.length ≤ 16384) (f : Nat) (g : Nat) (tv av : Value) (p : Nat) (d : Int) (w : World) (hc : Wk g tv p 0 0 av w) (hn : NodesX g w tv T) (hx : T[p]? = none) (hp : p ≤ T.length) :
    Calls Try.prog 56 #[.pointer (some ⟨g, 0, none⟩), .int .i64 d] w (RShapeRes g tv av w (shapeM T f p)) := by
  obtain ⟨⟨A, c, rfl, hlc, hN⟩, hX⟩ := hn
  have c0 := hc.c0
  have c1 := hc.c1
  have hpl : p = T.length := by have := List.getElem?_eq_none_iff.1 hx; omega
  have X : Hid (shapeM T f p = .error (18, p)) := by rw [Hid, shapeM.eq_def]; simp only [hx]
  have HC := Lib.hid hc
  subst hpl
  clear hx hN hX hc
  go_enter Try.func56, Try.ntmps56
  go_wp2_with fail
  refine (rfail_any _ _ _ _ _ _ _ _ _ HC.out).mono ?_
  rintro e w' ⟨rfl, hk, _, hw⟩
  rw [if_pos rfl] at hw
  have HK := Lib.hid hk
  have HW := Lib.hid hw
  clear hk hw
  go_wp2_with fail
  go_end0
  rw [X.out]
  exact ⟨rfl, HK.out, _, HW.out⟩


set_option maxHeartbeats 3200000 in
theorem rshape_bad {T : List Nd} (hT : T.length ≤ 16384) (f : Nat) (g : Nat) (tv av : Value) (p : Nat) (d : Int) (w : World) (x : Nd) (hc : Wk g tv p 0 0 av w) (hn : NodesX g w tv T) (hx : T[p]? = some x) (hk : kidsOk x = false) :
    Calls Try.prog 56 #[.pointer (some ⟨g, 0, none⟩), .int .i64 d] w (RShapeRes g tv av w (shapeM T f p)) := by
  obtain ⟨⟨A, c, rfl, hlc, hN⟩, hX⟩ := hn
  have c0 := hc.c0
  have c1 := hc.c1
  have c2 := hc.c2
  have f1 := hc.free 1
  have hgl := hc.lt
  have hpl : p < T.length := (List.getElem?_eq_some_iff.1 hx).1
  obtain ⟨b, off, rfl, hM⟩ := hN (by omega)
  obtain ⟨n0, n1, n2, n3, n4, n5, n6, n7⟩ := hM.at_ hx
  have i1 : (p : Int) < (T.length : Int) := by omega
  have hbg := Lib.hid (hX (by omega) b off _ _ rfl)
  have HM := Lib.hid hM
  have HC := Lib.hid hc
  have X : Hid (shapeM T f p = .error (18, p)) := by rw [Hid, shapeM.eq_def]; simp only [hx, hk]; rfl
  have hkd := kd_bad hk
  have HKd := Lib.hid (rKids_any x.kind)
  generalize kdM x.kind = kd at hkd HKd
  clear hx hN hX hM hk hc
  rcases hkd with h | ⟨h, ⟨h1, h2⟩ | ⟨h1, h2⟩ | ⟨h1, h2, h3⟩⟩
  all_goals
    go_enter Try.func56, Try.ntmps56
    go_wp2_with fail
    refine (HKd.out _).mono ?_
    rintro e w' ⟨rfl, rfl⟩
    go_wp2_with fail
    refine (rfail_any _ _ _ _ _ _ _ _ _ (HC.out.later ((Below.refl _ _).alloc (Nat.le_refl _) _))).mono ?_
    rintro e w' ⟨rfl, hk, _, hw⟩
    rw [if_pos rfl] at hw
    have HK := Lib.hid (((Keep.refl g w).alloc _).trans hk)
    have HW := Lib.hid hw
    clear hk hw
    go_wp2_with fail
    go_end0
    rw [X.out]
    exact ⟨rfl, HK.out, _, HW.out⟩

set_option maxHeartbeats 1600000 in
theorem rshape_zero {T : List Nd} (hT : T.length ≤ 16384) : RShapeC T 0 := by
  intro g tv av p d w hd hc hn hp
  cases hx : T[p]? with
  | none => exact rshape_end hT 0 g tv av p d w hc hn hx hp
  | some x =>
    cases hk : kidsOk x with
    | false => exact rshape_bad hT 0 g tv av p d w x hc hn hx hk
    | true =>
      obtain ⟨⟨A, c, rfl, hlc, hN⟩, hX⟩ := hn
      have c0 := hc.c0
      have c1 := hc.c1
      have c2 := hc.c2
      have f1 := hc.free 1
      have hgl := hc.lt
      have hpl : p < T.length := (List.getElem?_eq_some_iff.1 hx).1
      obtain ⟨b, off, rfl, hM⟩ := hN (by omega)
      obtain ⟨n0, n1, n2, n3, n4, n5, n6, n7⟩ := hM.at_ hx
      have i1 : (p : Int) < (T.length : Int) := by omega
      have hbg := Lib.hid (hX (by omega) b off _ _ rfl)
      have HM := Lib.hid hM
      have HC := Lib.hid hc
      have X : Hid (shapeM T 0 p = .error (16, p)) := by rw [Hid, shapeM.eq_def]; simp only [hx, hk]; rfl
      have i2 : decide (1024 < (d : Int)) = true := decide_eq_true (by omega)
      obtain ⟨k0, k1, k2⟩ := kd_good hk
      have HKd := Lib.hid (rKids_any x.kind)
      generalize kdM x.kind = kd at k0 k2 HKd
      clear hx hN hX hM hk hc hd
      rcases k2 with h | ⟨h1, h2⟩
      all_goals
        go_enter Try.func56, Try.ntmps56
        go_wp2_with fail
        refine (HKd.out _).mono ?_
        rintro e w' ⟨rfl, rfl⟩
        go_wp2_with fail
        refine (rfail_any _ _ _ _ _ _ _ _ _ (HC.out.later ((Below.refl _ _).alloc (Nat.le_refl _) _))).mono ?_
        rintro e w' ⟨rfl, hk, _, hw⟩
        rw [if_pos rfl] at hw
        have HK := Lib.hid (((Keep.refl g w).alloc _).trans hk)
        have HW := Lib.hid hw
        clear hk hw
        go_wp2_with fail
        go_end0
        rw [X.out]
        exact ⟨rfl, HK.out, _, HW.out⟩

set_option maxHeartbeats 1600000 in
theorem rshape_step {T : List Nd} (hT : T.length ≤ 16384) (f : Nat) (ih : RShapeC T f) : RShapeC T (f + 1) := by
  intro g tv av p d w hd hc hn hp
  have HN := Lib.hid hn
  cases hx : T[p]? with
  | none => exact rshape_end hT (f + 1) g tv av p d w hc hn hx hp
  | some x =>
    cases hk : kidsOk x with
    | false => exact rshape_bad hT (f + 1) g tv av p d w x hc hn hx hk
    | true =>
      obtain ⟨⟨A, c, rfl, hlc, hN⟩, hX⟩ := hn
      have c0 := hc.c0
      have c1 := hc.c1
      have c2 := hc.c2
      have f1 := hc.free 1
      have hgl := hc.lt
      have hpl : p < T.length := (List.getElem?_eq_some_iff.1 hx).1
      obtain ⟨b, off, rfl, hM⟩ := hN (by omega)
      obtain ⟨n0, n1, n2, n3, n4, n5, n6, n7⟩ := hM.at_ hx
      have i1 : (p : Int) < (T.length : Int) := by omega
      have hbg := Lib.hid (hX (by omega) b off _ _ rfl)
      have HM := Lib.hid hM
      have HC := Lib.hid hc
      have X : Hid (shapeM T (f + 1) p = timesM (shapeM T f) x.kids.toNat (p + 1)) := by rw [Hid, shapeM.eq_def]; simp only [hx, hk]; rfl
      have i2 : decide (1024 < (d : Int)) = false := decide_eq_false (by omega)
      have hd0 : d ≤ 1024 := by omega
      obtain ⟨k0, k1, k2⟩ := kd_good hk
      obtain ⟨n, hn'⟩ : ∃ n : Nat, x.kids = n := ⟨x.kids.toNat, by omega⟩
      have HKd := Lib.hid (rKids_any x.kind)
      rw [hn'] at n1 X k1 k2
      rw [Int.toNat_natCast] at X
      generalize kdM x.kind = kd at k0 k2 HKd
      have fz2 : ∀ o, (w.alloc o).frozen? ⟨g, 1, none⟩ = false := fun o => by rw [World.frozen?_alloc_old _ _ _ (by simp; omega)]; exact f1
      have c12 : ∀ o, (w.alloc o).cell? ⟨g, 1, none⟩ = some (.int .i64 p) := fun o => by rw [World.cell?_alloc_lt w o _ (by simpa using hgl)]; exact c1
      have HD := Lib.hid hd
      clear hx hN hX hM hk hc hd hn'
      rcases k2 with h | ⟨h1, h2⟩
      all_goals
        go_enter Try.func56, Try.ntmps56
        go_wp2_with fail
        refine (HKd.out _).mono ?_
        rintro e w' ⟨rfl, rfl⟩
        go_wp2_with fail
        go_loopw [7] (fun i wr => ∃ (k : Nat) (q e nd : Int), k ≤ n ∧ i = .int .i64 k ∧ Hid (Wk g (.slice (some ⟨b, off, none⟩) T.length c) q e nd av wr) ∧ Hid (Keep g w wr) ∧ Hid (wr.cell? ⟨w.heap.size, 1, none⟩ = some (.int .i64 n)) ∧
          Hid ((e = 0 ∧ nd = 0 ∧ ∃ m : Nat, q = m ∧ m ≤ T.length ∧ k ≤ m ∧ shapeM T (f + 1) p = timesM (shapeM T f) (n - k) m) ∨ (e ≠ 0 ∧ ∃ m : Nat, nd = m ∧ shapeM T (f + 1) p = .error (e, m)))) (fun i _ => n - (intOf i).toNat)
        case atStart =>
          refine ⟨0, (p : Int) + 1, 0, 0, by omega, rfl, Lib.hid (((HC.out.set1 ((p : Int) + 1)).later ((Below.refl _ _).alloc (Nat.le_refl _) _))), Lib.hid (((Keep.refl g w).setCell 1 _).alloc _), Lib.hid (by rw [World.cell?_alloc_at _ _ _ _ (by simp [World.setCell])]; rfl), Lib.hid (.inl ⟨rfl, rfl, p + 1, by omega, by omega, by omega, X.out⟩)⟩
        case round =>
          obtain ⟨k, q, e, nd, hk, rfl, HW, HK, HNn, HS⟩ := hrel
          have c1 := HW.out.c1
          have c2 := HW.out.c2
          have m1 := HNn.out
          clear n0 n1 n2 n3 n4 n5 n6 n7 c0 f1 fz2 c12
          rcases HS.out with ⟨rfl, rfl, m, rfl, hm, hkm, hS⟩ | ⟨he, m, rfl, hS⟩
          · by_cases hlt : k < n
            · obtain ⟨j, hj⟩ : ∃ j, n - k = j + 1 := ⟨n - k - 1, by omega⟩
              rw [hj, timesM] at hS
              have HSS := Lib.hid hS
              have HJ := Lib.hid hj
              clear hS HS hj
              go_wp2_with fail
              refine (ih g _ av m (d + 1) _ (by have := HD.out; omega) HW.out (HN.out.keep HK.out) hm).mono ?_
              cases hr : shapeM T f m with
              | error fl =>
                obtain ⟨e0, p0⟩ := fl
                rintro e w' ⟨rfl, hk2, q2, hw2⟩
                have h1 := HSS.out
                rw [hr] at h1
                have HE := Lib.hid (shapeM_err T f m e0 p0 hr)
                have HS2 := Lib.hid h1
                have HW2 := Lib.hid hw2
                have HK2 := Lib.hid (HK.out.trans hk2)
                have HM2 := Lib.hid (hk2.cell HNn.out (by simp only; omega))
                clear h1 hw2 hk2 hr
                go_wp2_with fail
                go_roundw
                case rel => exact ⟨k + 1, q2, e0, p0, by omega, by go_num, HW2, HK2, HM2, Lib.hid (.inr ⟨HE.out, p0, rfl, HS2.out⟩)⟩
                case measure => simp [intOf]; omega
              | ok q2 =>
                rintro e w' ⟨rfl, hk2, hw2⟩
                have h1 := HSS.out
                rw [hr] at h1
                have hq2 := shapeM_le T f m q2 hr
                have hq3 := shapeM_lt T f m q2 hr
                have HS2 : Hid (shapeM T (f + 1) p = timesM (shapeM T f) (n - (k + 1)) q2) := by rw [Hid, h1, show n - (k + 1) = j by have := HJ.out; omega]
                have HW2 := Lib.hid hw2
                have HK2 := Lib.hid (HK.out.trans hk2)
                have HM2 := Lib.hid (hk2.cell HNn.out (by simp only; omega))
                clear h1 hw2 hk2 hr
                go_wp2_with fail
                go_roundw
                case rel => exact ⟨k + 1, q2, 0, 0, by omega, by go_num, HW2, HK2, HM2, Lib.hid (.inl ⟨rfl, rfl, q2, rfl, hq2, by omega, HS2.out⟩)⟩
                case measure => simp [intOf]; omega
            · have Y : Hid (shapeM T (f + 1) p = .ok m) := by rw [Hid, hS, show n - k = 0 by omega]; rfl
              clear hS HS
              go_wp2_with fail
              go_end0
              rw [Y.out]
              exact ⟨rfl, HK.out, HW.out⟩
          · have e0 : (e == 0) = false := beq_eq_false_iff_ne.2 he
            have HSS := Lib.hid hS
            clear hS HS he
            by_cases hlt : k < n
            all_goals
              go_wp2_with fail
              go_end0
              rw [HSS.out]
              exact ⟨rfl, HK.out, _, HW.out⟩

theorem rshape_any {T : List Nd} (hT : T.length ≤ 16384) : ∀ f, RShapeC T f
  | 0 => rshape_zero hT
  | f + 1 => rshape_step hT f (rshape_any hT f)

/-- What Shape answers. -/
def shapeAll (T : List Nd) : Option (Int × Nat) :=
  if 16384 < T.length then some (17, 0)
  else match shapeM T 1024 0 with
    | .error x => some x
    | .ok q => if q = T.length then none else some (18, q)
def errV : Option (Int × Nat) → Value
  | none => .tuple #[.int .i64 0, .int .i64 0]
  | some (e, p) => .tuple #[.int .i64 e, .int .i64 p]
end Go.Proofs.Ytnmhiddahfnkoaa

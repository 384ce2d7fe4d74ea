/- Walks of the document's answer for layer 10: what is asked of a node ahead of its kids. -/
import Derived.Test.YtnmhiddahfnkoaaRefT
namespace Go.Proofs.Ytnmhiddahfnkoaa
set_option linter.unusedSimpArgs false
set_option linter.unusedVariables false
open Go.RowKit Culp

/-- A node whose texts are no longer than what fits into a machine. -/
def szOk (x : Nd) : Prop := x.s.size ≤ 1000000000000000 ∧ x.t.size ≤ 1000000000000000 ∧ x.u.size ≤ 1000000000000000
/-- The fault that a word of a node is. -/
def wordsS (x : Nd) (n p : Nat) : Option Flt := (wordsM x n).map fun e => (e, p)
theorem wordsS_none {x : Nd} {n p : Nat} (h : wordsM x n = none) : wordsS x n p = none := by rw [wordsS, h]; rfl
theorem wordsS_some {x : Nd} {n p : Nat} {e : Int} (h : wordsM x n = some e) : wordsS x n p = some (e, p) := by rw [wordsS, h]; rfl
def AheadC (x : Nd) : Prop := ∀ (g : Nat) (tv av : Value) (q : Int) (p n : Nat) (w : World), WkS g tv q none av w → szOk x → n ≤ 100000 →
  Calls Try.prog 65 #[.pointer (some ⟨g, 0, none⟩), x.val, .int .i64 p, .int .i64 n] w (AskRes g tv q (wordsS x n p) av (.tuple #[]) w)


set_option maxHeartbeats 1600000 in
theorem ahead_str (kd n : Int) (s t u : ByteArray) (l c : Int) : AheadC ⟨2, kd, n, s, t, u, l, c⟩ := by
  intro g tv av q p m w hw hz hm
  unfold Nd.val Nd.cells
  have c2 := Wk.c2 (show Wk g tv q 0 0 av w from hw)
  have c22 : ∀ o, (w.alloc o).cell? ⟨g, 2, none⟩ = some (.int .i64 0) := fun o => cell_later ((Below.refl _ _).alloc (Nat.le_refl _) o) c2
  have HW := Lib.hid hw
  clear hw
  by_cases h : s.size ≤ 64
  · have X : Hid (wordsM ⟨2, kd, n, s, t, u, l, c⟩ m = none) := by simp [Hid, wordsM, h]
    have i1 : (s.size : Int) ≤ 64 := by omega
    rw [wordsS_none X.out]
    go_enter Try.func65, Try.ntmps65
    go_wp2_with fail
    go_end0
    exact ⟨rfl, (Keep.refl _ _).alloc _, HW.out.later ((Below.refl _ _).alloc (Nat.le_refl _) _)⟩
  · have X : Hid (wordsM ⟨2, kd, n, s, t, u, l, c⟩ m = some 10) := by simp [Hid, wordsM]; omega
    have i1 : decide (64 < (s.size : Int)) = true := decide_eq_true (by omega)
    rw [wordsS_some X.out]
    go_enter Try.func65, Try.ntmps65
    go_wp2_with fail
    refine (rfailS_any g tv q none av _ p (by decide) _ (HW.out.later ((Below.refl _ _).alloc (Nat.le_refl _) _))).mono ?_
    rintro e w' ⟨rfl, hk, hw'⟩
    have HK := Lib.hid (((Keep.refl g w).alloc _).trans hk)
    have HW' := Lib.hid hw'
    have c2' := Wk.c2 (show Wk g tv q _ _ av w' from hw'.2)
    clear hk hw' c2 c22
    go_wp2_with fail
    go_end0
    exact ⟨rfl, HK.out, HW'.out⟩

set_option maxHeartbeats 1600000 in
theorem ahead_truth (kd n : Int) (s t u : ByteArray) (l c : Int) : AheadC ⟨3, kd, n, s, t, u, l, c⟩ := by
  intro g tv av q p m w hw hz hm
  unfold Nd.val Nd.cells
  have c2 := Wk.c2 (show Wk g tv q 0 0 av w from hw)
  have c22 : ∀ o, (w.alloc o).cell? ⟨g, 2, none⟩ = some (.int .i64 0) := fun o => cell_later ((Below.refl _ _).alloc (Nat.le_refl _) o) c2
  have HW := Lib.hid hw
  clear hw
  by_cases h0 : n = 0
  · have X : Hid (wordsM ⟨3, kd, n, s, t, u, l, c⟩ m = none) := by simp [Hid, wordsM, h0]
    have i1 : (n != 0) = false := by simp [h0]
    clear h0
    rw [wordsS_none X.out]
    go_enter Try.func65, Try.ntmps65
    go_wp2_with fail
    go_end0
    exact ⟨rfl, (Keep.refl _ _).alloc _, HW.out.later ((Below.refl _ _).alloc (Nat.le_refl _) _)⟩
  · have i1 : (n != 0) = true := by simp [h0]
    by_cases h1 : n = 1
    · have X : Hid (wordsM ⟨3, kd, n, s, t, u, l, c⟩ m = none) := by simp [Hid, wordsM, h1]
      have i2 : (n != 1) = false := by simp [h1]
      clear h0 h1
      rw [wordsS_none X.out]
      go_enter Try.func65, Try.ntmps65
      go_wp2_with fail
      go_end0
      exact ⟨rfl, (Keep.refl _ _).alloc _, HW.out.later ((Below.refl _ _).alloc (Nat.le_refl _) _)⟩
    · have X : Hid (wordsM ⟨3, kd, n, s, t, u, l, c⟩ m = some 13) := by simp [Hid, wordsM, h0, h1]
      have i2 : (n != 1) = true := by simp [h1]
      clear h0 h1
      rw [wordsS_some X.out]
      go_enter Try.func65, Try.ntmps65
      go_wp2_with fail
      refine (rfailS_any g tv q none av _ p (by decide) _ (HW.out.later ((Below.refl _ _).alloc (Nat.le_refl _) _))).mono ?_
      rintro e w' ⟨rfl, hk, hw'⟩
      have HK := Lib.hid (((Keep.refl g w).alloc _).trans hk)
      have HW' := Lib.hid hw'
      have c2' := Wk.c2 (show Wk g tv q _ _ av w' from hw'.2)
      clear hk hw' c2 c22
      go_wp2_with fail
      go_end0
      exact ⟨rfl, HK.out, HW'.out⟩

set_option maxHeartbeats 1600000 in
theorem ahead_var (kd n : Int) (s t u : ByteArray) (l c : Int) : AheadC ⟨4, kd, n, s, t, u, l, c⟩ := by
  intro g tv av q p m w hw hz hm
  unfold Nd.val Nd.cells
  have c2 := Wk.c2 (show Wk g tv q 0 0 av w from hw)
  have c22 : ∀ o, (w.alloc o).cell? ⟨g, 2, none⟩ = some (.int .i64 0) := fun o => cell_later ((Below.refl _ _).alloc (Nat.le_refl _) o) c2
  have HW := Lib.hid hw
  clear hw
  by_cases h0 : 0 ≤ n
  · by_cases h1 : n < (m : Int)
    · have X : Hid (wordsM ⟨4, kd, n, s, t, u, l, c⟩ m = none) := by simp [Hid, wordsM, h0, h1]
      rw [wordsS_none X.out]
      go_enter Try.func65, Try.ntmps65
      go_wp2_with fail
      go_end0
      exact ⟨rfl, (Keep.refl _ _).alloc _, HW.out.later ((Below.refl _ _).alloc (Nat.le_refl _) _)⟩
    · have X : Hid (wordsM ⟨4, kd, n, s, t, u, l, c⟩ m = some 22) := by simp [Hid, wordsM, h1]
      have i1 : decide ((m : Int) ≤ n) = true := decide_eq_true (by omega)
      have i2 : decide (n < 0) = false := decide_eq_false (by omega)
      rw [wordsS_some X.out]
      go_enter Try.func65, Try.ntmps65
      go_wp2_with fail
      refine (rfailS_any g tv q none av _ p (by decide) _ (HW.out.later ((Below.refl _ _).alloc (Nat.le_refl _) _))).mono ?_
      rintro e w' ⟨rfl, hk, hw'⟩
      have HK := Lib.hid (((Keep.refl g w).alloc _).trans hk)
      have HW' := Lib.hid hw'
      have c2' := Wk.c2 (show Wk g tv q _ _ av w' from hw'.2)
      clear hk hw' c2 c22
      go_wp2_with fail
      go_end0
      exact ⟨rfl, HK.out, HW'.out⟩
  · have X : Hid (wordsM ⟨4, kd, n, s, t, u, l, c⟩ m = some 22) := by simp [Hid, wordsM, h0]
    have i1 : decide (n < 0) = true := decide_eq_true (by omega)
    rw [wordsS_some X.out]
    go_enter Try.func65, Try.ntmps65
    go_wp2_with fail
    refine (rfailS_any g tv q none av _ p (by decide) _ (HW.out.later ((Below.refl _ _).alloc (Nat.le_refl _) _))).mono ?_
    rintro e w' ⟨rfl, hk, hw'⟩
    have HK := Lib.hid (((Keep.refl g w).alloc _).trans hk)
    have HW' := Lib.hid hw'
    have c2' := Wk.c2 (show Wk g tv q _ _ av w' from hw'.2)
    clear hk hw' c2 c22
    go_wp2_with fail
    go_end0
    exact ⟨rfl, HK.out, HW'.out⟩


set_option maxHeartbeats 1600000 in
theorem ahead_list (kd n : Int) (s t u : ByteArray) (l c : Int) : AheadC ⟨21, kd, n, s, t, u, l, c⟩ := by
  intro g tv av q p m w hw hz hm
  unfold Nd.val Nd.cells
  have c2 := Wk.c2 (show Wk g tv q 0 0 av w from hw)
  have c22 : ∀ o, (w.alloc o).cell? ⟨g, 2, none⟩ = some (.int .i64 0) := fun o => cell_later ((Below.refl _ _).alloc (Nat.le_refl _) o) c2
  have HW := Lib.hid hw
  clear hw
  have hz1 := hz.2.1
  cases ht : isTy t.data.toList with
  | true =>
    obtain ⟨a, rfl, ha⟩ := ty_of t ht
    have X : Hid (wordsM ⟨21, kd, n, s, a.str, u, l, c⟩ m = none) := by simp [Hid, wordsM, tyOf_str a ha]
    have T := Lib.hid ht
    clear ht
    rw [wordsS_none X.out]
    go_enter Try.func65, Try.ntmps65
    go_wp2_with fail
    refine (Good_any _ _ hz.2.1).mono ?_
    rw [T.out]
    rintro e w' ⟨rfl, rfl⟩
    go_wp2_with fail
    go_end0
    exact ⟨rfl, (Keep.refl _ _).alloc _, HW.out.later ((Below.refl _ _).alloc (Nat.le_refl _) _)⟩
  | false =>
    have X : Hid (wordsM ⟨21, kd, n, s, t, u, l, c⟩ m = some 20) := by simp [Hid, wordsM, tyOf_none ht]
    have T := Lib.hid ht
    clear ht
    rw [wordsS_some X.out]
    go_enter Try.func65, Try.ntmps65
    go_wp2_with fail
    refine (Good_any _ _ hz.2.1).mono ?_
    rw [T.out]
    rintro e w' ⟨rfl, rfl⟩
    go_wp2_with fail
    refine (rfailS_any g tv q none av _ p (by decide) _ (HW.out.later ((Below.refl _ _).alloc (Nat.le_refl _) _))).mono ?_
    rintro e w' ⟨rfl, hk, hw'⟩
    have HK := Lib.hid (((Keep.refl g w).alloc _).trans hk)
    have HW' := Lib.hid hw'
    have c2' := Wk.c2 (show Wk g tv q _ _ av w' from hw'.2)
    clear hk hw' c2 c22
    go_wp2_with fail
    go_end0
    exact ⟨rfl, HK.out, HW'.out⟩

set_option maxHeartbeats 1600000 in
theorem ahead_fn (kd n : Int) (s t u : ByteArray) (l c : Int) : AheadC ⟨5, kd, n, s, t, u, l, c⟩ := by
  intro g tv av q p m w hw hz hm
  unfold Nd.val Nd.cells
  have c2 := Wk.c2 (show Wk g tv q 0 0 av w from hw)
  have c22 : ∀ o, (w.alloc o).cell? ⟨g, 2, none⟩ = some (.int .i64 0) := fun o => cell_later ((Below.refl _ _).alloc (Nat.le_refl _) o) c2
  have HW := Lib.hid hw
  clear hw
  cases ht : isTy t.data.toList with
  | false =>
    have X : Hid (wordsM ⟨5, kd, n, s, t, u, l, c⟩ m = some 20) := by simp [Hid, wordsM, tyOf_none ht]
    have T := Lib.hid ht
    clear ht
    rw [wordsS_some X.out]
    go_enter Try.func65, Try.ntmps65
    go_wp2_with fail
    refine (Good_any _ _ hz.2.1).mono ?_
    rw [T.out]
    rintro e w' ⟨rfl, rfl⟩
    go_wp2_with fail
    refine (rfailS_any g tv q none av _ p (by decide) _ (HW.out.later ((Below.refl _ _).alloc (Nat.le_refl _) _))).mono ?_
    rintro e w' ⟨rfl, hk, hw'⟩
    have HK := Lib.hid (((Keep.refl g w).alloc _).trans hk)
    have HW' := Lib.hid hw'
    have c2' := Wk.c2 (show Wk g tv q _ _ av w' from hw'.2)
    clear hk hw' c2 c22
    go_wp2_with fail
    go_end0
    exact ⟨rfl, HK.out, HW'.out⟩
  | true =>
    cases hu : isTy u.data.toList with
    | false =>
      have X : Hid (wordsM ⟨5, kd, n, s, t, u, l, c⟩ m = some 20) := by simp [Hid, wordsM, tyOf_none hu]
      have T := Lib.hid ht
      have U := Lib.hid hu
      clear ht hu
      rw [wordsS_some X.out]
      go_enter Try.func65, Try.ntmps65
      go_wp2_with fail
      refine (Good_any _ _ hz.2.1).mono ?_
      rw [T.out]
      rintro e w' ⟨rfl, rfl⟩
      go_wp2_with fail
      refine (Good_any _ _ hz.2.2).mono ?_
      rw [U.out]
      rintro e w' ⟨rfl, rfl⟩
      go_wp2_with fail
      refine (rfailS_any g tv q none av _ p (by decide) _ (HW.out.later ((Below.refl _ _).alloc (Nat.le_refl _) _))).mono ?_
      rintro e w' ⟨rfl, hk, hw'⟩
      have HK := Lib.hid (((Keep.refl g w).alloc _).trans hk)
      have HW' := Lib.hid hw'
      have c2' := Wk.c2 (show Wk g tv q _ _ av w' from hw'.2)
      clear hk hw' c2 c22
      go_wp2_with fail
      go_end0
      exact ⟨rfl, HK.out, HW'.out⟩
    | true =>
      have T := Lib.hid ht
      have U := Lib.hid hu
      obtain ⟨a, rfl, ha⟩ := ty_of t ht
      obtain ⟨b, rfl, hb⟩ := ty_of u hu
      clear ht hu
      have X : Hid (wordsM ⟨5, kd, n, s, a.str, b.str, l, c⟩ m = none) := by simp [Hid, wordsM, tyOf_str a ha, tyOf_str b hb]
      rw [wordsS_none X.out]
      go_enter Try.func65, Try.ntmps65
      go_wp2_with fail
      refine (Good_any _ _ hz.2.1).mono ?_
      rw [T.out]
      rintro e w' ⟨rfl, rfl⟩
      go_wp2_with fail
      refine (Good_any _ _ hz.2.2).mono ?_
      rw [U.out]
      rintro e w' ⟨rfl, rfl⟩
      go_wp2_with fail
      go_end0
      exact ⟨rfl, (Keep.refl _ _).alloc _, HW.out.later ((Below.refl _ _).alloc (Nat.le_refl _) _)⟩
set_option maxHeartbeats 1600000 in
theorem ahead_rec (kd n : Int) (s t u : ByteArray) (l c : Int) : AheadC ⟨6, kd, n, s, t, u, l, c⟩ := by
  intro g tv av q p m w hw hz hm
  unfold Nd.val Nd.cells
  have c2 := Wk.c2 (show Wk g tv q 0 0 av w from hw)
  have c22 : ∀ o, (w.alloc o).cell? ⟨g, 2, none⟩ = some (.int .i64 0) := fun o => cell_later ((Below.refl _ _).alloc (Nat.le_refl _) o) c2
  have HW := Lib.hid hw
  clear hw
  cases ht : isTy t.data.toList with
  | false =>
    have X : Hid (wordsM ⟨6, kd, n, s, t, u, l, c⟩ m = some 20) := by simp [Hid, wordsM, tyOf_none ht]
    have T := Lib.hid ht
    clear ht
    rw [wordsS_some X.out]
    go_enter Try.func65, Try.ntmps65
    go_wp2_with fail
    refine (Good_any _ _ hz.2.1).mono ?_
    rw [T.out]
    rintro e w' ⟨rfl, rfl⟩
    go_wp2_with fail
    refine (rfailS_any g tv q none av _ p (by decide) _ (HW.out.later ((Below.refl _ _).alloc (Nat.le_refl _) _))).mono ?_
    rintro e w' ⟨rfl, hk, hw'⟩
    have HK := Lib.hid (((Keep.refl g w).alloc _).trans hk)
    have HW' := Lib.hid hw'
    have c2' := Wk.c2 (show Wk g tv q _ _ av w' from hw'.2)
    clear hk hw' c2 c22
    go_wp2_with fail
    go_end0
    exact ⟨rfl, HK.out, HW'.out⟩
  | true =>
    cases hu : isTy u.data.toList with
    | false =>
      have X : Hid (wordsM ⟨6, kd, n, s, t, u, l, c⟩ m = some 20) := by simp [Hid, wordsM, tyOf_none hu]
      have T := Lib.hid ht
      have U := Lib.hid hu
      clear ht hu
      rw [wordsS_some X.out]
      go_enter Try.func65, Try.ntmps65
      go_wp2_with fail
      refine (Good_any _ _ hz.2.1).mono ?_
      rw [T.out]
      rintro e w' ⟨rfl, rfl⟩
      go_wp2_with fail
      refine (Good_any _ _ hz.2.2).mono ?_
      rw [U.out]
      rintro e w' ⟨rfl, rfl⟩
      go_wp2_with fail
      refine (rfailS_any g tv q none av _ p (by decide) _ (HW.out.later ((Below.refl _ _).alloc (Nat.le_refl _) _))).mono ?_
      rintro e w' ⟨rfl, hk, hw'⟩
      have HK := Lib.hid (((Keep.refl g w).alloc _).trans hk)
      have HW' := Lib.hid hw'
      have c2' := Wk.c2 (show Wk g tv q _ _ av w' from hw'.2)
      clear hk hw' c2 c22
      go_wp2_with fail
      go_end0
      exact ⟨rfl, HK.out, HW'.out⟩
    | true =>
      have T := Lib.hid ht
      have U := Lib.hid hu
      obtain ⟨a, rfl, ha⟩ := ty_of t ht
      obtain ⟨b, rfl, hb⟩ := ty_of u hu
      clear ht hu
      have X : Hid (wordsM ⟨6, kd, n, s, a.str, b.str, l, c⟩ m = none) := by simp [Hid, wordsM, tyOf_str a ha, tyOf_str b hb]
      rw [wordsS_none X.out]
      go_enter Try.func65, Try.ntmps65
      go_wp2_with fail
      refine (Good_any _ _ hz.2.1).mono ?_
      rw [T.out]
      rintro e w' ⟨rfl, rfl⟩
      go_wp2_with fail
      refine (Good_any _ _ hz.2.2).mono ?_
      rw [U.out]
      rintro e w' ⟨rfl, rfl⟩
      go_wp2_with fail
      go_end0
      exact ⟨rfl, (Keep.refl _ _).alloc _, HW.out.later ((Below.refl _ _).alloc (Nat.le_refl _) _)⟩

set_option maxHeartbeats 1600000 in
theorem ahead_cast_bad (kd n : Int) (s t u : ByteArray) (l c : Int) (hbad : isTy t.data.toList = false ∨ (isTy t.data.toList = true ∧ isTy u.data.toList = false)) : ∀ (g : Nat) (tv av : Value) (q : Int) (p m : Nat) (w : World), WkS g tv q none av w → szOk ⟨30, kd, n, s, t, u, l, c⟩ → m ≤ 100000 →
  Calls Try.prog 65 #[.pointer (some ⟨g, 0, none⟩), (Nd.mk 30 kd n s t u l c).val, .int .i64 p, .int .i64 m] w (AskRes g tv q (wordsS ⟨30, kd, n, s, t, u, l, c⟩ m p) av (.tuple #[]) w) := by
  intro g tv av q p m w hw hz hm
  unfold Nd.val Nd.cells
  have c2 := Wk.c2 (show Wk g tv q 0 0 av w from hw)
  have c22 : ∀ o, (w.alloc o).cell? ⟨g, 2, none⟩ = some (.int .i64 0) := fun o => cell_later ((Below.refl _ _).alloc (Nat.le_refl _) o) c2
  have HW := Lib.hid hw
  clear hw
  have X : Hid (wordsM ⟨30, kd, n, s, t, u, l, c⟩ m = some 20) := by
    rcases hbad with h | ⟨_, h⟩
    · simp [Hid, wordsM, tyOf_none h]
    · simp [Hid, wordsM, tyOf_none h]
  rw [wordsS_some X.out]
  rcases hbad with ht | ⟨ht, hu⟩
  · have T := Lib.hid ht
    clear ht
    go_enter Try.func65, Try.ntmps65
    go_wp2_with fail
    refine (Good_any _ _ hz.2.1).mono ?_
    rw [T.out]
    rintro e w' ⟨rfl, rfl⟩
    go_wp2_with fail
    refine (rfailS_any g tv q none av _ p (by decide) _ (HW.out.later ((Below.refl _ _).alloc (Nat.le_refl _) _))).mono ?_
    rintro e w' ⟨rfl, hk, hw'⟩
    have HK := Lib.hid (((Keep.refl g w).alloc _).trans hk)
    have HW' := Lib.hid hw'
    have c2' := Wk.c2 (show Wk g tv q _ _ av w' from hw'.2)
    clear hk hw' c2 c22
    go_wp2_with fail
    go_end0
    exact ⟨rfl, HK.out, HW'.out⟩
  · have T := Lib.hid ht
    have U := Lib.hid hu
    clear ht hu
    go_enter Try.func65, Try.ntmps65
    go_wp2_with fail
    refine (Good_any _ _ hz.2.1).mono ?_
    rw [T.out]
    rintro e w' ⟨rfl, rfl⟩
    go_wp2_with fail
    refine (Good_any _ _ hz.2.2).mono ?_
    rw [U.out]
    rintro e w' ⟨rfl, rfl⟩
    go_wp2_with fail
    refine (rfailS_any g tv q none av _ p (by decide) _ (HW.out.later ((Below.refl _ _).alloc (Nat.le_refl _) _))).mono ?_
    rintro e w' ⟨rfl, hk, hw'⟩
    have HK := Lib.hid (((Keep.refl g w).alloc _).trans hk)
    have HW' := Lib.hid hw'
    have c2' := Wk.c2 (show Wk g tv q _ _ av w' from hw'.2)
    clear hk hw' c2 c22
    go_wp2_with fail
    go_end0
    exact ⟨rfl, HK.out, HW'.out⟩

set_option maxHeartbeats 3200000 in
theorem ahead_cast_yes (kd n : Int) (s : ByteArray) (a b : Ty) (l c : Int) (ha : a.fits) (hb : b.fits) (hc : cons a b = true) : AheadC ⟨30, kd, n, s, a.str, b.str, l, c⟩ := by
  intro g tv av q p m w hw hz hm
  unfold Nd.val Nd.cells
  have c2 := Wk.c2 (show Wk g tv q 0 0 av w from hw)
  have c22 : ∀ o, (w.alloc o).cell? ⟨g, 2, none⟩ = some (.int .i64 0) := fun o => cell_later ((Below.refl _ _).alloc (Nat.le_refl _) o) c2
  have HW := Lib.hid hw
  clear hw
  have hgw : g < w.heap.size := Wk.lt (show Wk g tv q 0 0 av w from HW.out)
  have T : Hid (isTy a.str.data.toList = true) := by rw [Hid, str_list]; exact isTy_enc a ha
  have U : Hid (isTy b.str.data.toList = true) := by rw [Hid, str_list]; exact isTy_enc b hb
  have HC := Lib.hid hc
  clear hc
  by_cases h1 : n < 1
  · have X : Hid (wordsM ⟨30, kd, n, s, a.str, b.str, l, c⟩ m = some 13) := by simp [Hid, wordsM, tyOf_str a ha, tyOf_str b hb, HC.out]; omega
    have i1 : decide (n < 1) = true := decide_eq_true h1
    rw [wordsS_some X.out]
    go_enter Try.func65, Try.ntmps65
    go_wp2_with fail
    refine (Good_any _ _ hz.2.1).mono ?_
    rw [T.out]
    rintro e w' ⟨rfl, rfl⟩
    go_wp2_with fail
    refine (Good_any _ _ hz.2.2).mono ?_
    rw [U.out]
    rintro e w' ⟨rfl, rfl⟩
    go_wp2_with fail
    refine (rConsistent_any a b ha hb _).mono ?_
    rintro e w1 ⟨rfl, hb1⟩
    have HK1 := Lib.hid (((Keep.refl g w).alloc _).trans (Keep.of hb1))
    have HW1 := Lib.hid ((HW.out.later ((Below.refl _ _).alloc (Nat.le_refl _) _)).later hb1)
    have m2 : w1.cell? ⟨w.heap.size, 2, none⟩ = some (.int .i64 n) := cell_later hb1 (by rw [World.cell?_alloc_at _ _ _ _ rfl]; rfl)
    clear hb1 c2 c22
    rw [HC.out]
    go_wp2_with fail
    refine (rfailS_any g tv q none av _ p (by decide) _ HW1.out).mono ?_
    rintro e w2 ⟨rfl, hk, hw⟩
    have HK2 := Lib.hid (HK1.out.trans hk)
    have HW2 := Lib.hid hw
    clear hk hw m2
    go_wp2_with fail
    go_end0
    exact ⟨rfl, HK2.out, HW2.out⟩
  · have i1 : decide (n < 1) = false := decide_eq_false h1
    by_cases h2 : n ≤ 2147483647
    · have X : Hid (wordsM ⟨30, kd, n, s, a.str, b.str, l, c⟩ m = none) := by
        simp [Hid, wordsM, tyOf_str a ha, tyOf_str b hb, HC.out]; omega
      have i2 : decide (2147483647 < n) = false := decide_eq_false (by omega)
      rw [wordsS_none X.out]
      go_enter Try.func65, Try.ntmps65
      go_wp2_with fail
      refine (Good_any _ _ hz.2.1).mono ?_
      rw [T.out]
      rintro e w' ⟨rfl, rfl⟩
      go_wp2_with fail
      refine (Good_any _ _ hz.2.2).mono ?_
      rw [U.out]
      rintro e w' ⟨rfl, rfl⟩
      go_wp2_with fail
      refine (rConsistent_any a b ha hb _).mono ?_
      rintro e w1 ⟨rfl, hb1⟩
      have HK1 := Lib.hid (((Keep.refl g w).alloc _).trans (Keep.of hb1))
      have HW1 := Lib.hid ((HW.out.later ((Below.refl _ _).alloc (Nat.le_refl _) _)).later hb1)
      have m2 : w1.cell? ⟨w.heap.size, 2, none⟩ = some (.int .i64 n) := cell_later hb1 (by rw [World.cell?_alloc_at _ _ _ _ rfl]; rfl)
      clear hb1 c2 c22
      rw [HC.out]
      go_wp2_with fail
      go_end0
      exact ⟨rfl, HK1.out, HW1.out⟩
    · have X : Hid (wordsM ⟨30, kd, n, s, a.str, b.str, l, c⟩ m = some 13) := by
        simp [Hid, wordsM, tyOf_str a ha, tyOf_str b hb, HC.out]; omega
      have i2 : decide (2147483647 < n) = true := decide_eq_true (by omega)
      rw [wordsS_some X.out]
      go_enter Try.func65, Try.ntmps65
      go_wp2_with fail
      refine (Good_any _ _ hz.2.1).mono ?_
      rw [T.out]
      rintro e w' ⟨rfl, rfl⟩
      go_wp2_with fail
      refine (Good_any _ _ hz.2.2).mono ?_
      rw [U.out]
      rintro e w' ⟨rfl, rfl⟩
      go_wp2_with fail
      refine (rConsistent_any a b ha hb _).mono ?_
      rintro e w1 ⟨rfl, hb1⟩
      have HK1 := Lib.hid (((Keep.refl g w).alloc _).trans (Keep.of hb1))
      have HW1 := Lib.hid ((HW.out.later ((Below.refl _ _).alloc (Nat.le_refl _) _)).later hb1)
      have m2 : w1.cell? ⟨w.heap.size, 2, none⟩ = some (.int .i64 n) := cell_later hb1 (by rw [World.cell?_alloc_at _ _ _ _ rfl]; rfl)
      clear hb1 c2 c22
      rw [HC.out]
      go_wp2_with fail
      refine (rfailS_any g tv q none av _ p (by decide) _ HW1.out).mono ?_
      rintro e w2 ⟨rfl, hk, hw⟩
      have HK2 := Lib.hid (HK1.out.trans hk)
      have HW2 := Lib.hid hw
      clear hk hw m2
      go_wp2_with fail
      go_end0
      exact ⟨rfl, HK2.out, HW2.out⟩
set_option maxHeartbeats 3200000 in
theorem ahead_cast_no (kd n : Int) (s : ByteArray) (a b : Ty) (l c : Int) (ha : a.fits) (hb : b.fits) (hc : cons a b = false) : AheadC ⟨30, kd, n, s, a.str, b.str, l, c⟩ := by
  intro g tv av q p m w hw hz hm
  unfold Nd.val Nd.cells
  have c2 := Wk.c2 (show Wk g tv q 0 0 av w from hw)
  have c22 : ∀ o, (w.alloc o).cell? ⟨g, 2, none⟩ = some (.int .i64 0) := fun o => cell_later ((Below.refl _ _).alloc (Nat.le_refl _) o) c2
  have HW := Lib.hid hw
  clear hw
  have hgw : g < w.heap.size := Wk.lt (show Wk g tv q 0 0 av w from HW.out)
  have T : Hid (isTy a.str.data.toList = true) := by rw [Hid, str_list]; exact isTy_enc a ha
  have U : Hid (isTy b.str.data.toList = true) := by rw [Hid, str_list]; exact isTy_enc b hb
  have HC := Lib.hid hc
  clear hc
  have X : Hid (wordsM ⟨30, kd, n, s, a.str, b.str, l, c⟩ m = some 23) := by simp [Hid, wordsM, tyOf_str a ha, tyOf_str b hb, HC.out]
  rw [wordsS_some X.out]
  go_enter Try.func65, Try.ntmps65
  go_wp2_with fail
  refine (Good_any _ _ hz.2.1).mono ?_
  rw [T.out]
  rintro e w' ⟨rfl, rfl⟩
  go_wp2_with fail
  refine (Good_any _ _ hz.2.2).mono ?_
  rw [U.out]
  rintro e w' ⟨rfl, rfl⟩
  go_wp2_with fail
  refine (rConsistent_any a b ha hb _).mono ?_
  rintro e w1 ⟨rfl, hb1⟩
  have HK1 := Lib.hid (((Keep.refl g w).alloc _).trans (Keep.of hb1))
  have HW1 := Lib.hid ((HW.out.later ((Below.refl _ _).alloc (Nat.le_refl _) _)).later hb1)
  have m2 : w1.cell? ⟨w.heap.size, 2, none⟩ = some (.int .i64 n) := cell_later hb1 (by rw [World.cell?_alloc_at _ _ _ _ rfl]; rfl)
  clear hb1 c2 c22
  rw [HC.out]
  go_wp2_with fail
  refine (rfailS_any g tv q none av _ p (by decide) _ HW1.out).mono ?_
  rintro e w2 ⟨rfl, hk, hw⟩
  have hgn : w.heap.size ≠ g := by omega
  replace m2 := hk.cell m2 hgn
  have HK2 := Lib.hid (HK1.out.trans hk)
  have HW2 := Lib.hid hw
  clear hk hw
  by_cases hl : decide (n < 1) = true
  · have i1 := hl
    clear hl
    go_wp2_with fail
    refine (rfailS_any g tv q _ av _ p (by decide) _ HW2.out).mono ?_
    rintro e w3 ⟨rfl, hk, hw⟩
    have HK3 := Lib.hid (HK2.out.trans hk)
    have HW3 := Lib.hid hw
    clear hk hw m2
    go_wp2_with fail
    go_end0
    exact ⟨rfl, HK3.out, HW3.out⟩
  · have i1 : decide (n < 1) = false := by simpa using hl
    clear hl
    by_cases hl2 : decide (2147483647 < n) = true
    · have i2 := hl2
      clear hl2
      go_wp2_with fail
      refine (rfailS_any g tv q _ av _ p (by decide) _ HW2.out).mono ?_
      rintro e w3 ⟨rfl, hk, hw⟩
      have HK3 := Lib.hid (HK2.out.trans hk)
      have HW3 := Lib.hid hw
      clear hk hw m2
      go_wp2_with fail
      go_end0
      exact ⟨rfl, HK3.out, HW3.out⟩
    · have i2 : decide (2147483647 < n) = false := by simpa using hl2
      clear hl2
      go_wp2_with fail
      go_end0
      exact ⟨rfl, HK2.out, HW2.out⟩

set_option maxHeartbeats 1600000 in
theorem ahead_other (k kd n : Int) (s t u : ByteArray) (l c : Int) (h2 : (k == 2) = false) (h3 : (k == 3) = false) (h4 : (k == 4) = false) (h5 : (k == 5) = false) (h6 : (k == 6) = false) (h21 : (k == 21) = false) (h30 : (k == 30) = false) : AheadC ⟨k, kd, n, s, t, u, l, c⟩ := by
  intro g tv av q p m w hw hz hm
  unfold Nd.val Nd.cells
  have c2 := Wk.c2 (show Wk g tv q 0 0 av w from hw)
  have c22 : ∀ o, (w.alloc o).cell? ⟨g, 2, none⟩ = some (.int .i64 0) := fun o => cell_later ((Below.refl _ _).alloc (Nat.le_refl _) o) c2
  have HW := Lib.hid hw
  clear hw
  have X : Hid (wordsM ⟨k, kd, n, s, t, u, l, c⟩ m = none) := by
    simp only [beq_eq_false_iff_ne] at h2 h3 h4 h5 h6 h21 h30
    simp [Hid, wordsM, h2, h3, h4, h5, h6, h21, h30]
  have i30 : (k != 30) = true := by simp [bne, h30]
  rw [wordsS_none X.out]
  go_enter Try.func65, Try.ntmps65
  go_wp2_with fail
  go_end0
  exact ⟨rfl, (Keep.refl _ _).alloc _, HW.out.later ((Below.refl _ _).alloc (Nat.le_refl _) _)⟩

theorem ahead_any (x : Nd) : AheadC x := by
  obtain ⟨k, kd, n, s, t, u, l, c⟩ := x
  by_cases h2 : k = 2; · subst h2; exact ahead_str _ _ _ _ _ _ _
  by_cases h3 : k = 3; · subst h3; exact ahead_truth _ _ _ _ _ _ _
  by_cases h4 : k = 4; · subst h4; exact ahead_var _ _ _ _ _ _ _
  by_cases h5 : k = 5; · subst h5; exact ahead_fn _ _ _ _ _ _ _
  by_cases h6 : k = 6; · subst h6; exact ahead_rec _ _ _ _ _ _ _
  by_cases h21 : k = 21; · subst h21; exact ahead_list _ _ _ _ _ _ _
  by_cases h30 : k = 30
  · subst h30
    cases ht : isTy t.data.toList with
    | false => exact ahead_cast_bad _ _ _ _ _ _ _ (.inl ht)
    | true =>
      cases hu : isTy u.data.toList with
      | false => exact ahead_cast_bad _ _ _ _ _ _ _ (.inr ⟨ht, hu⟩)
      | true =>
        obtain ⟨a, rfl, ha⟩ := ty_of t ht
        obtain ⟨b, rfl, hb⟩ := ty_of u hu
        cases hc : cons a b with
        | true => exact ahead_cast_yes _ _ _ _ _ _ _ ha hb hc
        | false => exact ahead_cast_no _ _ _ _ _ _ _ ha hb hc
  · exact ahead_other _ _ _ _ _ _ _ _ (beq_eq_false_iff_ne.2 h2) (beq_eq_false_iff_ne.2 h3) (beq_eq_false_iff_ne.2 h4) (beq_eq_false_iff_ne.2 h5) (beq_eq_false_iff_ne.2 h6) (beq_eq_false_iff_ne.2 h21) (beq_eq_false_iff_ne.2 h30)
end Go.Proofs.Ytnmhiddahfnkoaa

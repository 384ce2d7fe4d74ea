/- Walks of package core: what is asked of a node ahead of its kids. -/
import Derived.Test.YtnmhiddahfnkoaaCoreW
namespace Go.Proofs.Ytnmhiddahfnkoaa
set_option linter.unusedSimpArgs false
set_option linter.unusedVariables false
open Go.RowKit Culp

/-- What words ends with. -/
def WordsRes (r : Option Int) (p : Nat) (w : World) (en : Ending) (w' : World) : Prop := Below w.heap.size w w' ∧ match r with
  | none => en = .returned (.tuple #[])
  | some e => en = .panicked (flawV e p)
theorem WordsRes.none_ {r : Option Int} {p : Nat} {w w' : World} (h : r = none) (hb : Below w.heap.size w w') : WordsRes r p w (.returned (.tuple #[])) w' := by subst h; exact ⟨hb, rfl⟩
theorem WordsRes.some_ {r : Option Int} {e : Int} {p : Nat} {w w' : World} (h : r = some e) (hb : Below w.heap.size w w') : WordsRes r p w (.panicked (flawV e p)) w' := by subst h; exact ⟨hb, rfl⟩

theorem tyOf_none {s : ByteArray} (h : isTy s.data.toList = false) : tyOf s = none := by unfold tyOf; rw [h]; rfl

def WordsC (x : Nd) : Prop := ∀ (p n : Nat) (w : World), n ≤ 100000 → Calls Try.prog 45 #[x.val, .int .i64 p, .int .i64 n] w (WordsRes (wordsM x n) p w)

set_option maxHeartbeats 1600000 in
theorem words_str (kd n : Int) (s t u : ByteArray) (l c : Int) : WordsC ⟨2, kd, n, s, t, u, l, c⟩ := by
  intro p m w hm
  unfold Nd.val Nd.cells
  by_cases h : s.size ≤ 64
  · have X : Hid (wordsM ⟨2, kd, n, s, t, u, l, c⟩ m = none) := by simp [Hid, wordsM, h]
    have i1 : (s.size : Int) ≤ 64 := by omega
    go_enter Try.func45, Try.ntmps45
    go_wp2_with (first | (go_at_call 27; (with_reducible refine (need_yes _ _ _).mono ?_); rintro e w' ⟨rfl, rfl⟩) | (go_at_call 27; (with_reducible refine (need_no _ _ _).mono ?_); rintro e w' ⟨rfl, rfl⟩))
    go_end0
    exact WordsRes.none_ X.out ((Below.refl _ _).alloc (Nat.le_refl _) _)
  · have X : Hid (wordsM ⟨2, kd, n, s, t, u, l, c⟩ m = some 10) := by simp [Hid, wordsM]; omega
    have i1 : decide ((s.size : Int) ≤ 64) = false := decide_eq_false (by omega)
    go_enter Try.func45, Try.ntmps45
    go_wp2_with (first | (go_at_call 27; (with_reducible refine (need_yes _ _ _).mono ?_); rintro e w' ⟨rfl, rfl⟩) | (go_at_call 27; (with_reducible refine (need_no _ _ _).mono ?_); rintro e w' ⟨rfl, rfl⟩))
    exact ⟨rfl, WordsRes.some_ X.out ((Below.refl _ _).alloc (Nat.le_refl _) _)⟩

set_option maxHeartbeats 1600000 in
theorem words_truth (kd n : Int) (s t u : ByteArray) (l c : Int) : WordsC ⟨3, kd, n, s, t, u, l, c⟩ := by
  intro p m w hm
  unfold Nd.val Nd.cells
  by_cases h0 : n = 0
  · have X : Hid (wordsM ⟨3, kd, n, s, t, u, l, c⟩ m = none) := by simp [Hid, wordsM, h0]
    have i1 : (n == 0) = true := beq_iff_eq.2 h0
    clear h0
    go_enter Try.func45, Try.ntmps45
    go_wp2_with (first | (go_at_call 27; (with_reducible refine (need_yes _ _ _).mono ?_); rintro e w' ⟨rfl, rfl⟩) | (go_at_call 27; (with_reducible refine (need_no _ _ _).mono ?_); rintro e w' ⟨rfl, rfl⟩))
    go_end0
    exact WordsRes.none_ X.out ((Below.refl _ _).alloc (Nat.le_refl _) _)
  · have i1 : (n == 0) = false := beq_eq_false_iff_ne.2 h0
    by_cases h1 : n = 1
    · have X : Hid (wordsM ⟨3, kd, n, s, t, u, l, c⟩ m = none) := by simp [Hid, wordsM, h1]
      have i2 : (n == 1) = true := beq_iff_eq.2 h1
      clear h0 h1
      go_enter Try.func45, Try.ntmps45
      go_wp2_with (first | (go_at_call 27; (with_reducible refine (need_yes _ _ _).mono ?_); rintro e w' ⟨rfl, rfl⟩) | (go_at_call 27; (with_reducible refine (need_no _ _ _).mono ?_); rintro e w' ⟨rfl, rfl⟩))
      go_end0
      exact WordsRes.none_ X.out ((Below.refl _ _).alloc (Nat.le_refl _) _)
    · have X : Hid (wordsM ⟨3, kd, n, s, t, u, l, c⟩ m = some 13) := by simp [Hid, wordsM, h0, h1]
      have i2 : (n == 1) = false := beq_eq_false_iff_ne.2 h1
      clear h0 h1
      go_enter Try.func45, Try.ntmps45
      go_wp2_with (first | (go_at_call 27; (with_reducible refine (need_yes _ _ _).mono ?_); rintro e w' ⟨rfl, rfl⟩) | (go_at_call 27; (with_reducible refine (need_no _ _ _).mono ?_); rintro e w' ⟨rfl, rfl⟩))
      exact ⟨rfl, WordsRes.some_ X.out ((Below.refl _ _).alloc (Nat.le_refl _) _)⟩

set_option maxHeartbeats 1600000 in
theorem words_var (kd n : Int) (s t u : ByteArray) (l c : Int) : WordsC ⟨4, kd, n, s, t, u, l, c⟩ := by
  intro p m w hm
  unfold Nd.val Nd.cells
  by_cases h0 : 0 ≤ n
  · by_cases h1 : n < (m : Int)
    · have X : Hid (wordsM ⟨4, kd, n, s, t, u, l, c⟩ m = none) := by simp [Hid, wordsM, h0, h1]
      go_enter Try.func45, Try.ntmps45
      go_wp2_with (first | (go_at_call 27; (with_reducible refine (need_yes _ _ _).mono ?_); rintro e w' ⟨rfl, rfl⟩) | (go_at_call 27; (with_reducible refine (need_no _ _ _).mono ?_); rintro e w' ⟨rfl, rfl⟩))
      go_end0
      exact WordsRes.none_ X.out ((Below.refl _ _).alloc (Nat.le_refl _) _)
    · have X : Hid (wordsM ⟨4, kd, n, s, t, u, l, c⟩ m = some 22) := by simp [Hid, wordsM, h1]
      have i1 : decide (n < (m : Int)) = false := decide_eq_false h1
      go_enter Try.func45, Try.ntmps45
      go_wp2_with (first | (go_at_call 27; (with_reducible refine (need_yes _ _ _).mono ?_); rintro e w' ⟨rfl, rfl⟩) | (go_at_call 27; (with_reducible refine (need_no _ _ _).mono ?_); rintro e w' ⟨rfl, rfl⟩))
      exact ⟨rfl, WordsRes.some_ X.out ((Below.refl _ _).alloc (Nat.le_refl _) _)⟩
  · have X : Hid (wordsM ⟨4, kd, n, s, t, u, l, c⟩ m = some 22) := by simp [Hid, wordsM, h0]
    have i1 : decide (0 ≤ n) = false := decide_eq_false h0
    go_enter Try.func45, Try.ntmps45
    go_wp2_with (first | (go_at_call 27; (with_reducible refine (need_yes _ _ _).mono ?_); rintro e w' ⟨rfl, rfl⟩) | (go_at_call 27; (with_reducible refine (need_no _ _ _).mono ?_); rintro e w' ⟨rfl, rfl⟩))
    exact ⟨rfl, WordsRes.some_ X.out ((Below.refl _ _).alloc (Nat.le_refl _) _)⟩

set_option maxHeartbeats 1600000 in
theorem words_list (kd n : Int) (s t u : ByteArray) (l c : Int) : WordsC ⟨21, kd, n, s, t, u, l, c⟩ := by
  intro p m w hm
  unfold Nd.val Nd.cells
  cases ht : isTy t.data.toList with
  | true =>
    obtain ⟨a, rfl, ha⟩ := ty_of t ht
    have X : Hid (wordsM ⟨21, kd, n, s, a.str, u, l, c⟩ m = none) := by simp [Hid, wordsM, tyOf_str a ha]
    have T := Lib.hid ht
    clear ht
    go_enter Try.func45, Try.ntmps45
    go_wp2_with (first | (go_at_call 54; refine (cgood_any _ _).mono ?_; rw [T.out]; rintro e w' ⟨rfl, rfl⟩) | (go_at_call 27; (with_reducible refine (need_yes _ _ _).mono ?_); rintro e w' ⟨rfl, rfl⟩) | (go_at_call 27; (with_reducible refine (need_no _ _ _).mono ?_); rintro e w' ⟨rfl, rfl⟩))
    go_end0
    exact WordsRes.none_ X.out ((Below.refl _ _).alloc (Nat.le_refl _) _)
  | false =>
    have X : Hid (wordsM ⟨21, kd, n, s, t, u, l, c⟩ m = some 20) := by simp [Hid, wordsM, tyOf_none ht]
    have T := Lib.hid ht
    clear ht
    go_enter Try.func45, Try.ntmps45
    go_wp2_with (first | (go_at_call 54; refine (cgood_any _ _).mono ?_; rw [T.out]; rintro e w' ⟨rfl, rfl⟩) | (go_at_call 27; (with_reducible refine (need_yes _ _ _).mono ?_); rintro e w' ⟨rfl, rfl⟩) | (go_at_call 27; (with_reducible refine (need_no _ _ _).mono ?_); rintro e w' ⟨rfl, rfl⟩))
    exact ⟨rfl, WordsRes.some_ X.out ((Below.refl _ _).alloc (Nat.le_refl _) _)⟩

set_option maxHeartbeats 1600000 in
theorem words_fn (kd n : Int) (s t u : ByteArray) (l c : Int) : WordsC ⟨5, kd, n, s, t, u, l, c⟩ := by
  intro p m w hm
  unfold Nd.val Nd.cells
  cases ht : isTy t.data.toList with
  | false =>
    have X : Hid (wordsM ⟨5, kd, n, s, t, u, l, c⟩ m = some 20) := by simp [Hid, wordsM, tyOf_none ht]
    have T := Lib.hid ht
    clear ht
    go_enter Try.func45, Try.ntmps45
    go_wp2_with fail
    refine (cgood_any t _).mono ?_
    rw [T.out]
    rintro e w' ⟨rfl, rfl⟩
    go_wp2_with (first | (go_at_call 27; (with_reducible refine (need_yes _ _ _).mono ?_); rintro e w' ⟨rfl, rfl⟩) | (go_at_call 27; (with_reducible refine (need_no _ _ _).mono ?_); rintro e w' ⟨rfl, rfl⟩))
    exact ⟨rfl, WordsRes.some_ X.out ((Below.refl _ _).alloc (Nat.le_refl _) _)⟩
  | true =>
    cases hu : isTy u.data.toList with
    | false =>
      have X : Hid (wordsM ⟨5, kd, n, s, t, u, l, c⟩ m = some 20) := by simp [Hid, wordsM, tyOf_none hu]
      have T := Lib.hid ht
      have U := Lib.hid hu
      clear ht hu
      go_enter Try.func45, Try.ntmps45
      go_wp2_with fail
      refine (cgood_any t _).mono ?_
      rw [T.out]
      rintro e w' ⟨rfl, rfl⟩
      go_wp2_with fail
      refine (cgood_any u _).mono ?_
      rw [U.out]
      rintro e w' ⟨rfl, rfl⟩
      go_wp2_with (first | (go_at_call 27; (with_reducible refine (need_yes _ _ _).mono ?_); rintro e w' ⟨rfl, rfl⟩) | (go_at_call 27; (with_reducible refine (need_no _ _ _).mono ?_); rintro e w' ⟨rfl, rfl⟩))
      exact ⟨rfl, WordsRes.some_ X.out ((Below.refl _ _).alloc (Nat.le_refl _) _)⟩
    | true =>
      have T := Lib.hid ht
      have U := Lib.hid hu
      obtain ⟨a, rfl, ha⟩ := ty_of t ht
      obtain ⟨b, rfl, hb⟩ := ty_of u hu
      clear ht hu
      have X : Hid (wordsM ⟨5, kd, n, s, a.str, b.str, l, c⟩ m = none) := by simp [Hid, wordsM, tyOf_str a ha, tyOf_str b hb]
      go_enter Try.func45, Try.ntmps45
      go_wp2_with fail
      refine (cgood_any a.str _).mono ?_
      rw [T.out]
      rintro e w' ⟨rfl, rfl⟩
      go_wp2_with fail
      refine (cgood_any b.str _).mono ?_
      rw [U.out]
      rintro e w' ⟨rfl, rfl⟩
      go_wp2_with (first | (go_at_call 27; (with_reducible refine (need_yes _ _ _).mono ?_); rintro e w' ⟨rfl, rfl⟩) | (go_at_call 27; (with_reducible refine (need_no _ _ _).mono ?_); rintro e w' ⟨rfl, rfl⟩))
      go_end0
      exact WordsRes.none_ X.out ((Below.refl _ _).alloc (Nat.le_refl _) _)

set_option maxHeartbeats 1600000 in
theorem words_rec (kd n : Int) (s t u : ByteArray) (l c : Int) : WordsC ⟨6, kd, n, s, t, u, l, c⟩ := by
  intro p m w hm
  unfold Nd.val Nd.cells
  cases ht : isTy t.data.toList with
  | false =>
    have X : Hid (wordsM ⟨6, kd, n, s, t, u, l, c⟩ m = some 20) := by simp [Hid, wordsM, tyOf_none ht]
    have T := Lib.hid ht
    clear ht
    go_enter Try.func45, Try.ntmps45
    go_wp2_with fail
    refine (cgood_any t _).mono ?_
    rw [T.out]
    rintro e w' ⟨rfl, rfl⟩
    go_wp2_with (first | (go_at_call 27; (with_reducible refine (need_yes _ _ _).mono ?_); rintro e w' ⟨rfl, rfl⟩) | (go_at_call 27; (with_reducible refine (need_no _ _ _).mono ?_); rintro e w' ⟨rfl, rfl⟩))
    exact ⟨rfl, WordsRes.some_ X.out ((Below.refl _ _).alloc (Nat.le_refl _) _)⟩
  | true =>
    cases hu : isTy u.data.toList with
    | false =>
      have X : Hid (wordsM ⟨6, kd, n, s, t, u, l, c⟩ m = some 20) := by simp [Hid, wordsM, tyOf_none hu]
      have T := Lib.hid ht
      have U := Lib.hid hu
      clear ht hu
      go_enter Try.func45, Try.ntmps45
      go_wp2_with fail
      refine (cgood_any t _).mono ?_
      rw [T.out]
      rintro e w' ⟨rfl, rfl⟩
      go_wp2_with fail
      refine (cgood_any u _).mono ?_
      rw [U.out]
      rintro e w' ⟨rfl, rfl⟩
      go_wp2_with (first | (go_at_call 27; (with_reducible refine (need_yes _ _ _).mono ?_); rintro e w' ⟨rfl, rfl⟩) | (go_at_call 27; (with_reducible refine (need_no _ _ _).mono ?_); rintro e w' ⟨rfl, rfl⟩))
      exact ⟨rfl, WordsRes.some_ X.out ((Below.refl _ _).alloc (Nat.le_refl _) _)⟩
    | true =>
      have T := Lib.hid ht
      have U := Lib.hid hu
      obtain ⟨a, rfl, ha⟩ := ty_of t ht
      obtain ⟨b, rfl, hb⟩ := ty_of u hu
      clear ht hu
      have X : Hid (wordsM ⟨6, kd, n, s, a.str, b.str, l, c⟩ m = none) := by simp [Hid, wordsM, tyOf_str a ha, tyOf_str b hb]
      go_enter Try.func45, Try.ntmps45
      go_wp2_with fail
      refine (cgood_any a.str _).mono ?_
      rw [T.out]
      rintro e w' ⟨rfl, rfl⟩
      go_wp2_with fail
      refine (cgood_any b.str _).mono ?_
      rw [U.out]
      rintro e w' ⟨rfl, rfl⟩
      go_wp2_with (first | (go_at_call 27; (with_reducible refine (need_yes _ _ _).mono ?_); rintro e w' ⟨rfl, rfl⟩) | (go_at_call 27; (with_reducible refine (need_no _ _ _).mono ?_); rintro e w' ⟨rfl, rfl⟩))
      go_end0
      exact WordsRes.none_ X.out ((Below.refl _ _).alloc (Nat.le_refl _) _)

set_option maxHeartbeats 1600000 in
theorem words_cast (kd n : Int) (s t u : ByteArray) (l c : Int) : WordsC ⟨30, kd, n, s, t, u, l, c⟩ := by
  intro p m w hm
  unfold Nd.val Nd.cells
  cases ht : isTy t.data.toList with
  | false =>
    have X : Hid (wordsM ⟨30, kd, n, s, t, u, l, c⟩ m = some 20) := by simp [Hid, wordsM, tyOf_none ht]
    have T := Lib.hid ht
    clear ht
    go_enter Try.func45, Try.ntmps45
    go_wp2_with fail
    refine (cgood_any t _).mono ?_
    rw [T.out]
    rintro e w' ⟨rfl, rfl⟩
    go_wp2_with (first | (go_at_call 27; (with_reducible refine (need_yes _ _ _).mono ?_); rintro e w' ⟨rfl, rfl⟩) | (go_at_call 27; (with_reducible refine (need_no _ _ _).mono ?_); rintro e w' ⟨rfl, rfl⟩))
    exact ⟨rfl, WordsRes.some_ X.out ((Below.refl _ _).alloc (Nat.le_refl _) _)⟩
  | true =>
    cases hu : isTy u.data.toList with
    | false =>
      have X : Hid (wordsM ⟨30, kd, n, s, t, u, l, c⟩ m = some 20) := by simp [Hid, wordsM, tyOf_none hu]
      have T := Lib.hid ht
      have U := Lib.hid hu
      clear ht hu
      go_enter Try.func45, Try.ntmps45
      go_wp2_with fail
      refine (cgood_any t _).mono ?_
      rw [T.out]
      rintro e w' ⟨rfl, rfl⟩
      go_wp2_with fail
      refine (cgood_any u _).mono ?_
      rw [U.out]
      rintro e w' ⟨rfl, rfl⟩
      go_wp2_with (first | (go_at_call 27; (with_reducible refine (need_yes _ _ _).mono ?_); rintro e w' ⟨rfl, rfl⟩) | (go_at_call 27; (with_reducible refine (need_no _ _ _).mono ?_); rintro e w' ⟨rfl, rfl⟩))
      exact ⟨rfl, WordsRes.some_ X.out ((Below.refl _ _).alloc (Nat.le_refl _) _)⟩
    | true =>
      have T := Lib.hid ht
      have U := Lib.hid hu
      obtain ⟨a, rfl, ha⟩ := ty_of t ht
      obtain ⟨b, rfl, hb⟩ := ty_of u hu
      clear ht hu
      have hB0 : ∀ o, Below w.heap.size w (w.alloc o) := fun o => (Below.refl _ _).alloc (Nat.le_refl _) o
      cases hc : cons a b with
      | false =>
        have X : Hid (wordsM ⟨30, kd, n, s, a.str, b.str, l, c⟩ m = some 23) := by simp [Hid, wordsM, tyOf_str a ha, tyOf_str b hb, hc]
        have C := Lib.hid hc
        clear hc
        go_enter Try.func45, Try.ntmps45
        go_wp2_with fail
        refine (cgood_any a.str _).mono ?_
        rw [T.out]
        rintro e w' ⟨rfl, rfl⟩
        go_wp2_with fail
        refine (cgood_any b.str _).mono ?_
        rw [U.out]
        rintro e w' ⟨rfl, rfl⟩
        go_wp2_with (first | (go_at_call 27; (with_reducible refine (need_yes _ _ _).mono ?_); rintro e w' ⟨rfl, rfl⟩) | (go_at_call 27; (with_reducible refine (need_no _ _ _).mono ?_); rintro e w' ⟨rfl, rfl⟩))
        refine (Consistent_any a b ha hb _).mono ?_
        rw [C.out]
        rintro e w1 ⟨rfl, hb1⟩
        have hB := below_later hb1 (hB0 _)
        clear hb1
        go_wp2_with (first | (go_at_call 27; (with_reducible refine (need_yes _ _ _).mono ?_); rintro e w' ⟨rfl, rfl⟩) | (go_at_call 27; (with_reducible refine (need_no _ _ _).mono ?_); rintro e w' ⟨rfl, rfl⟩))
        exact ⟨rfl, WordsRes.some_ X.out hB⟩
      | true =>
        have C := Lib.hid hc
        by_cases h1 : 1 ≤ n ∧ n ≤ 2147483647
        · have X : Hid (wordsM ⟨30, kd, n, s, a.str, b.str, l, c⟩ m = none) := by simp [Hid, wordsM, tyOf_str a ha, tyOf_str b hb, hc, h1]
          obtain ⟨i1, i2⟩ := h1
          clear hc
          go_enter Try.func45, Try.ntmps45
          go_wp2_with fail
          refine (cgood_any a.str _).mono ?_
          rw [T.out]
          rintro e w' ⟨rfl, rfl⟩
          go_wp2_with fail
          refine (cgood_any b.str _).mono ?_
          rw [U.out]
          rintro e w' ⟨rfl, rfl⟩
          go_wp2_with (first | (go_at_call 27; (with_reducible refine (need_yes _ _ _).mono ?_); rintro e w' ⟨rfl, rfl⟩) | (go_at_call 27; (with_reducible refine (need_no _ _ _).mono ?_); rintro e w' ⟨rfl, rfl⟩))
          refine (Consistent_any a b ha hb _).mono ?_
          rw [C.out]
          rintro e w1 ⟨rfl, hb1⟩
          have hB := below_later hb1 (hB0 _)
          have n2 : w1.cell? ⟨w.heap.size, 2, none⟩ = some (.int .i64 n) := cell_later hb1 (by go_simp)
          clear hb1
          go_wp2_with (first | (go_at_call 27; (with_reducible refine (need_yes _ _ _).mono ?_); rintro e w' ⟨rfl, rfl⟩) | (go_at_call 27; (with_reducible refine (need_no _ _ _).mono ?_); rintro e w' ⟨rfl, rfl⟩))
          go_end0
          exact WordsRes.none_ X.out hB
        · have X : Hid (wordsM ⟨30, kd, n, s, a.str, b.str, l, c⟩ m = some 13) := by simp only [Hid, wordsM, tyOf_str a ha, tyOf_str b hb, hc, h1]; rfl
          have i1 : decide (1 ≤ n) = false ∨ (1 ≤ n ∧ decide (n ≤ 2147483647) = false) := by
            by_cases h : 1 ≤ n
            · exact .inr ⟨h, decide_eq_false (fun h2 => h1 ⟨h, h2⟩)⟩
            · exact .inl (decide_eq_false h)
          clear hc h1
          rcases i1 with i1 | ⟨i1, i2⟩
          all_goals
            go_enter Try.func45, Try.ntmps45
            go_wp2_with fail
            refine (cgood_any a.str _).mono ?_
            rw [T.out]
            rintro e w' ⟨rfl, rfl⟩
            go_wp2_with fail
            refine (cgood_any b.str _).mono ?_
            rw [U.out]
            rintro e w' ⟨rfl, rfl⟩
            go_wp2_with (first | (go_at_call 27; (with_reducible refine (need_yes _ _ _).mono ?_); rintro e w' ⟨rfl, rfl⟩) | (go_at_call 27; (with_reducible refine (need_no _ _ _).mono ?_); rintro e w' ⟨rfl, rfl⟩))
            refine (Consistent_any a b ha hb _).mono ?_
            rw [C.out]
            rintro e w1 ⟨rfl, hb1⟩
            have hB := below_later hb1 (hB0 _)
            have n2 : w1.cell? ⟨w.heap.size, 2, none⟩ = some (.int .i64 n) := cell_later hb1 (by go_simp)
            clear hb1
            go_wp2_with (first | (go_at_call 27; (with_reducible refine (need_yes _ _ _).mono ?_); rintro e w' ⟨rfl, rfl⟩) | (go_at_call 27; (with_reducible refine (need_no _ _ _).mono ?_); rintro e w' ⟨rfl, rfl⟩))
            exact ⟨rfl, WordsRes.some_ X.out hB⟩

set_option maxHeartbeats 1600000 in
theorem words_else (k kd n : Int) (s t u : ByteArray) (l c : Int) (h2 : (k == 2) = false) (h3 : (k == 3) = false) (h4 : (k == 4) = false) (h5 : (k == 5) = false) (h6 : (k == 6) = false) (h21 : (k == 21) = false) (h30 : (k == 30) = false) : WordsC ⟨k, kd, n, s, t, u, l, c⟩ := by
  intro p m w hm
  unfold Nd.val Nd.cells
  have X : Hid (wordsM ⟨k, kd, n, s, t, u, l, c⟩ m = none) := by
    simp only [beq_eq_false_iff_ne, ne_eq] at h2 h3 h4 h5 h6 h21 h30
    simp [Hid, wordsM, h2, h3, h4, h5, h6, h21, h30]
  go_enter Try.func45, Try.ntmps45
  go_wp2_with (first | (go_at_call 27; (with_reducible refine (need_yes _ _ _).mono ?_); rintro e w' ⟨rfl, rfl⟩) | (go_at_call 27; (with_reducible refine (need_no _ _ _).mono ?_); rintro e w' ⟨rfl, rfl⟩))
  go_end0
  exact WordsRes.none_ X.out ((Below.refl _ _).alloc (Nat.le_refl _) _)

theorem words_any (x : Nd) : WordsC x := by
  obtain ⟨k, kd, n, s, t, u, l, c⟩ := x
  by_cases h2 : k = 2; · subst h2; exact words_str _ _ _ _ _ _ _
  by_cases h3 : k = 3; · subst h3; exact words_truth _ _ _ _ _ _ _
  by_cases h4 : k = 4; · subst h4; exact words_var _ _ _ _ _ _ _
  by_cases h5 : k = 5; · subst h5; exact words_fn _ _ _ _ _ _ _
  by_cases h6 : k = 6; · subst h6; exact words_rec _ _ _ _ _ _ _
  by_cases h21 : k = 21; · subst h21; exact words_list _ _ _ _ _ _ _
  by_cases h30 : k = 30; · subst h30; exact words_cast _ _ _ _ _ _ _
  exact words_else _ _ _ _ _ _ _ _ (beq_eq_false_iff_ne.2 h2) (beq_eq_false_iff_ne.2 h3) (beq_eq_false_iff_ne.2 h4) (beq_eq_false_iff_ne.2 h5) (beq_eq_false_iff_ne.2 h6) (beq_eq_false_iff_ne.2 h21) (beq_eq_false_iff_ne.2 h30)
end Go.Proofs.Ytnmhiddahfnkoaa

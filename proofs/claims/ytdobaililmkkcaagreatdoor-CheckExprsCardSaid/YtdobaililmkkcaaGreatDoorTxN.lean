
/- What follows for sources and their tokens: cut, written anew, quoted; no program in sight. -/
import Derived.Test.YtdobaililmkkcaaGreatDoorTx
namespace Culp.Tx
set_option linter.unusedSimpArgs false
set_option linter.unusedVariables false

theorem letter_inner {c : UInt8} (h : letter c = true) : inner c = true := by unfold inner; rw [h]; rfl
theorem digit_inner {c : UInt8} (h : digit c = true) : inner c = true := by unfold inner; rw [h]; simp
theorem not_both {c : UInt8} (h : letter c = true) : digit c = false := by
  unfold letter at h; unfold digit
  simp only [decide_eq_true_eq] at h
  simp only [decide_eq_false_iff_not]; omega

/-- A list of bytes with which a next piece may begin behind a token. -/
def Stop (z : List UInt8) : Prop := z = [] ∨ ∃ c r, z = c :: r ∧ (blank c = true ∨ c.toNat = 35)
theorem stop_inner {c : UInt8} (h : blank c = true ∨ c.toNat = 35) : inner c = false := by
  unfold inner letter digit
  unfold blank at h
  simp only [decide_eq_true_eq] at h
  simp only [Bool.or_eq_false_iff, decide_eq_false_iff_not]
  omega
theorem run_all : ∀ {r : List UInt8}, r.all inner = true → run r = r
  | [], _ => rfl
  | c :: r, h => by
    simp only [List.all_cons, Bool.and_eq_true] at h
    have := run_all (r := r) h.2
    unfold run at this ⊢
    rw [List.takeWhile_cons, if_pos h.1, this]
theorem run_app : ∀ {r z : List UInt8}, r.all inner = true → (z = [] ∨ ∃ c y, z = c :: y ∧ inner c = false) → run (r ++ z) = r
  | [], z, _, hz => by
    rcases hz with rfl | ⟨c, y, rfl, hc⟩
    · rfl
    · unfold run; simp [List.takeWhile_cons, hc]
  | c :: r, z, h, hz => by
    simp only [List.all_cons, Bool.and_eq_true] at h
    have := run_app (r := r) (z := z) h.2 hz
    unfold run at this ⊢
    rw [List.cons_append, List.takeWhile_cons, if_pos h.1, this]
theorem run_inner : ∀ l : List UInt8, (run l).all inner = true
  | [] => rfl
  | c :: l => by
    have := run_inner l
    unfold run at this ⊢
    rw [List.takeWhile_cons]
    split
    · rename_i h; rw [List.all_cons, h, this]; rfl
    · rfl
theorem run_take : ∀ l : List UInt8, l.take (run l).length = run l
  | [] => rfl
  | c :: l => by
    have := run_take l
    unfold run at this ⊢
    rw [List.takeWhile_cons]
    split
    · simp [this]
    · rfl
theorem run_of_take : ∀ (l : List UInt8) (j : Nat), run (l.take j) = (run l).take j
  | [], j => by simp [run]
  | c :: l, 0 => by simp [run]
  | c :: l, j + 1 => by
    have := run_of_take l j
    unfold run at this ⊢
    rw [List.take_succ_cons, List.takeWhile_cons, List.takeWhile_cons]
    split
    · simp [this]
    · simp

theorem unq_stable : ∀ (l : List UInt8) (s : List UInt8) (k : Nat), unq l = some (s, k) → ∀ z, unq (l.take k ++ z) = some (s, k)
  | [], s, k, h, _ => by simp [unq] at h
  | [c], s, k, h, z => by
    unfold unq at h
    split at h
    · rename_i hc
      simp at h; obtain ⟨rfl, rfl⟩ := h
      cases z with
      | nil => simp [unq, hc]
      | cons d z => simp [unq, hc]
    · cases h
  | c :: d :: l, s, k, h, z => by
    unfold unq at h
    split at h
    · rename_i hc
      simp at h; obtain ⟨rfl, rfl⟩ := h
      cases z with
      | nil => simp [unq, hc]
      | cons d z => simp [unq, hc]
    rename_i hc
    split at h
    · rename_i h92
      split at h
      · rename_i hd
        simp only [Option.map_eq_some_iff, Prod.exists, Prod.mk.injEq] at h
        obtain ⟨a, b, h1, rfl, rfl⟩ := h
        have := unq_stable l a b h1 z
        simp only [List.take_succ_cons, List.cons_append]
        rw [unq, if_neg hc, if_pos h92, if_pos hd, this]; rfl
      · rename_i hd
        split at h
        · rename_i hn
          simp only [Option.map_eq_some_iff, Prod.exists, Prod.mk.injEq] at h
          obtain ⟨a, b, h1, rfl, rfl⟩ := h
          have := unq_stable l a b h1 z
          simp only [List.take_succ_cons, List.cons_append]
          rw [unq, if_neg hc, if_pos h92, if_neg hd, if_pos hn, this]; rfl
        · cases h
    · rename_i h92
      split at h
      · cases h
      · rename_i hr
        simp only [Option.map_eq_some_iff, Prod.exists, Prod.mk.injEq] at h
        obtain ⟨a, b, h1, rfl, rfl⟩ := h
        have := unq_stable (d :: l) a b h1 z
        have hb := unq_bounds _ _ _ h1
        obtain ⟨b', rfl⟩ : ∃ b', b = b' + 1 := ⟨b - 1, by omega⟩
        simp only [List.take_succ_cons, List.cons_append] at this ⊢
        rw [unq, if_neg hc, if_neg h92, if_neg hr, this]; rfl
/-- Cut ahead of its end it is none. -/
theorem unq_cut : ∀ (l : List UInt8) (s : List UInt8) (k : Nat), unq l = some (s, k) → ∀ j, j < k → unq (l.take j) = none
  | [], s, k, h, _, _ => by simp [unq] at h
  | c :: l, s, k, h, 0, _ => by simp [unq]
  | [c], s, k, h, j + 1, hj => by
    have := unq_bounds _ _ _ h
    simp at this; omega
  | c :: d :: l, s, k, h, j + 1, hj => by
    unfold unq at h
    split at h
    · simp at h; obtain ⟨rfl, rfl⟩ := h; omega
    rename_i hc
    cases j with
    | zero => simp [unq, hc]
    | succ j =>
    simp only [List.take_succ_cons]
    split at h
    · rename_i h92
      split at h
      · rename_i hd
        simp only [Option.map_eq_some_iff, Prod.exists, Prod.mk.injEq] at h
        obtain ⟨a, b, h1, rfl, rfl⟩ := h
        have := unq_cut l a b h1 j (by omega)
        rw [unq, if_neg hc, if_pos h92, if_pos hd, this]; rfl
      · rename_i hd
        split at h
        · rename_i hn
          simp only [Option.map_eq_some_iff, Prod.exists, Prod.mk.injEq] at h
          obtain ⟨a, b, h1, rfl, rfl⟩ := h
          have := unq_cut l a b h1 j (by omega)
          rw [unq, if_neg hc, if_pos h92, if_neg hd, if_pos hn, this]; rfl
        · cases h
    · rename_i h92
      split at h
      · cases h
      · rename_i hr
        simp only [Option.map_eq_some_iff, Prod.exists, Prod.mk.injEq] at h
        obtain ⟨a, b, h1, rfl, rfl⟩ := h
        have := unq_cut (d :: l) a b h1 (j + 1) (by omega)
        simp only [List.take_succ_cons] at this
        rw [unq, if_neg hc, if_neg h92, if_neg hr, this]; rfl
/-- What it stands for, written anew, is the same. -/
theorem unq_escs : ∀ (l : List UInt8) (s : List UInt8) (k : Nat), unq l = some (s, k) → escs s = some (l.take (k - 1)) ∧ l.take k = l.take (k - 1) ++ [34]
  | [], s, k, h => by simp [unq] at h
  | [c], s, k, h => by
    unfold unq at h
    split at h
    · rename_i hc
      simp at h; obtain ⟨rfl, rfl⟩ := h
      have : c = 34 := UInt8.toNat_inj.1 hc
      subst this; exact ⟨rfl, rfl⟩
    · cases h
  | c :: d :: l, s, k, h => by
    unfold unq at h
    split at h
    · rename_i hc
      simp at h; obtain ⟨rfl, rfl⟩ := h
      have : c = 34 := UInt8.toNat_inj.1 hc
      subst this; exact ⟨rfl, rfl⟩
    rename_i hc
    split at h
    · rename_i h92
      have e92 : c = 92 := UInt8.toNat_inj.1 h92
      subst e92
      split at h
      · rename_i hd
        simp only [Option.map_eq_some_iff, Prod.exists, Prod.mk.injEq] at h
        obtain ⟨a, b, h1, rfl, rfl⟩ := h
        obtain ⟨i1, i2⟩ := unq_escs l a b h1
        have hb := unq_bounds _ _ _ h1
        obtain ⟨b', rfl⟩ : ∃ b', b = b' + 1 := ⟨b - 1, by omega⟩
        have e1 : b' + 1 + 2 - 1 = (b' + 1 - 1) + 2 := by omega
        rw [e1]
        simp only [List.take_succ_cons, List.cons_append, i2, and_true]
        unfold escs
        have : esc d = some [92, d] := by unfold esc; rw [if_neg (by omega), if_neg (by omega), if_pos hd]
        rw [this, i1]; rfl
      · rename_i hd
        split at h
        · rename_i hn
          simp only [Option.map_eq_some_iff, Prod.exists, Prod.mk.injEq] at h
          obtain ⟨a, b, h1, rfl, rfl⟩ := h
          obtain ⟨i1, i2⟩ := unq_escs l a b h1
          have hb := unq_bounds _ _ _ h1
          obtain ⟨b', rfl⟩ : ∃ b', b = b' + 1 := ⟨b - 1, by omega⟩
          have e1 : b' + 1 + 2 - 1 = (b' + 1 - 1) + 2 := by omega
          rw [e1]
          have ed : d = 110 := UInt8.toNat_inj.1 hn
          subst ed
          simp only [List.take_succ_cons, List.cons_append, i2, and_true]
          unfold escs
          rw [show esc 10 = some [92, 110] from rfl, i1]; rfl
        · cases h
    · rename_i h92
      split at h
      · cases h
      · rename_i hr
        simp only [Option.map_eq_some_iff, Prod.exists, Prod.mk.injEq] at h
        obtain ⟨a, b, h1, rfl, rfl⟩ := h
        obtain ⟨i1, i2⟩ := unq_escs (d :: l) a b h1
        have hb := unq_bounds _ _ _ h1
        obtain ⟨b', rfl⟩ : ∃ b', b = b' + 1 := ⟨b - 1, by omega⟩
        have e1 : b' + 1 + 1 - 1 = (b' + 1 - 1) + 1 := by omega
        rw [e1]
        rw [List.take_succ_cons, List.take_succ_cons, i2, List.cons_append]
        refine ⟨?_, rfl⟩
        unfold escs
        have : esc c = some [c] := by unfold esc; rw [if_neg (by omega), if_neg hr, if_neg (by omega)]
        rw [this, i1]; rfl

theorem mark_head {c : UInt8} {l : List UInt8} (h : mark (c :: l) ≠ []) : c ∈ marks1 := by
  cases l with
  | nil =>
    rw [mark] at h
    split at h
    · assumption
    · simp at h
  | cons d l =>
    rw [mark] at h
    split at h
    · rename_i h2
      simp only [marks2, List.mem_cons, List.cons.injEq, List.not_mem_nil, or_false, and_true] at h2
      rcases h2 with ⟨rfl, rfl⟩ | ⟨rfl, rfl⟩ | ⟨rfl, rfl⟩ | ⟨rfl, rfl⟩ | ⟨rfl, rfl⟩ <;> decide
    · split at h
      · assumption
      · simp at h
theorem mark_take : ∀ l : List UInt8, l.take (mark l).length = mark l
  | [] => rfl
  | [c] => by rw [mark]; split <;> rfl
  | c :: d :: l => by
    rw [mark]
    split
    · rfl
    · split <;> rfl
theorem mark_one {c : UInt8} {l : List UInt8} (h : mark (c :: l) = [c]) : ∀ d, l.head? = some d → [c, d] ∉ marks2 := by
  intro d hd h2
  cases l with
  | nil => simp at hd
  | cons x l =>
    simp at hd; subst hd
    rw [mark, if_pos h2] at h
    simp at h
theorem mark_stable {l z : List UInt8} (hz : Stop z) (h : mark l ≠ []) : mark (mark l ++ z) = mark l := by
  match l with
  | [] => simp [mark] at h
  | [c] =>
    have hc := mark_head h
    have e : mark [c] = [c] := by rw [mark, if_pos hc]
    rw [e]
    rcases hz with rfl | ⟨d, r, rfl, hd⟩
    · exact e
    · rw [List.cons_append, List.nil_append, mark, if_neg, if_pos hc]
      intro h2
      simp only [marks2, List.mem_cons, List.cons.injEq, List.not_mem_nil, or_false, and_true] at h2
      unfold blank at hd
      simp only [decide_eq_true_eq] at hd
      rcases h2 with ⟨rfl, rfl⟩ | ⟨rfl, rfl⟩ | ⟨rfl, rfl⟩ | ⟨rfl, rfl⟩ | ⟨rfl, rfl⟩ <;> simp at hd
  | c :: d :: l =>
    have hc := mark_head h
    by_cases h2 : [c, d] ∈ marks2
    · have e : mark (c :: d :: l) = [c, d] := by rw [mark, if_pos h2]
      rw [e]
      show mark (c :: d :: z) = _
      rw [mark, if_pos h2]
    · have e : mark (c :: d :: l) = [c] := by rw [mark, if_neg h2, if_pos hc]
      rw [e]
      rcases hz with rfl | ⟨d, r, rfl, hd⟩
      · rw [List.append_nil, mark, if_pos hc]
      · rw [List.cons_append, List.nil_append, mark, if_neg, if_pos hc]
        intro h2
        simp only [marks2, List.mem_cons, List.cons.injEq, List.not_mem_nil, or_false, and_true] at h2
        unfold blank at hd
        simp only [decide_eq_true_eq] at hd
        rcases h2 with ⟨rfl, rfl⟩ | ⟨rfl, rfl⟩ | ⟨rfl, rfl⟩ | ⟨rfl, rfl⟩ | ⟨rfl, rfl⟩ <;> simp at hd

/-- The kinds of a token that stands first. -/
theorem one_cases {c : UInt8} {l : List UInt8} {t : Tk} {k : Nat} (h : one (c :: l) = .ok (t, k)) :
    (letter c = true ∧ (run (c :: l)).length ≤ 32 ∧ t = ⟨if isWord (run (c :: l)) = true then 1 else 2, 0, run (c :: l)⟩ ∧ k = (run (c :: l)).length) ∨
    (letter c = false ∧ digit c = true ∧ ∃ n, worth (run (c :: l)) = some n ∧ t = ⟨3, n, []⟩ ∧ k = (run (c :: l)).length) ∨
    (letter c = false ∧ digit c = false ∧ c.toNat = 34 ∧ ∃ s j, unq l = some (s, j) ∧ s.length ≤ 64 ∧ t = ⟨4, 0, s⟩ ∧ k = j + 1) ∨
    (letter c = false ∧ digit c = false ∧ c.toNat ≠ 34 ∧ mark (c :: l) ≠ [] ∧ t = ⟨5, 0, mark (c :: l)⟩ ∧ k = (mark (c :: l)).length) := by
  rw [one] at h
  split at h
  · rename_i hl
    split at h
    · injection h with h; injection h with h1 h2
      exact .inl ⟨hl, by assumption, h1.symm, h2.symm⟩
    · cases h
  rename_i hl
  simp at hl
  split at h
  · rename_i hd
    split at h
    · injection h with h; injection h with h1 h2
      exact .inr (.inl ⟨hl, hd, _, by assumption, h1.symm, h2.symm⟩)
    · cases h
  rename_i hd
  simp at hd
  split at h
  · rename_i hq
    split at h
    · rename_i s j hu
      split at h
      · injection h with h; injection h with h1 h2
        exact .inr (.inr (.inl ⟨hl, hd, hq, s, j, hu, by assumption, h1.symm, h2.symm⟩))
      · cases h
    · cases h
  · rename_i hq
    split at h
    · cases h
    · injection h with h; injection h with h1 h2
      exact .inr (.inr (.inr ⟨hl, hd, hq, by assumption, h1.symm, h2.symm⟩))
theorem one_word {c : UInt8} {l : List UInt8} (hl : letter c = true) (h : (run (c :: l)).length ≤ 32) : one (c :: l) = .ok (⟨if isWord (run (c :: l)) = true then 1 else 2, 0, run (c :: l)⟩, (run (c :: l)).length) := by
  rw [one, if_pos hl, if_pos h]
theorem one_num {c : UInt8} {l : List UInt8} {n : Nat} (hd : digit c = true) (h : worth (run (c :: l)) = some n) : one (c :: l) = .ok (⟨3, n, []⟩, (run (c :: l)).length) := by
  have hl : ¬ letter c = true := fun hl => by rw [not_both hl] at hd; cases hd
  rw [one, if_neg hl, if_pos hd, h]
theorem one_text {c : UInt8} {l : List UInt8} {s : List UInt8} {j : Nat} (hc : c.toNat = 34) (h : unq l = some (s, j)) (hs : s.length ≤ 64) : one (c :: l) = .ok (⟨4, 0, s⟩, j + 1) := by
  have hl : ¬ letter c = true := by unfold letter; simp only [decide_eq_true_eq]; omega
  have hd : ¬ digit c = true := by unfold digit; simp only [decide_eq_true_eq]; omega
  rw [one, if_neg hl, if_neg hd, if_pos hc, h]; simp [hs]
theorem one_text_no {c : UInt8} {l : List UInt8} (hc : c.toNat = 34) (h : unq l = none) : one (c :: l) = .error 14 := by
  have hl : ¬ letter c = true := by unfold letter; simp only [decide_eq_true_eq]; omega
  have hd : ¬ digit c = true := by unfold digit; simp only [decide_eq_true_eq]; omega
  rw [one, if_neg hl, if_neg hd, if_pos hc, h]
theorem one_mark {c : UInt8} {l : List UInt8} (hl : letter c = false) (hd : digit c = false) (hq : c.toNat ≠ 34) (h : mark (c :: l) ≠ []) : one (c :: l) = .ok (⟨5, 0, mark (c :: l)⟩, (mark (c :: l)).length) := by
  rw [one, if_neg (by rw [hl]; simp), if_neg (by rw [hd]; simp), if_neg hq, if_neg h]

/-- A token by itself, and what may stand behind. -/
theorem one_stable {l : List UInt8} {t : Tk} {k : Nat} (h : one l = .ok (t, k)) {z : List UInt8} (hz : Stop z) : one (l.take k ++ z) = .ok (t, k) := by
  cases l with
  | nil => simp [one] at h
  | cons c l =>
    have hz' : z = [] ∨ ∃ c y, z = c :: y ∧ inner c = false := by
      rcases hz with rfl | ⟨c, r, rfl, hc⟩
      · exact .inl rfl
      · exact .inr ⟨c, r, rfl, stop_inner hc⟩
    have hk := (one_bounds h).1
    obtain ⟨k', rfl⟩ : ∃ k', k = k' + 1 := ⟨k - 1, by omega⟩
    rcases one_cases h with ⟨hl, h32, rfl, hk2⟩ | ⟨hl, hd, n, hw, rfl, hk2⟩ | ⟨hl, hd, hq, s, j, hu, hs, rfl, hk2⟩ | ⟨hl, hd, hq, hm, rfl, hk2⟩
    · have e : (c :: l).take (k' + 1) = run (c :: l) := by rw [hk2, run_take]
      have hr : run (run (c :: l) ++ z) = run (c :: l) := run_app (run_inner _) hz'
      rw [e, hk2]
      obtain ⟨r, hr0⟩ : ∃ r, run (c :: l) = c :: r := ⟨_, by rw [← e, List.take_succ_cons]⟩
      rw [hr0] at hr h32 ⊢
      rw [List.cons_append] at hr ⊢
      have := one_word (l := r ++ z) hl (by rw [hr]; exact h32)
      rw [hr] at this
      exact this
    · have e : (c :: l).take (k' + 1) = run (c :: l) := by rw [hk2, run_take]
      have hr : run (run (c :: l) ++ z) = run (c :: l) := run_app (run_inner _) hz'
      rw [e, hk2]
      obtain ⟨r, hr0⟩ : ∃ r, run (c :: l) = c :: r := ⟨_, by rw [← e, List.take_succ_cons]⟩
      rw [hr0] at hr hw ⊢
      rw [List.cons_append] at hr ⊢
      have := one_num (l := r ++ z) hd (by rw [hr]; exact hw)
      rw [hr] at this
      exact this
    · injection hk2 with hk2; subst hk2
      rw [List.take_succ_cons, List.cons_append]
      exact one_text hq (unq_stable _ _ _ hu z) hs
    · have e : (c :: l).take (k' + 1) = mark (c :: l) := by rw [hk2, mark_take]
      have hr : mark (mark (c :: l) ++ z) = mark (c :: l) := mark_stable hz hm
      rw [e, hk2]
      obtain ⟨r, hr0⟩ : ∃ r, mark (c :: l) = c :: r := ⟨_, by rw [← e, List.take_succ_cons]⟩
      rw [hr0] at hr hm ⊢
      rw [List.cons_append] at hr ⊢
      have := one_mark (l := r ++ z) hl hd hq (by rw [hr]; exact hm)
      rw [hr] at this
      exact this
theorem one_take {l : List UInt8} {t : Tk} {k : Nat} (h : one l = .ok (t, k)) {j : Nat} (hj : k ≤ j) : one (l.take j) = .ok (t, k) := by
  cases l with
  | nil => simp [one] at h
  | cons c l =>
    have hk := (one_bounds h).1
    obtain ⟨j', rfl⟩ : ∃ j', j = j' + 1 := ⟨j - 1, by omega⟩
    rw [List.take_succ_cons]
    rcases one_cases h with ⟨hl, h32, rfl, hk2⟩ | ⟨hl, hd, n, hw, rfl, hk2⟩ | ⟨hl, hd, hq, s, i, hu, hs, rfl, hk2⟩ | ⟨hl, hd, hq, hm, rfl, hk2⟩
    · have e : run (c :: l.take j') = run (c :: l) := by rw [← List.take_succ_cons, run_of_take, List.take_of_length_le (by omega)]
      rw [hk2, ← e]
      rw [← e] at h32
      exact one_word hl h32
    · have e : run (c :: l.take j') = run (c :: l) := by rw [← List.take_succ_cons, run_of_take, List.take_of_length_le (by omega)]
      rw [hk2, ← e]
      rw [← e] at hw
      exact one_num hd hw
    · subst hk2
      refine one_text hq ?_ hs
      have := unq_stable _ _ _ hu ((l.drop i).take (j' - i))
      rw [← this]
      have : l.take j' = l.take i ++ (l.drop i).take (j' - i) := by
        rw [← List.take_add]; congr 1; omega
      rw [this]
    · have e : mark (c :: l.take j') = mark (c :: l) := by
        cases l with
        | nil => simp
        | cons d l =>
          cases j' with
          | zero =>
            have hm1 : (mark (c :: d :: l)).length = 1 := by
              have := List.length_pos_iff.2 hm; omega
            by_cases h2 : [c, d] ∈ marks2
            · rw [mark, if_pos h2] at hm1; simp at hm1
            · rw [List.take_zero, mark, mark, if_neg h2]
          | succ j => rw [List.take_succ_cons, mark, mark]
      rw [hk2, ← e]
      rw [← e] at hm
      exact one_mark hl hd hq hm
theorem value_snoc (l : List UInt8) (c : UInt8) : value (l ++ [c]) = 10 * value l + (c.toNat - 48) := by unfold value; simp
theorem value_take_le : ∀ (l : List UInt8) (n : Nat), n ≤ l.foldl (fun n c => 10 * n + (c.toNat - 48)) n
  | [], n => Nat.le_refl _
  | c :: l, n => by
    rw [List.foldl_cons]
    exact Nat.le_trans (by omega) (value_take_le l _)
theorem value_pre (l : List UInt8) (j : Nat) : value (l.take j) ≤ value l := by
  have : l = l.take j ++ l.drop j := (List.take_append_drop j l).symm
  unfold value
  conv => rhs; rw [this, List.foldl_append]
  exact value_take_le _ _
theorem worth_some {l : List UInt8} {n : Nat} (h : worth l = some n) : ¬ (l.head? = some 48 ∧ 1 < l.length) ∧ l.all digit = true ∧ value l ≤ 9223372036854775807 ∧ n = value l := by
  unfold worth at h
  split at h
  · cases h
  rename_i h0
  split at h
  · rename_i h1
    split at h
    · injection h with h
      exact ⟨h0, h1, by assumption, h.symm⟩
    · cases h
  · cases h
theorem worth_mk {l : List UInt8} (h0 : ¬ (l.head? = some 48 ∧ 1 < l.length)) (h1 : l.all digit = true) (h2 : value l ≤ 9223372036854775807) : worth l = some (value l) := by
  unfold worth; rw [if_neg h0, if_pos h1, if_pos h2]
/-- A token that is cut. -/
theorem one_cut {l : List UInt8} {t : Tk} {k : Nat} (h : one l = .ok (t, k)) {j : Nat} (h0 : 0 < j) (hj : j < k) : (∃ t', one (l.take j) = .ok (t', j)) ∨ one (l.take j) = .error 14 := by
  cases l with
  | nil => simp [one] at h
  | cons c l =>
    have hkb := (one_bounds h).2
    obtain ⟨j', rfl⟩ : ∃ j', j = j' + 1 := ⟨j - 1, by omega⟩
    rw [List.take_succ_cons]
    rcases one_cases h with ⟨hl, h32, rfl, hk2⟩ | ⟨hl, hd, n, hw, rfl, hk2⟩ | ⟨hl, hd, hq, s, i, hu, hs, rfl, hk2⟩ | ⟨hl, hd, hq, hm, rfl, hk2⟩
    · have e : run (c :: l.take j') = (run (c :: l)).take (j' + 1) := by rw [← List.take_succ_cons, run_of_take]
      have e2 : (run (c :: l.take j')).length = j' + 1 := by rw [e, List.length_take]; omega
      have := one_word (l := l.take j') hl (by omega)
      rw [e2] at this
      exact .inl ⟨_, this⟩
    · have e : run (c :: l.take j') = (run (c :: l)).take (j' + 1) := by rw [← List.take_succ_cons, run_of_take]
      have e2 : (run (c :: l.take j')).length = j' + 1 := by rw [e, List.length_take]; omega
      obtain ⟨w1, w2, w3, _⟩ := worth_some hw
      have hw' : worth (run (c :: l.take j')) = some (value (run (c :: l.take j'))) := by
        refine worth_mk ?_ ?_ ?_
        · rintro ⟨a, b⟩
          refine w1 ⟨?_, by omega⟩
          rw [e, List.head?_take] at a
          simpa using a
        · rw [e]
          rw [List.all_eq_true] at w2 ⊢
          exact fun x hx => w2 x (List.mem_of_mem_take hx)
        · rw [e]
          exact Nat.le_trans (value_pre _ _) w3
      have := one_num hd hw'
      rw [e2] at this
      exact .inl ⟨_, this⟩
    · subst hk2
      exact .inr (one_text_no hq (unq_cut _ _ _ hu j' (by omega)))
    · have hlen := (mark_len (c :: l)).2
      have hj0 : j' = 0 := by omega
      subst hj0
      have hc := mark_head hm
      have e : mark [c] = [c] := by rw [mark, if_pos hc]
      have := one_mark (l := []) hl hd hq (by rw [e]; simp)
      rw [e] at this
      exact .inl ⟨_, this⟩
end Culp.Tx

/- Sources cut, spread, written anew: the tokens of what comes of it; no program in sight. -/
namespace Culp.Tx

theorem behind_take : ∀ (b : Bool) (l : List UInt8) (n : Nat), behind b (l.take n) = min (behind b l) n
  | b, [], n => by cases b <;> simp [behind]
  | b, c :: l, 0 => by cases b <;> simp [behind]
  | true, c :: l, n + 1 => by
    rw [List.take_succ_cons, behind, behind, behind_take]; omega
  | false, c :: l, n + 1 => by
    rw [List.take_succ_cons, behind, behind, behind_take, behind_take]
    split
    · omega
    · split <;> omega
/-- Blanks and whole remarks. -/
def Clean (z : List UInt8) : Prop := ∀ l, behind false (z ++ l) = z.length + behind false l
theorem Clean.nil : Clean [] := fun l => by simp
theorem Clean.app {a b : List UInt8} (ha : Clean a) (hb : Clean b) : Clean (a ++ b) := fun l => by rw [List.append_assoc, ha, hb]; simp; omega
theorem Clean.blank {c : UInt8} (h : blank c = true) : Clean [c] := fun l => by
  have : ¬ c.toNat = 35 := by unfold Tx.blank at h; simp only [decide_eq_true_eq] at h; omega
  rw [List.singleton_append, behind, if_neg this, if_pos h]; simp
theorem Clean.rep {c : UInt8} (h : Tx.blank c = true) : ∀ n, Clean (List.replicate n c)
  | 0 => Clean.nil
  | n + 1 => by rw [List.replicate_succ]; exact (Clean.blank h).app (Clean.rep h n)
theorem Clean.remark : Clean [35, 108, 101, 116, 32, 34, 10] := fun l => by simp [behind]; omega
theorem behind_zero {l : List UInt8} (h : behind false l < l.length) : behind false (l.drop (behind false l)) = 0 := by
  suffices H : ∀ (b : Bool) (l : List UInt8), behind b l < l.length → behind false (l.drop (behind b l)) = 0 from H false l h
  intro b l
  induction l generalizing b with
  | nil => intro h; cases b <;> simp [behind] at h
  | cons c l ih =>
    intro h
    cases b with
    | true =>
      rw [behind] at h ⊢
      rw [show 1 + behind (decide (c.toNat ≠ 10)) l = behind (decide (c.toNat ≠ 10)) l + 1 by omega, List.drop_succ_cons]
      exact ih _ (by simp at h ⊢; omega)
    | false =>
      rw [behind] at h ⊢
      split at h
      · rename_i h35
        rw [if_pos h35]
        rw [show 1 + behind true l = behind true l + 1 by omega, List.drop_succ_cons]
        exact ih _ (by simp at h ⊢; omega)
      · rename_i h35
        rw [if_neg h35]
        split at h
        · rename_i hb
          rw [if_pos hb]
          rw [show 1 + behind false l = behind false l + 1 by omega, List.drop_succ_cons]
          exact ih _ (by simp at h ⊢; omega)
        · rename_i hb
          rw [if_neg hb, List.drop_zero, behind, if_neg h35, if_neg hb]

theorem toksAt_none {p : Nat × Nat} {l : List UInt8} (h : behind false l = l.length) : toksAt p l = .ok [] := by rw [toksAt_eq, if_pos h]
theorem toksAt_bad {p : Nat × Nat} {l : List UInt8} {e : Nat} (h : behind false l ≠ l.length) (h1 : one (l.drop (behind false l)) = .error e) : toksAt p l = .error (e, further p (l.take (behind false l))) := by
  rw [toksAt_eq, if_neg h, h1]
theorem toksAt_step {p : Nat × Nat} {l : List UInt8} {t : Tk} {n : Nat} {r : List (Tk × (Nat × Nat))} (h : behind false l ≠ l.length) (h1 : one (l.drop (behind false l)) = .ok (t, n))
    (h2 : toksAt (further p (l.take (behind false l + n))) (l.drop (behind false l + n)) = .ok r) : toksAt p l = .ok ((t, further p (l.take (behind false l))) :: r) := by
  rw [toksAt_eq, if_neg h, h1]; simp only [h2]
theorem toksAt_step_bad {p : Nat × Nat} {l : List UInt8} {t : Tk} {n : Nat} {e : Nat × (Nat × Nat)} (h : behind false l ≠ l.length) (h1 : one (l.drop (behind false l)) = .ok (t, n))
    (h2 : toksAt (further p (l.take (behind false l + n))) (l.drop (behind false l + n)) = .error e) : toksAt p l = .error e := by
  rw [toksAt_eq, if_neg h, h1]; simp only [h2]
theorem toksAt_inv {p : Nat × Nat} {l : List UInt8} {L : List (Tk × (Nat × Nat))} (h : toksAt p l = .ok L) :
    (behind false l = l.length ∧ L = []) ∨ (behind false l < l.length ∧ ∃ t n r, one (l.drop (behind false l)) = .ok (t, n) ∧ toksAt (further p (l.take (behind false l + n))) (l.drop (behind false l + n)) = .ok r ∧ L = (t, further p (l.take (behind false l))) :: r) := by
  rw [toksAt_eq] at h
  split at h
  · injection h with h; exact .inl ⟨by assumption, h.symm⟩
  rename_i hne
  have := behind_le false l
  split at h
  · cases h
  · rename_i t n h1
    split at h
    · cases h
    · rename_i r h2
      injection h with h
      exact .inr ⟨by omega, t, n, r, h1, h2, h.symm⟩

/-- A source that is cut: its tokens are the first ones, and perhaps one more; or its fault stands at one of them. -/
theorem toks_cut : ∀ (f : Nat) (l : List UInt8) (p : Nat × Nat) (L : List (Tk × (Nat × Nat))) (n : Nat), l.length ≤ f → toksAt p l = .ok L → n ≤ l.length →
    (∃ A B x, toksAt p (l.take n) = .ok (A ++ x) ∧ L = A ++ B ∧ x.length ≤ 1) ∨ (∃ q, toksAt p (l.take n) = .error (14, q) ∧ ∃ t, (t, q) ∈ L)
  | f, l, p, L, n, hf, h, hn => by
    rcases toksAt_inv h with ⟨h1, rfl⟩ | ⟨h1, t, m, r, h2, h3, rfl⟩
    · exact .inl ⟨[], [], [], toksAt_none (by rw [behind_take, List.length_take, h1, Nat.min_comm]), rfl, by simp⟩
    have hb := one_bounds h2
    rw [List.length_drop] at hb
    by_cases c1 : n ≤ behind false l
    · exact .inl ⟨[], _, [], toksAt_none (by rw [behind_take, List.length_take]; omega), rfl, by simp⟩
    have e1 : behind false (l.take n) = behind false l := by rw [behind_take]; omega
    have e2 : behind false (l.take n) ≠ (l.take n).length := by rw [e1, List.length_take]; omega
    have e3 : (l.take n).drop (behind false (l.take n)) = (l.drop (behind false l)).take (n - behind false l) := by rw [e1, List.drop_take]
    have e4 : (l.take n).take (behind false (l.take n)) = l.take (behind false l) := by rw [e1, List.take_take]; congr 1; omega
    by_cases c2 : behind false l + m ≤ n
    · have e5 : one ((l.take n).drop (behind false (l.take n))) = .ok (t, m) := by rw [e3]; exact one_take h2 (by omega)
      have e6 : (l.take n).drop (behind false (l.take n) + m) = (l.drop (behind false l + m)).take (n - (behind false l + m)) := by rw [e1, List.drop_take]
      have e7 : (l.take n).take (behind false (l.take n) + m) = l.take (behind false l + m) := by rw [e1, List.take_take]; congr 1; omega
      cases f with
      | zero => omega
      | succ f =>
      rcases toks_cut f (l.drop (behind false l + m)) _ r (n - (behind false l + m)) (by rw [List.length_drop]; omega) h3 (by rw [List.length_drop]; omega) with ⟨A, B, x, i1, i2, i3⟩ | ⟨q, i1, t', i2⟩
      · left
        refine ⟨(t, further p (l.take (behind false l))) :: A, B, x, ?_, by rw [i2]; rfl, i3⟩
        have := toksAt_step (p := p) e2 e5 (r := A ++ x) (by rw [e6, e7]; exact i1)
        rw [this, e4]; rfl
      · right
        exact ⟨q, toksAt_step_bad e2 e5 (by rw [e6, e7]; exact i1), t', List.mem_cons_of_mem _ i2⟩
    · rcases one_cut h2 (j := n - behind false l) (by omega) (by omega) with ⟨t', ht⟩ | he
      · left
        refine ⟨[], _, [(t', further p (l.take (behind false l)))], ?_, rfl, by simp⟩
        have := toksAt_step (p := p) (l := l.take n) (t := t') (n := n - behind false l) (r := []) e2 (by rw [e3]; exact ht) (by
          refine toksAt_none ?_
          rw [e1, List.drop_of_length_le (by rw [List.length_take]; omega)]; rfl)
        rw [this, e4]; rfl
      · right
        refine ⟨_, toksAt_bad e2 (by rw [e3]; exact he), t, ?_⟩
        rw [e4]; exact List.mem_cons_self

/-- Pieces with blanks and remarks ahead of each. -/
def spread : List (List UInt8 × List UInt8) → List UInt8
  | [] => []
  | (z, r) :: l => z ++ (r ++ spread l)
/-- Two lists, place by place. -/
inductive All2 {α β : Type} (R : α → β → Prop) : List α → List β → Prop
  | nil : All2 R [] []
  | cons {a : α} {b : β} {l : List α} {m : List β} : R a b → All2 R l m → All2 R (a :: l) (b :: m)
theorem All2.snoc {α β : Type} {R : α → β → Prop} {a : α} {b : β} {l : List α} {m : List β} (h : All2 R l m) (hr : R a b) : All2 R (l ++ [a]) (m ++ [b]) := by
  induction h with
  | nil => exact .cons hr .nil
  | cons h _ ih => exact .cons h ih
/-- What a piece must be: blanks first, then what is read as this token. -/
def Piece (x : List UInt8 × List UInt8) (t : Tk) : Prop := Clean x.1 ∧ (∃ c y, x.1 = c :: y ∧ (blank c = true ∨ c.toNat = 35)) ∧ ∃ l, one l = .ok (t, x.2.length) ∧ l.take x.2.length = x.2
theorem spread_stop : ∀ (l : List (List UInt8 × List UInt8)) (T : List Tk), All2 Piece l T → Stop (spread l)
  | [], _, _ => .inl rfl
  | (z, r) :: l, _ :: _, h => by
    cases h with
    | cons h _ =>
      obtain ⟨_, ⟨c, y, h1, h2⟩, _⟩ := h
      simp at h1
      right
      refine ⟨c, y ++ (r ++ spread l), ?_, h2⟩
      rw [spread, h1]; rfl
theorem snoc_ind {α : Type} {P : List α → Prop} (h0 : P []) (h1 : ∀ l c, P l → P (l ++ [c])) : ∀ l, P l := fun l => by
  rw [← List.reverse_reverse l]
  induction l.reverse with
  | nil => exact h0
  | cons c m ih => rw [List.reverse_cons]; exact h1 _ _ ih
/-- Their tokens. -/
theorem spread_toks : ∀ (l : List (List UInt8 × List UInt8)) (T : List Tk) (p : Nat × Nat), All2 Piece l T → ∃ L, toksAt p (spread l) = .ok L ∧ L.map Prod.fst = T
  | [], [], p, _ => ⟨[], toksAt_none rfl, rfl⟩
  | (z, r) :: l, t :: T, p, h => by
    cases h with
    | cons h hr =>
      obtain ⟨h1, _, l0, h2, h3⟩ := h
      simp only at h1 h2 h3
      have st := spread_stop l T hr
      have ho : one (r ++ spread l) = .ok (t, r.length) := by
        have := one_stable h2 st
        rw [h3] at this; exact this
      have hb := one_bounds ho
      have hz : behind false (r ++ spread l) = 0 := by
        cases hx : r ++ spread l with
        | nil => rw [hx] at ho; simp [one] at ho
        | cons c y =>
          rw [hx] at ho
          rw [behind]
          have : ¬ c.toNat = 35 ∧ ¬ blank c = true := by
            rcases one_cases ho with ⟨hl, _⟩ | ⟨_, hd, _⟩ | ⟨_, _, hq, _⟩ | ⟨_, _, _, hm, _⟩
            · unfold letter at hl; simp only [decide_eq_true_eq] at hl; unfold blank; simp only [decide_eq_true_eq]; omega
            · unfold digit at hd; simp only [decide_eq_true_eq] at hd; unfold blank; simp only [decide_eq_true_eq]; omega
            · unfold blank; simp only [decide_eq_true_eq]; omega
            · have := mark_head hm
              unfold blank; simp only [decide_eq_true_eq]
              simp only [marks1, List.mem_cons, List.not_mem_nil, or_false] at this
              rcases this with rfl | rfl | rfl | rfl | rfl | rfl | rfl | rfl | rfl | rfl | rfl | rfl | rfl | rfl | rfl | rfl | rfl <;> decide
          rw [if_neg this.1, if_neg this.2]
      have hbe : behind false (spread ((z, r) :: l)) = z.length := by rw [spread, h1, hz]; rfl
      obtain ⟨L, i1, i2⟩ := spread_toks l T (further p ((spread ((z, r) :: l)).take (z.length + r.length))) hr
      refine ⟨_, toksAt_step (t := t) (n := r.length) (r := L) ?_ ?_ ?_, ?_⟩
      · rw [hbe, spread]; simp; intro h0; rw [h0] at hb; simp at hb
      · rw [hbe, spread, List.drop_left]; exact ho
      · rw [hbe]
        have : (spread ((z, r) :: l)).drop (z.length + r.length) = spread l := by
          rw [spread, ← List.append_assoc, List.drop_left' (by simp)]
        rw [this]; exact i1
      · rw [List.map_cons, i2]

/-- A number in tens. -/
def tens : Nat → Nat → List UInt8
  | 0, _ => []
  | f + 1, n => if n = 0 then [] else tens f (n / 10) ++ [UInt8.ofNat (48 + n % 10)]
def decimal (n : Nat) : List UInt8 := if n = 0 then [48] else tens 20 n
theorem tens_more : ∀ (f g n : Nat), n < 10 ^ f → n < 10 ^ g → tens f n = tens g n
  | 0, 0, _, _, _ => rfl
  | 0, g + 1, n, h, _ => by
    have : n = 0 := by simp at h; omega
    subst this; simp [tens]
  | f + 1, 0, n, _, h => by
    have : n = 0 := by simp at h; omega
    subst this; simp [tens]
  | f + 1, g + 1, n, hf, hg => by
    rw [tens, tens]
    split
    · rfl
    · rw [tens_more f g (n / 10) (by rw [Nat.pow_succ] at hf; omega) (by rw [Nat.pow_succ] at hg; omega)]
theorem tens_value : ∀ (f : Nat) (l : List UInt8), l.all digit = true → l.length ≤ f → (∀ c, l.head? = some c → c.toNat ≠ 48) → tens f (value l) = l := by
  intro f
  induction f with
  | zero => intro l _ h _; have : l = [] := List.eq_nil_of_length_eq_zero (by omega); subst this; rfl
  | succ f ih =>
    intro l hd hl hh
    rcases List.eq_nil_or_concat l with rfl | ⟨m, c, rfl⟩
    · simp [tens, value]
    · rw [List.concat_eq_append] at *
      rw [List.all_append, Bool.and_eq_true] at hd
      obtain ⟨hd1, hd2⟩ := hd
      simp only [List.all_cons, List.all_nil, Bool.and_true] at hd2
      unfold digit at hd2
      simp only [decide_eq_true_eq] at hd2
      rw [value_snoc]
      have hm : tens f (value m) = m := by
        refine ih m hd1 (by simp at hl; omega) fun x hx => hh x ?_
        cases m with
        | nil => simp at hx
        | cons y m => simpa using hx
      have hnz : ¬ (10 * value m + (c.toNat - 48) = 0) := by
        intro h0
        have hv : value m = 0 := by omega
        have hc : c.toNat = 48 := by omega
        rw [hv] at hm
        have hm0 : m = [] := by
          cases f with
          | zero => simpa [tens] using hm.symm
          | succ f => simpa [tens] using hm.symm
        subst hm0
        exact hh c rfl hc
      rw [tens, if_neg hnz]
      have e1 : (10 * value m + (c.toNat - 48)) / 10 = value m := by omega
      have e2 : 48 + (10 * value m + (c.toNat - 48)) % 10 = c.toNat := by omega
      rw [e1, e2, hm, UInt8.ofNat_toNat]
theorem value_zero : ∀ (l : List UInt8), l.all digit = true → value l = 0 → ∀ c ∈ l, c.toNat = 48 := by
  refine snoc_ind ?_ ?_
  · intro _ _ c hc; cases hc
  · intro l c ih hd hv x hx
    rw [List.all_append, Bool.and_eq_true] at hd
    obtain ⟨hd1, hd2⟩ := hd
    simp only [List.all_cons, List.all_nil, Bool.and_true] at hd2
    unfold digit at hd2
    simp only [decide_eq_true_eq] at hd2
    rw [value_snoc] at hv
    rcases List.mem_append.1 hx with h | h
    · exact ih hd1 (by omega) x h
    · simp at h; subst h; omega
theorem value_ge : ∀ (l : List UInt8), l.all digit = true → (∀ c, l.head? = some c → c.toNat ≠ 48) → l ≠ [] → 10 ^ (l.length - 1) ≤ value l := by
  refine snoc_ind ?_ ?_
  · intro _ _ h; exact absurd rfl h
  · intro l c ih hd hh _
    rw [List.all_append, Bool.and_eq_true] at hd
    obtain ⟨hd1, hd2⟩ := hd
    simp only [List.all_cons, List.all_nil, Bool.and_true] at hd2
    unfold digit at hd2
    simp only [decide_eq_true_eq] at hd2
    rw [value_snoc]
    cases l with
    | nil =>
      have := hh c rfl
      simp; omega
    | cons y m =>
      have := ih hd1 (fun x hx => hh x (by simpa using hx)) (by simp)
      simp only [List.length_append, List.length_cons, List.length_nil] at this ⊢
      have e : m.length + 1 + (0 + 1) - 1 = (m.length + 1 - 1) + 1 := by omega
      rw [e, Nat.pow_succ]; omega
/-- How a token is written. -/
def said (t : Tk) : List UInt8 := if t.kind = 4 then (quote t.s).getD [] else if t.kind = 3 then decimal t.n else t.s
theorem worth_decimal {l : List UInt8} {n : Nat} (h : worth l = some n) (hl : l ≠ []) : decimal n = l := by
  obtain ⟨h0, h1, h2, rfl⟩ := worth_some h
  unfold decimal
  by_cases hz : l.head? = some 48
  · have hl1 : l.length = 1 := by
      have := List.length_pos_iff.2 hl
      have : ¬ 1 < l.length := fun h => h0 ⟨hz, h⟩
      omega
    match l, hl1 with
    | [c], _ => simp at hz; subst hz; rfl
  · have hh : ∀ c, l.head? = some c → c.toNat ≠ 48 := fun c hc h48 => hz (by rw [hc]; congr 1; exact UInt8.toNat_inj.1 h48)
    have hge := value_ge l h1 hh hl
    have hv : value l ≠ 0 := by
      have : 0 < 10 ^ (l.length - 1) := Nat.pow_pos (by omega)
      omega
    rw [if_neg hv]
    refine tens_value 20 l h1 ?_ hh
    by_cases h20 : l.length ≤ 20
    · exact h20
    · have : 10 ^ 20 ≤ 10 ^ (l.length - 1) := Nat.pow_le_pow_right (by omega) (by omega)
      omega
theorem said_raw {l : List UInt8} {t : Tk} {k : Nat} (h : one l = .ok (t, k)) : said t = l.take k := by
  cases l with
  | nil => simp [one] at h
  | cons c l =>
    rcases one_cases h with ⟨hl, h32, rfl, rfl⟩ | ⟨hl, hd, n, hw, rfl, rfl⟩ | ⟨hl, hd, hq, s, j, hu, hs, rfl, rfl⟩ | ⟨hl, hd, hq, hm, rfl, rfl⟩
    · rw [run_take]; unfold said
      have hk : ∀ b : Bool, ¬ (if b = true then 1 else 2) = 4 ∧ ¬ (if b = true then 1 else 2) = 3 := by decide
      simp only
      rw [if_neg (hk _).1, if_neg (hk _).2]
    · rw [run_take]; unfold said
      simp only
      rw [if_neg (by omega), if_pos trivial]
      refine worth_decimal hw ?_
      unfold run; rw [List.takeWhile_cons, if_pos (digit_inner hd)]; simp
    · unfold said
      obtain ⟨u1, u2⟩ := unq_escs _ _ _ hu
      have hc : c = 34 := UInt8.toNat_inj.1 hq
      simp only [if_true]
      unfold quote
      rw [if_neg (by omega), u1, List.take_succ_cons, u2, hc]
      rfl
    · rw [mark_take]; unfold said
      simp
end Culp.Tx

/- Words, names, quotes, limits: their tokens; no program in sight. -/
namespace Culp.Tx

theorem words_short : ∀ s ∈ words, 2 ≤ s.length ∧ s.length ≤ 6 ∧ s.all inner = true ∧ (s.head?.map letter).getD false = true := by decide
theorem isWord_mem {s : List UInt8} (h : isWord s = true) : s ∈ words := by unfold isWord at h; simpa using h
theorem behind_letter {c : UInt8} {l : List UInt8} (h : letter c = true) : behind false (c :: l) = 0 := by
  unfold letter at h; simp only [decide_eq_true_eq] at h
  rw [behind, if_neg (by omega), if_neg]
  unfold blank; simp only [decide_eq_true_eq]; omega
theorem letter_toks {c : UInt8} {l : List UInt8} (h : letter c = true) (ha : (c :: l).all inner = true) (hl : (c :: l).length ≤ 32) :
    toks (c :: l) = .ok [(⟨if isWord (c :: l) = true then 1 else 2, 0, c :: l⟩, (1, 1))] := by
  unfold toks
  rw [if_neg (by omega)]
  have hr := run_all ha
  have h1 := one_word (l := l) h (by rw [hr]; exact hl)
  rw [hr] at h1
  have := toksAt_step (p := (1, 1)) (l := c :: l) (r := []) (by rw [behind_letter h]; simp) (by rw [behind_letter h]; exact h1) (by
    refine toksAt_none ?_
    rw [behind_letter h, List.drop_of_length_le (by simp)]; rfl)
  rw [this, behind_letter h]; rfl
theorem name_toks {s : List UInt8} (h : isName s = true) : toks s = .ok [(⟨2, 0, s⟩, (1, 1))] := by
  unfold isName at h
  simp only [Bool.and_eq_true, decide_eq_true_eq, Bool.not_eq_true'] at h
  obtain ⟨⟨⟨⟨h1, h2⟩, h3⟩, h4⟩, h5⟩ := h
  cases s with
  | nil => exact absurd rfl h1
  | cons c l =>
    have := letter_toks (by simpa using h3) h5 h2
    rw [h4] at this; simpa using this
theorem word_toks {s : List UInt8} (h : isWord s = true) : toks s = .ok [(⟨1, 0, s⟩, (1, 1))] := by
  obtain ⟨_, h2, h5, h3⟩ := words_short s (isWord_mem h)
  cases s with
  | nil => simp at h3
  | cons c l =>
    have := letter_toks (by simpa using h3) h5 (by omega)
    rw [h] at this; simpa using this
theorem toks_small {s : List UInt8} {L : List (Tk × (Nat × Nat))} (h : toks s = .ok L) : s.length ≤ 65536 ∧ toksAt (1, 1) s = .ok L := by
  unfold toks at h
  split at h
  · cases h
  · exact ⟨by omega, h⟩
theorem toks_alone {s : List UInt8} {t : Tk} {q : Nat × Nat} (h : toks s = .ok [(t, q)]) (hs : t.s = s) : (t.kind = 2 → isName s = true) ∧ (t.kind = 1 → isWord s = true) := by
  have hk : ∀ b : Bool, ¬ (if b = true then 1 else 2) = 4 := by decide
  rcases toksAt_inv (toks_small h).2 with ⟨_, h1⟩ | ⟨h0, t', n, r, h2, _, h1⟩
  · cases h1
  · injection h1 with h1; injection h1 with h1; subst h1
    cases hd : s.drop (behind false s) with
    | nil => rw [hd] at h2; simp [one] at h2
    | cons c l =>
      rw [hd] at h2
      rcases one_cases h2 with ⟨hl, h32, rfl, _⟩ | ⟨_, _, n, _, rfl, _⟩ | ⟨_, _, _, a, j, _, _, rfl, _⟩ | ⟨_, _, _, _, rfl, _⟩
      · simp only at hs ⊢
        have e : s = c :: l := by
          have h3 := run_len (c :: l)
          rw [hs, ← hd, List.length_drop] at h3
          have : behind false s = 0 := by omega
          rw [this] at hd; exact hd
        rw [hs] at h32 ⊢
        have hi := run_inner (c :: l)
        rw [hs] at hi
        cases hw : isWord s with
        | true => simp
        | false =>
          simp only [if_neg Bool.false_ne_true, forall_const]
          refine ⟨?_, by omega⟩
          unfold isName
          rw [hw, hi]
          simp only [Bool.and_eq_true, decide_eq_true_eq]
          refine ⟨⟨⟨⟨?_, h32⟩, ?_⟩, rfl⟩, trivial⟩
          · rw [e]; simp
          · rw [e]; simpa using hl
      all_goals simp
/-- A text that is quoted. -/
theorem escs_unq : ∀ (s m : List UInt8), escs s = some m → m.length ≤ 2 * s.length ∧ ∀ z, unq (m ++ 34 :: z) = some (s, m.length + 1)
  | [], m, h => by
    simp [escs] at h; subst h
    refine ⟨by simp, fun z => ?_⟩
    cases z <;> simp [unq]
  | c :: s, m, h => by
    unfold escs at h
    split at h
    · rename_i a b h1 h2
      injection h with h; subst h
      obtain ⟨i1, i2⟩ := escs_unq s b h2
      unfold esc at h1
      split at h1
      · rename_i hc
        injection h1 with h1; subst h1
        have ec : c = 10 := UInt8.toNat_inj.1 hc
        subst ec
        refine ⟨by simp; omega, fun z => ?_⟩
        have := i2 z
        simp only [List.cons_append, List.nil_append, List.length_cons]
        rw [unq, this]; rfl
      rename_i h10
      split at h1
      · cases h1
      rename_i hr
      split at h1
      · rename_i hq
        injection h1 with h1; subst h1
        refine ⟨by simp; omega, fun z => ?_⟩
        have := i2 z
        simp only [List.cons_append, List.nil_append, List.length_cons]
        rw [unq, if_neg (by decide), if_pos (by decide), if_pos hq, this]; rfl
      · rename_i hq
        injection h1 with h1; subst h1
        refine ⟨by simp; omega, fun z => ?_⟩
        have := i2 z
        simp only [List.cons_append, List.nil_append, List.length_cons]
        cases hb : b ++ 34 :: z with
        | nil => simp at hb
        | cons d y =>
          rw [hb] at this
          rw [unq, if_neg (by omega), if_neg (by omega), if_neg hr, this]; rfl
    · cases h
theorem quote_some {s q : List UInt8} (h : quote s = some q) : ∃ m, escs s = some m ∧ q = 34 :: m ++ [34] ∧ s.length ≤ 64 ∧ q.length ≤ 130 := by
  unfold quote at h
  split at h
  · cases h
  · simp only [Option.map_eq_some_iff] at h
    obtain ⟨m, h1, rfl⟩ := h
    have := (escs_unq s m h1).1
    exact ⟨m, h1, rfl, by omega, by simp; omega⟩
theorem quote_toks {s q : List UInt8} (h : quote s = some q) : toks q = .ok [(⟨4, 0, s⟩, (1, 1))] := by
  obtain ⟨m, h1, rfl, h2, h3⟩ := quote_some h
  have hu := (escs_unq s m h1).2 []
  unfold toks
  rw [if_neg (by omega)]
  have hb : behind false (34 :: m ++ [34]) = 0 := by
    rw [List.cons_append, behind, if_neg (by decide), if_neg (by decide)]
  have ho : one (34 :: m ++ [34]) = .ok (⟨4, 0, s⟩, m.length + 1 + 1) := one_text rfl hu h2
  have := toksAt_step (p := (1, 1)) (l := 34 :: m ++ [34]) (r := []) (by rw [hb]; simp) (by rw [hb]; exact ho) (by
    refine toksAt_none ?_
    rw [hb, List.drop_of_length_le (by simp)]; rfl)
  rw [this, hb]; rfl
theorem blanks_toks : ∀ n, n ≤ 65536 → toks (List.replicate n 32) = .ok [] := fun n h => by
  unfold toks
  rw [if_neg (by simp; omega)]
  refine toksAt_none ?_
  have := Clean.rep (c := 32) (by decide) n []
  simpa [behind] using this
theorem long_toks {l : List UInt8} (h : 65536 < l.length) : toks l = .error (10, (0, 0)) := by unfold toks; rw [if_pos h]
/-- The limits. -/
theorem lim1 : toks (List.replicate 32 97) = .ok [(⟨2, 0, List.replicate 32 97⟩, (1, 1))] := name_toks (by decide)
theorem lim2 : toks (List.replicate 33 97) = .error (12, (1, 1)) := by rfl
theorem lim3 : toks [57,50,50,51,51,55,50,48,51,54,56,53,52,55,55,53,56,48,55] = .ok [(⟨3, 9223372036854775807, []⟩, (1, 1))] := by rfl
theorem lim4 : toks [57,50,50,51,51,55,50,48,51,54,56,53,52,55,55,53,56,48,56] = .error (13, (1, 1)) := by rfl
theorem lim5 : toks [57,50,50,51,51,55,50,48,51,54,56,53,52,55,55,53,56,48,55,48] = .error (13, (1, 1)) := by rfl
def newlines (n : Nat) : List UInt8 := (List.replicate n [92, 110]).flatten
set_option maxRecDepth 100000 in
theorem lim6 : toks (34 :: newlines 64 ++ [34]) = .ok [(⟨4, 0, List.replicate 64 10⟩, (1, 1))] := by rfl
set_option maxRecDepth 100000 in
theorem lim7 : toks (34 :: newlines 64 ++ [120, 34]) = .error (14, (1, 1)) := by rfl
/-- How many first ones are the same. -/
def same {α : Type} [DecidableEq α] : List α → List α → Nat
  | a :: l, b :: m => if a = b then 1 + same l m else 0
  | _, _ => 0
theorem same_app {α : Type} [DecidableEq α] : ∀ (A x B : List α), A.length ≤ same (A ++ x) (A ++ B)
  | [], _, _ => by simp
  | a :: A, x, B => by
    have := same_app A x B
    simp only [List.cons_append, same, if_true, List.length_cons]; omega
theorem same_stop {α : Type} [DecidableEq α] : ∀ (k : Nat) (l m : List α), (∀ i, i < k → l[i]? = m[i]?) → k ≤ l.length → (k < l.length → k < m.length → l[k]? ≠ m[k]?) → k ≤ m.length → same l m = k
  | 0, l, m, _, _, h, _ => by
    cases l with
    | nil => simp [same]
    | cons a l =>
      cases m with
      | nil => simp [same]
      | cons b m =>
        have := h (by simp) (by simp)
        simp at this
        simp [same, this]
  | k + 1, l, m, h0, h1, h, h2 => by
    cases l with
    | nil => simp at h1
    | cons a l =>
      cases m with
      | nil => simp at h2
      | cons b m =>
        have := h0 0 (by omega)
        simp at this
        subst this
        have := same_stop k l m (fun i hi => by have := h0 (i + 1) (by omega); simpa using this) (by simpa using h1) (fun a b => by have := h (by simp; omega) (by simp; omega); simpa using this) (by simpa using h2)
        simp only [same, if_true]; omega
end Culp.Tx

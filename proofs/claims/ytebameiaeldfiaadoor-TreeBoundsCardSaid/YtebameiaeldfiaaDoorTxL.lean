
/- What follows for sources and their tokens: cut, written anew, quoted; no program in sight. -/
import Derived.Test.YtebameiaeldfiaaDoorTx
namespace Culp.Tx
set_option linter.unusedSimpArgs false
set_option linter.unusedVariables false

theorem letter_inner {c : UInt8} (h : letter c = true) : inner c = true := by unfold inner; rw [h]; rfl
theorem digit_inner {c : UInt8} (h : digit c = true) : inner c = true := by unfold inner; rw [h]; simp
theorem not_both {c : UInt8} (h : letter c = true) : digit c = false := by
  unfold letter at h; unfold digit
  simp only [decide_eq_true_eq] at h
  simp only [decide_eq_false_iff_not]; omega

/-- A list of bytes with which a next piece may begin behind a token. -/
def Stop (z : List UInt8) : Prop := z = [] ∨ ∃ c r, z = c :: r ∧ (blank c = true ∨ c.toNat = 35)
theorem stop_inner {c : UInt8} (h : blank c = true ∨ c.toNat = 35) : inner c = false := by
  unfold inner letter digit
  unfold blank at h
  simp only [decide_eq_true_eq] at h
  simp only [Bool.or_eq_false_iff, decide_eq_false_iff_not]
  omega
theorem run_all : ∀ {r : List UInt8}, r.all inner = true → run r = r
  | [], _ => rfl
  | c :: r, h => by
    simp only [List.all_cons, Bool.and_eq_true] at h
    have := run_all (r := r) h.2
    unfold run at this ⊢
    rw [List.takeWhile_cons, if_pos h.1, this]
theorem run_app : ∀ {r z : List UInt8}, r.all inner = true → (z = [] ∨ ∃ c y, z = c :: y ∧ inner c = false) → run (r ++ z) = r
  | [], z, _, hz => by
    rcases hz with rfl | ⟨c, y, rfl, hc⟩
    · rfl
    · unfold run; simp [List.takeWhile_cons, hc]
  | c :: r, z, h, hz => by
    simp only [List.all_cons, Bool.and_eq_true] at h
    have := run_app (r := r) (z := z) h.2 hz
    unfold run at this ⊢
    rw [List.cons_append, List.takeWhile_cons, if_pos h.1, this]
theorem run_inner : ∀ l : List UInt8, (run l).all inner = true
  | [] => rfl
  | c :: l => by
    have := run_inner l
    unfold run at this ⊢
    rw [List.takeWhile_cons]
    split
    · rename_i h; rw [List.all_cons, h, this]; rfl
    · rfl
theorem run_take : ∀ l : List UInt8, l.take (run l).length = run l
  | [] => rfl
  | c :: l => by
    have := run_take l
    unfold run at this ⊢
    rw [List.takeWhile_cons]
    split
    · simp [this]
    · rfl
theorem run_of_take : ∀ (l : List UInt8) (j : Nat), run (l.take j) = (run l).take j
  | [], j => by simp [run]
  | c :: l, 0 => by simp [run]
  | c :: l, j + 1 => by
    have := run_of_take l j
    unfold run at this ⊢
    rw [List.take_succ_cons, List.takeWhile_cons, List.takeWhile_cons]
    split
    · simp [this]
    · simp

theorem unq_stable : ∀ (l : List UInt8) (s : List UInt8) (k : Nat), unq l = some (s, k) → ∀ z, unq (l.take k ++ z) = some (s, k)
  | [], s, k, h, _ => by simp [unq] at h
  | [c], s, k, h, z => by
    unfold unq at h
    split at h
    · rename_i hc
      simp at h; obtain ⟨rfl, rfl⟩ := h
      cases z with
      | nil => simp [unq, hc]
      | cons d z => simp [unq, hc]
    · cases h
  | c :: d :: l, s, k, h, z => by
    unfold unq at h
    split at h
    · rename_i hc
      simp at h; obtain ⟨rfl, rfl⟩ := h
      cases z with
      | nil => simp [unq, hc]
      | cons d z => simp [unq, hc]
    rename_i hc
    split at h
    · rename_i h92
      split at h
      · rename_i hd
        simp only [Option.map_eq_some_iff, Prod.exists, Prod.mk.injEq] at h
        obtain ⟨a, b, h1, rfl, rfl⟩ := h
        have := unq_stable l a b h1 z
        simp only [List.take_succ_cons, List.cons_append]
        rw [unq, if_neg hc, if_pos h92, if_pos hd, this]; rfl
      · rename_i hd
        split at h
        · rename_i hn
          simp only [Option.map_eq_some_iff, Prod.exists, Prod.mk.injEq] at h
          obtain ⟨a, b, h1, rfl, rfl⟩ := h
          have := unq_stable l a b h1 z
          simp only [List.take_succ_cons, List.cons_append]
          rw [unq, if_neg hc, if_pos h92, if_neg hd, if_pos hn, this]; rfl
        · cases h
    · rename_i h92
      split at h
      · cases h
      · rename_i hr
        simp only [Option.map_eq_some_iff, Prod.exists, Prod.mk.injEq] at h
        obtain ⟨a, b, h1, rfl, rfl⟩ := h
        have := unq_stable (d :: l) a b h1 z
        have hb := unq_bounds _ _ _ h1
        obtain ⟨b', rfl⟩ : ∃ b', b = b' + 1 := ⟨b - 1, by omega⟩
        simp only [List.take_succ_cons, List.cons_append] at this ⊢
        rw [unq, if_neg hc, if_neg h92, if_neg hr, this]; rfl
/-- Cut ahead of its end it is none. -/
theorem unq_cut : ∀ (l : List UInt8) (s : List UInt8) (k : Nat), unq l = some (s, k) → ∀ j, j < k → unq (l.take j) = none
  | [], s, k, h, _, _ => by simp [unq] at h
  | c :: l, s, k, h, 0, _ => by simp [unq]
  | [c], s, k, h, j + 1, hj => by
    have := unq_bounds _ _ _ h
    simp at this; omega
  | c :: d :: l, s, k, h, j + 1, hj => by
    unfold unq at h
    split at h
    · simp at h; obtain ⟨rfl, rfl⟩ := h; omega
    rename_i hc
    cases j with
    | zero => simp [unq, hc]
    | succ j =>
    simp only [List.take_succ_cons]
    split at h
    · rename_i h92
      split at h
      · rename_i hd
        simp only [Option.map_eq_some_iff, Prod.exists, Prod.mk.injEq] at h
        obtain ⟨a, b, h1, rfl, rfl⟩ := h
        have := unq_cut l a b h1 j (by omega)
        rw [unq, if_neg hc, if_pos h92, if_pos hd, this]; rfl
      · rename_i hd
        split at h
        · rename_i hn
          simp only [Option.map_eq_some_iff, Prod.exists, Prod.mk.injEq] at h
          obtain ⟨a, b, h1, rfl, rfl⟩ := h
          have := unq_cut l a b h1 j (by omega)
          rw [unq, if_neg hc, if_pos h92, if_neg hd, if_pos hn, this]; rfl
        · cases h
    · rename_i h92
      split at h
      · cases h
      · rename_i hr
        simp only [Option.map_eq_some_iff, Prod.exists, Prod.mk.injEq] at h
        obtain ⟨a, b, h1, rfl, rfl⟩ := h
        have := unq_cut (d :: l) a b h1 (j + 1) (by omega)
        simp only [List.take_succ_cons] at this
        rw [unq, if_neg hc, if_neg h92, if_neg hr, this]; rfl
/-- What it stands for, written anew, is the same. -/
theorem unq_escs : ∀ (l : List UInt8) (s : List UInt8) (k : Nat), unq l = some (s, k) → escs s = some (l.take (k - 1)) ∧ l.take k = l.take (k - 1) ++ [34]
  | [], s, k, h => by simp [unq] at h
  | [c], s, k, h => by
    unfold unq at h
    split at h
    · rename_i hc
      simp at h; obtain ⟨rfl, rfl⟩ := h
      have : c = 34 := UInt8.toNat_inj.1 hc
      subst this; exact ⟨rfl, rfl⟩
    · cases h
  | c :: d :: l, s, k, h => by
    unfold unq at h
    split at h
    · rename_i hc
      simp at h; obtain ⟨rfl, rfl⟩ := h
      have : c = 34 := UInt8.toNat_inj.1 hc
      subst this; exact ⟨rfl, rfl⟩
    rename_i hc
    split at h
    · rename_i h92
      have e92 : c = 92 := UInt8.toNat_inj.1 h92
      subst e92
      split at h
      · rename_i hd
        simp only [Option.map_eq_some_iff, Prod.exists, Prod.mk.injEq] at h
        obtain ⟨a, b, h1, rfl, rfl⟩ := h
        obtain ⟨i1, i2⟩ := unq_escs l a b h1
        have hb := unq_bounds _ _ _ h1
        obtain ⟨b', rfl⟩ : ∃ b', b = b' + 1 := ⟨b - 1, by omega⟩
        have e1 : b' + 1 + 2 - 1 = (b' + 1 - 1) + 2 := by omega
        rw [e1]
        simp only [List.take_succ_cons, List.cons_append, i2, and_true]
        unfold escs
        have : esc d = some [92, d] := by unfold esc; rw [if_neg (by omega), if_neg (by omega), if_pos hd]
        rw [this, i1]; rfl
      · rename_i hd
        split at h
        · rename_i hn
          simp only [Option.map_eq_some_iff, Prod.exists, Prod.mk.injEq] at h
          obtain ⟨a, b, h1, rfl, rfl⟩ := h
          obtain ⟨i1, i2⟩ := unq_escs l a b h1
          have hb := unq_bounds _ _ _ h1
          obtain ⟨b', rfl⟩ : ∃ b', b = b' + 1 := ⟨b - 1, by omega⟩
          have e1 : b' + 1 + 2 - 1 = (b' + 1 - 1) + 2 := by omega
          rw [e1]
          have ed : d = 110 := UInt8.toNat_inj.1 hn
          subst ed
          simp only [List.take_succ_cons, List.cons_append, i2, and_true]
          unfold escs
          rw [show esc 10 = some [92, 110] from rfl, i1]; rfl
        · cases h
    · rename_i h92
      split at h
      · cases h
      · rename_i hr
        simp only [Option.map_eq_some_iff, Prod.exists, Prod.mk.injEq] at h
        obtain ⟨a, b, h1, rfl, rfl⟩ := h
        obtain ⟨i1, i2⟩ := unq_escs (d :: l) a b h1
        have hb := unq_bounds _ _ _ h1
        obtain ⟨b', rfl⟩ : ∃ b', b = b' + 1 := ⟨b - 1, by omega⟩
        have e1 : b' + 1 + 1 - 1 = (b' + 1 - 1) + 1 := by omega
        rw [e1]
        rw [List.take_succ_cons, List.take_succ_cons, i2, List.cons_append]
        refine ⟨?_, rfl⟩
        unfold escs
        have : esc c = some [c] := by unfold esc; rw [if_neg (by omega), if_neg hr, if_neg (by omega)]
        rw [this, i1]; rfl

theorem mark_head {c : UInt8} {l : List UInt8} (h : mark (c :: l) ≠ []) : c ∈ marks1 := by
  cases l with
  | nil =>
    rw [mark] at h
    split at h
    · assumption
    · simp at h
  | cons d l =>
    rw [mark] at h
    split at h
    · rename_i h2
      simp only [marks2, List.mem_cons, List.cons.injEq, List.not_mem_nil, or_false, and_true] at h2
      rcases h2 with ⟨rfl, rfl⟩ | ⟨rfl, rfl⟩ | ⟨rfl, rfl⟩ | ⟨rfl, rfl⟩ | ⟨rfl, rfl⟩ <;> decide
    · split at h
      · assumption
      · simp at h
theorem mark_take : ∀ l : List UInt8, l.take (mark l).length = mark l
  | [] => rfl
  | [c] => by rw [mark]; split <;> rfl
  | c :: d :: l => by
    rw [mark]
    split
    · rfl
    · split <;> rfl
theorem mark_one {c : UInt8} {l : List UInt8} (h : mark (c :: l) = [c]) : ∀ d, l.head? = some d → [c, d] ∉ marks2 := by
  intro d hd h2
  cases l with
  | nil => simp at hd
  | cons x l =>
    simp at hd; subst hd
    rw [mark, if_pos h2] at h
    simp at h
theorem mark_stable {l z : List UInt8} (hz : Stop z) (h : mark l ≠ []) : mark (mark l ++ z) = mark l := by
  match l with
  | [] => simp [mark] at h
  | [c] =>
    have hc := mark_head h
    have e : mark [c] = [c] := by rw [mark, if_pos hc]
    rw [e]
    rcases hz with rfl | ⟨d, r, rfl, hd⟩
    · exact e
    · rw [List.cons_append, List.nil_append, mark, if_neg, if_pos hc]
      intro h2
      simp only [marks2, List.mem_cons, List.cons.injEq, List.not_mem_nil, or_false, and_true] at h2
      unfold blank at hd
      simp only [decide_eq_true_eq] at hd
      rcases h2 with ⟨rfl, rfl⟩ | ⟨rfl, rfl⟩ | ⟨rfl, rfl⟩ | ⟨rfl, rfl⟩ | ⟨rfl, rfl⟩ <;> simp at hd
  | c :: d :: l =>
    have hc := mark_head h
    by_cases h2 : [c, d] ∈ marks2
    · have e : mark (c :: d :: l) = [c, d] := by rw [mark, if_pos h2]
      rw [e]
      show mark (c :: d :: z) = _
      rw [mark, if_pos h2]
    · have e : mark (c :: d :: l) = [c] := by rw [mark, if_neg h2, if_pos hc]
      rw [e]
      rcases hz with rfl | ⟨d, r, rfl, hd⟩
      · rw [List.append_nil, mark, if_pos hc]
      · rw [List.cons_append, List.nil_append, mark, if_neg, if_pos hc]
        intro h2
        simp only [marks2, List.mem_cons, List.cons.injEq, List.not_mem_nil, or_false, and_true] at h2
        unfold blank at hd
        simp only [decide_eq_true_eq] at hd
        rcases h2 with ⟨rfl, rfl⟩ | ⟨rfl, rfl⟩ | ⟨rfl, rfl⟩ | ⟨rfl, rfl⟩ | ⟨rfl, rfl⟩ <;> simp at hd

/-- The kinds of a token that stands first. -/
theorem one_cases {c : UInt8} {l : List UInt8} {t : Tk} {k : Nat} (h : one (c :: l) = .ok (t, k)) :
    (letter c = true ∧ (run (c :: l)).length ≤ 32 ∧ t = ⟨if isWord (run (c :: l)) = true then 1 else 2, 0, run (c :: l)⟩ ∧ k = (run (c :: l)).length) ∨
    (letter c = false ∧ digit c = true ∧ ∃ n, worth (run (c :: l)) = some n ∧ t = ⟨3, n, []⟩ ∧ k = (run (c :: l)).length) ∨
    (letter c = false ∧ digit c = false ∧ c.toNat = 34 ∧ ∃ s j, unq l = some (s, j) ∧ s.length ≤ 64 ∧ t = ⟨4, 0, s⟩ ∧ k = j + 1) ∨
    (letter c = false ∧ digit c = false ∧ c.toNat ≠ 34 ∧ mark (c :: l) ≠ [] ∧ t = ⟨5, 0, mark (c :: l)⟩ ∧ k = (mark (c :: l)).length) := by
  rw [one] at h
  split at h
  · rename_i hl
    split at h
    · injection h with h; injection h with h1 h2
      exact .inl ⟨hl, by assumption, h1.symm, h2.symm⟩
    · cases h
  rename_i hl
  simp at hl
  split at h
  · rename_i hd
    split at h
    · injection h with h; injection h with h1 h2
      exact .inr (.inl ⟨hl, hd, _, by assumption, h1.symm, h2.symm⟩)
    · cases h
  rename_i hd
  simp at hd
  split at h
  · rename_i hq
    split at h
    · rename_i s j hu
      split at h
      · injection h with h; injection h with h1 h2
        exact .inr (.inr (.inl ⟨hl, hd, hq, s, j, hu, by assumption, h1.symm, h2.symm⟩))
      · cases h
    · cases h
  · rename_i hq
    split at h
    · cases h
    · injection h with h; injection h with h1 h2
      exact .inr (.inr (.inr ⟨hl, hd, hq, by assumption, h1.symm, h2.symm⟩))
theorem one_word {c : UInt8} {l : List UInt8} (hl : letter c = true) (h : (run (c :: l)).length ≤ 32) : one (c :: l) = .ok (⟨if isWord (run (c :: l)) = true then 1 else 2, 0, run (c :: l)⟩, (run (c :: l)).length) := by
  rw [one, if_pos hl, if_pos h]
theorem one_num {c : UInt8} {l : List UInt8} {n : Nat} (hd : digit c = true) (h : worth (run (c :: l)) = some n) : one (c :: l) = .ok (⟨3, n, []⟩, (run (c :: l)).length) := by
  have hl : ¬ letter c = true := fun hl => by rw [not_both hl] at hd; cases hd
  rw [one, if_neg hl, if_pos hd, h]
theorem one_text {c : UInt8} {l : List UInt8} {s : List UInt8} {j : Nat} (hc : c.toNat = 34) (h : unq l = some (s, j)) (hs : s.length ≤ 64) : one (c :: l) = .ok (⟨4, 0, s⟩, j + 1) := by
  have hl : ¬ letter c = true := by unfold letter; simp only [decide_eq_true_eq]; omega
  have hd : ¬ digit c = true := by unfold digit; simp only [decide_eq_true_eq]; omega
  rw [one, if_neg hl, if_neg hd, if_pos hc, h]; simp [hs]
theorem one_text_no {c : UInt8} {l : List UInt8} (hc : c.toNat = 34) (h : unq l = none) : one (c :: l) = .error 14 := by
  have hl : ¬ letter c = true := by unfold letter; simp only [decide_eq_true_eq]; omega
  have hd : ¬ digit c = true := by unfold digit; simp only [decide_eq_true_eq]; omega
  rw [one, if_neg hl, if_neg hd, if_pos hc, h]
theorem one_mark {c : UInt8} {l : List UInt8} (hl : letter c = false) (hd : digit c = false) (hq : c.toNat ≠ 34) (h : mark (c :: l) ≠ []) : one (c :: l) = .ok (⟨5, 0, mark (c :: l)⟩, (mark (c :: l)).length) := by
  rw [one, if_neg (by rw [hl]; simp), if_neg (by rw [hd]; simp), if_neg hq, if_neg h]

/-- A token by itself, and what may stand behind. -/
theorem one_stable {l : List UInt8} {t : Tk} {k : Nat} (h : one l = .ok (t, k)) {z : List UInt8} (hz : Stop z) : one (l.take k ++ z) = .ok (t, k) := by
  cases l with
  | nil => simp [one] at h
  | cons c l =>
    have hz' : z = [] ∨ ∃ c y, z = c :: y ∧ inner c = false := by
      rcases hz with rfl | ⟨c, r, rfl, hc⟩
      · exact .inl rfl
      · exact .inr ⟨c, r, rfl, stop_inner hc⟩
    have hk := (one_bounds h).1
    obtain ⟨k', rfl⟩ : ∃ k', k = k' + 1 := ⟨k - 1, by omega⟩
    rcases one_cases h with ⟨hl, h32, rfl, hk2⟩ | ⟨hl, hd, n, hw, rfl, hk2⟩ | ⟨hl, hd, hq, s, j, hu, hs, rfl, hk2⟩ | ⟨hl, hd, hq, hm, rfl, hk2⟩
    · have e : (c :: l).take (k' + 1) = run (c :: l) := by rw [hk2, run_take]
      have hr : run (run (c :: l) ++ z) = run (c :: l) := run_app (run_inner _) hz'
      rw [e, hk2]
      obtain ⟨r, hr0⟩ : ∃ r, run (c :: l) = c :: r := ⟨_, by rw [← e, List.take_succ_cons]⟩
      rw [hr0] at hr h32 ⊢
      rw [List.cons_append] at hr ⊢
      have := one_word (l := r ++ z) hl (by rw [hr]; exact h32)
      rw [hr] at this
      exact this
    · have e : (c :: l).take (k' + 1) = run (c :: l) := by rw [hk2, run_take]
      have hr : run (run (c :: l) ++ z) = run (c :: l) := run_app (run_inner _) hz'
      rw [e, hk2]
      obtain ⟨r, hr0⟩ : ∃ r, run (c :: l) = c :: r := ⟨_, by rw [← e, List.take_succ_cons]⟩
      rw [hr0] at hr hw ⊢
      rw [List.cons_append] at hr ⊢
      have := one_num (l := r ++ z) hd (by rw [hr]; exact hw)
      rw [hr] at this
      exact this
    · injection hk2 with hk2; subst hk2
      rw [List.take_succ_cons, List.cons_append]
      exact one_text hq (unq_stable _ _ _ hu z) hs
    · have e : (c :: l).take (k' + 1) = mark (c :: l) := by rw [hk2, mark_take]
      have hr : mark (mark (c :: l) ++ z) = mark (c :: l) := mark_stable hz hm
      rw [e, hk2]
      obtain ⟨r, hr0⟩ : ∃ r, mark (c :: l) = c :: r := ⟨_, by rw [← e, List.take_succ_cons]⟩
      rw [hr0] at hr hm ⊢
      rw [List.cons_append] at hr ⊢
      have := one_mark (l := r ++ z) hl hd hq (by rw [hr]; exact hm)
      rw [hr] at this
      exact this
theorem one_take {l : List UInt8} {t : Tk} {k : Nat} (h : one l = .ok (t, k)) {j : Nat} (hj : k ≤ j) : one (l.take j) = .ok (t, k) := by
  cases l with
  | nil => simp [one] at h
  | cons c l =>
    have hk := (one_bounds h).1
    obtain ⟨j', rfl⟩ : ∃ j', j = j' + 1 := ⟨j - 1, by omega⟩
    rw [List.take_succ_cons]
    rcases one_cases h with ⟨hl, h32, rfl, hk2⟩ | ⟨hl, hd, n, hw, rfl, hk2⟩ | ⟨hl, hd, hq, s, i, hu, hs, rfl, hk2⟩ | ⟨hl, hd, hq, hm, rfl, hk2⟩
    · have e : run (c :: l.take j') = run (c :: l) := by rw [← List.take_succ_cons, run_of_take, List.take_of_length_le (by omega)]
      rw [hk2, ← e]
      rw [← e] at h32
      exact one_word hl h32
    · have e : run (c :: l.take j') = run (c :: l) := by rw [← List.take_succ_cons, run_of_take, List.take_of_length_le (by omega)]
      rw [hk2, ← e]
      rw [← e] at hw
      exact one_num hd hw
    · subst hk2
      refine one_text hq ?_ hs
      have := unq_stable _ _ _ hu ((l.drop i).take (j' - i))
      rw [← this]
      have : l.take j' = l.take i ++ (l.drop i).take (j' - i) := by
        rw [← List.take_add]; congr 1; omega
      rw [this]
    · have e : mark (c :: l.take j') = mark (c :: l) := by
        cases l with
        | nil => simp
        | cons d l =>
          cases j' with
          | zero =>
            have hm1 : (mark (c :: d :: l)).length = 1 := by
              have := List.length_pos_iff.2 hm; omega
            by_cases h2 : [c, d] ∈ marks2
            · rw [mark, if_pos h2] at hm1; simp at hm1
            · rw [List.take_zero, mark, mark, if_neg h2]
          | succ j => rw [List.take_succ_cons, mark, mark]
      rw [hk2, ← e]
      rw [← e] at hm
      exact one_mark hl hd hq hm
theorem value_snoc (l : List UInt8) (c : UInt8) : value (l ++ [c]) = 10 * value l + (c.toNat - 48) := by unfold value; simp
theorem value_take_le : ∀ (l : List UInt8) (n : Nat), n ≤ l.foldl (fun n c => 10 * n + (c.toNat - 48)) n
  | [], n => Nat.le_refl _
  | c :: l, n => by
    rw [List.foldl_cons]
    exact Nat.le_trans (by omega) (value_take_le l _)
theorem value_pre (l : List UInt8) (j : Nat) : value (l.take j) ≤ value l := by
  have : l = l.take j ++ l.drop j := (List.take_append_drop j l).symm
  unfold value
  conv => rhs; rw [this, List.foldl_append]
  exact value_take_le _ _
theorem worth_some {l : List UInt8} {n : Nat} (h : worth l = some n) : ¬ (l.head? = some 48 ∧ 1 < l.length) ∧ l.all digit = true ∧ value l ≤ 9223372036854775807 ∧ n = value l := by
  unfold worth at h
  split at h
  · cases h
  rename_i h0
  split at h
  · rename_i h1
    split at h
    · injection h with h
      exact ⟨h0, h1, by assumption, h.symm⟩
    · cases h
  · cases h
theorem worth_mk {l : List UInt8} (h0 : ¬ (l.head? = some 48 ∧ 1 < l.length)) (h1 : l.all digit = true) (h2 : value l ≤ 9223372036854775807) : worth l = some (value l) := by
  unfold worth; rw [if_neg h0, if_pos h1, if_pos h2]
/-- A token that is cut. -/
theorem one_cut {l : List UInt8} {t : Tk} {k : Nat} (h : one l = .ok (t, k)) {j : Nat} (h0 : 0 < j) (hj : j < k) : (∃ t', one (l.take j) = .ok (t', j)) ∨ one (l.take j) = .error 14 := by
  cases l with
  | nil => simp [one] at h
  | cons c l =>
    have hkb := (one_bounds h).2
    obtain ⟨j', rfl⟩ : ∃ j', j = j' + 1 := ⟨j - 1, by omega⟩
    rw [List.take_succ_cons]
    rcases one_cases h with ⟨hl, h32, rfl, hk2⟩ | ⟨hl, hd, n, hw, rfl, hk2⟩ | ⟨hl, hd, hq, s, i, hu, hs, rfl, hk2⟩ | ⟨hl, hd, hq, hm, rfl, hk2⟩
    · have e : run (c :: l.take j') = (run (c :: l)).take (j' + 1) := by rw [← List.take_succ_cons, run_of_take]
      have e2 : (run (c :: l.take j')).length = j' + 1 := by rw [e, List.length_take]; omega
      have := one_word (l := l.take j') hl (by omega)
      rw [e2] at this
      exact .inl ⟨_, this⟩
    · have e : run (c :: l.take j') = (run (c :: l)).take (j' + 1) := by rw [← List.take_succ_cons, run_of_take]
      have e2 : (run (c :: l.take j')).length = j' + 1 := by rw [e, List.length_take]; omega
      obtain ⟨w1, w2, w3, _⟩ := worth_some hw
      have hw' : worth (run (c :: l.take j')) = some (value (run (c :: l.take j'))) := by
        refine worth_mk ?_ ?_ ?_
        · rintro ⟨a, b⟩
          refine w1 ⟨?_, by omega⟩
          rw [e, List.head?_take] at a
          simpa using a
        · rw [e]
          rw [List.all_eq_true] at w2 ⊢
          exact fun x hx => w2 x (List.mem_of_mem_take hx)
        · rw [e]
          exact Nat.le_trans (value_pre _ _) w3
      have := one_num hd hw'
      rw [e2] at this
      exact .inl ⟨_, this⟩
    · subst hk2
      exact .inr (one_text_no hq (unq_cut _ _ _ hu j' (by omega)))
    · have hlen := (mark_len (c :: l)).2
      have hj0 : j' = 0 := by omega
      subst hj0
      have hc := mark_head hm
      have e : mark [c] = [c] := by rw [mark, if_pos hc]
      have := one_mark (l := []) hl hd hq (by rw [e]; simp)
      rw [e] at this
      exact .inl ⟨_, this⟩
end Culp.Tx


/- Words, names, quotes, limits: their tokens; no program in sight. -/
import Derived.Test.YtebameiaeldfiaaDoorTxM
namespace Culp.Tx
set_option linter.unusedSimpArgs false
set_option linter.unusedVariables false

theorem words_short : ∀ s ∈ words, 2 ≤ s.length ∧ s.length ≤ 6 ∧ s.all inner = true ∧ (s.head?.map letter).getD false = true := by decide
theorem isWord_mem {s : List UInt8} (h : isWord s = true) : s ∈ words := by unfold isWord at h; simpa using h
theorem behind_letter {c : UInt8} {l : List UInt8} (h : letter c = true) : behind false (c :: l) = 0 := by
  unfold letter at h; simp only [decide_eq_true_eq] at h
  rw [behind, if_neg (by omega), if_neg]
  unfold blank; simp only [decide_eq_true_eq]; omega
theorem letter_toks {c : UInt8} {l : List UInt8} (h : letter c = true) (ha : (c :: l).all inner = true) (hl : (c :: l).length ≤ 32) :
    toks (c :: l) = .ok [(⟨if isWord (c :: l) = true then 1 else 2, 0, c :: l⟩, (1, 1))] := by
  unfold toks
  rw [if_neg (by omega)]
  have hr := run_all ha
  have h1 := one_word (l := l) h (by rw [hr]; exact hl)
  rw [hr] at h1
  have := toksAt_step (p := (1, 1)) (l := c :: l) (r := []) (by rw [behind_letter h]; simp) (by rw [behind_letter h]; exact h1) (by
    refine toksAt_none ?_
    rw [behind_letter h, List.drop_of_length_le (by simp)]; rfl)
  rw [this, behind_letter h]; rfl
theorem name_toks {s : List UInt8} (h : isName s = true) : toks s = .ok [(⟨2, 0, s⟩, (1, 1))] := by
  unfold isName at h
  simp only [Bool.and_eq_true, decide_eq_true_eq, Bool.not_eq_true'] at h
  obtain ⟨⟨⟨⟨h1, h2⟩, h3⟩, h4⟩, h5⟩ := h
  cases s with
  | nil => exact absurd rfl h1
  | cons c l =>
    have := letter_toks (by simpa using h3) h5 h2
    rw [h4] at this; simpa using this
theorem word_toks {s : List UInt8} (h : isWord s = true) : toks s = .ok [(⟨1, 0, s⟩, (1, 1))] := by
  obtain ⟨_, h2, h5, h3⟩ := words_short s (isWord_mem h)
  cases s with
  | nil => simp at h3
  | cons c l =>
    have := letter_toks (by simpa using h3) h5 (by omega)
    rw [h] at this; simpa using this
theorem toks_small {s : List UInt8} {L : List (Tk × (Nat × Nat))} (h : toks s = .ok L) : s.length ≤ 65536 ∧ toksAt (1, 1) s = .ok L := by
  unfold toks at h
  split at h
  · cases h
  · exact ⟨by omega, h⟩
theorem toks_alone {s : List UInt8} {t : Tk} {q : Nat × Nat} (h : toks s = .ok [(t, q)]) (hs : t.s = s) : (t.kind = 2 → isName s = true) ∧ (t.kind = 1 → isWord s = true) := by
  have hk : ∀ b : Bool, ¬ (if b = true then 1 else 2) = 4 := by decide
  rcases toksAt_inv (toks_small h).2 with ⟨_, h1⟩ | ⟨h0, t', n, r, h2, _, h1⟩
  · cases h1
  · injection h1 with h1; injection h1 with h1; subst h1
    cases hd : s.drop (behind false s) with
    | nil => rw [hd] at h2; simp [one] at h2
    | cons c l =>
      rw [hd] at h2
      rcases one_cases h2 with ⟨hl, h32, rfl, _⟩ | ⟨_, _, n, _, rfl, _⟩ | ⟨_, _, _, a, j, _, _, rfl, _⟩ | ⟨_, _, _, _, rfl, _⟩
      · simp only at hs ⊢
        have e : s = c :: l := by
          have h3 := run_len (c :: l)
          rw [hs, ← hd, List.length_drop] at h3
          have : behind false s = 0 := by omega
          rw [this] at hd; exact hd
        rw [hs] at h32 ⊢
        have hi := run_inner (c :: l)
        rw [hs] at hi
        cases hw : isWord s with
        | true => simp
        | false =>
          simp only [if_neg Bool.false_ne_true, forall_const]
          refine ⟨?_, by omega⟩
          unfold isName
          rw [hw, hi]
          simp only [Bool.and_eq_true, decide_eq_true_eq]
          refine ⟨⟨⟨⟨?_, h32⟩, ?_⟩, rfl⟩, trivial⟩
          · rw [e]; simp
          · rw [e]; simpa using hl
      all_goals simp
/-- A text that is quoted. -/
theorem escs_unq : ∀ (s m : List UInt8), escs s = some m → m.length ≤ 2 * s.length ∧ ∀ z, unq (m ++ 34 :: z) = some (s, m.length + 1)
  | [], m, h => by
    simp [escs] at h; subst h
    refine ⟨by simp, fun z => ?_⟩
    cases z <;> simp [unq]
  | c :: s, m, h => by
    unfold escs at h
    split at h
    · rename_i a b h1 h2
      injection h with h; subst h
      obtain ⟨i1, i2⟩ := escs_unq s b h2
      unfold esc at h1
      split at h1
      · rename_i hc
        injection h1 with h1; subst h1
        have ec : c = 10 := UInt8.toNat_inj.1 hc
        subst ec
        refine ⟨by simp; omega, fun z => ?_⟩
        have := i2 z
        simp only [List.cons_append, List.nil_append, List.length_cons]
        rw [unq, this]; rfl
      rename_i h10
      split at h1
      · cases h1
      rename_i hr
      split at h1
      · rename_i hq
        injection h1 with h1; subst h1
        refine ⟨by simp; omega, fun z => ?_⟩
        have := i2 z
        simp only [List.cons_append, List.nil_append, List.length_cons]
        rw [unq, if_neg (by decide), if_pos (by decide), if_pos hq, this]; rfl
      · rename_i hq
        injection h1 with h1; subst h1
        refine ⟨by simp; omega, fun z => ?_⟩
        have := i2 z
        simp only [List.cons_append, List.nil_append, List.length_cons]
        cases hb : b ++ 34 :: z with
        | nil => simp at hb
        | cons d y =>
          rw [hb] at this
          rw [unq, if_neg (by omega), if_neg (by omega), if_neg hr, this]; rfl
    · cases h
theorem quote_some {s q : List UInt8} (h : quote s = some q) : ∃ m, escs s = some m ∧ q = 34 :: m ++ [34] ∧ s.length ≤ 64 ∧ q.length ≤ 130 := by
  unfold quote at h
  split at h
  · cases h
  · simp only [Option.map_eq_some_iff] at h
    obtain ⟨m, h1, rfl⟩ := h
    have := (escs_unq s m h1).1
    exact ⟨m, h1, rfl, by omega, by simp; omega⟩
theorem quote_toks {s q : List UInt8} (h : quote s = some q) : toks q = .ok [(⟨4, 0, s⟩, (1, 1))] := by
  obtain ⟨m, h1, rfl, h2, h3⟩ := quote_some h
  have hu := (escs_unq s m h1).2 []
  unfold toks
  rw [if_neg (by omega)]
  have hb : behind false (34 :: m ++ [34]) = 0 := by
    rw [List.cons_append, behind, if_neg (by decide), if_neg (by decide)]
  have ho : one (34 :: m ++ [34]) = .ok (⟨4, 0, s⟩, m.length + 1 + 1) := one_text rfl hu h2
  have := toksAt_step (p := (1, 1)) (l := 34 :: m ++ [34]) (r := []) (by rw [hb]; simp) (by rw [hb]; exact ho) (by
    refine toksAt_none ?_
    rw [hb, List.drop_of_length_le (by simp)]; rfl)
  rw [this, hb]; rfl
theorem blanks_toks : ∀ n, n ≤ 65536 → toks (List.replicate n 32) = .ok [] := fun n h => by
  unfold toks
  rw [if_neg (by simp; omega)]
  refine toksAt_none ?_
  have := Clean.rep (c := 32) (by decide) n []
  simpa [behind] using this
theorem long_toks {l : List UInt8} (h : 65536 < l.length) : toks l = .error (10, (0, 0)) := by unfold toks; rw [if_pos h]
/-- The limits. -/
theorem lim1 : toks (List.replicate 32 97) = .ok [(⟨2, 0, List.replicate 32 97⟩, (1, 1))] := name_toks (by decide)
theorem lim2 : toks (List.replicate 33 97) = .error (12, (1, 1)) := by rfl
theorem lim3 : toks [57,50,50,51,51,55,50,48,51,54,56,53,52,55,55,53,56,48,55] = .ok [(⟨3, 9223372036854775807, []⟩, (1, 1))] := by rfl
theorem lim4 : toks [57,50,50,51,51,55,50,48,51,54,56,53,52,55,55,53,56,48,56] = .error (13, (1, 1)) := by rfl
theorem lim5 : toks [57,50,50,51,51,55,50,48,51,54,56,53,52,55,55,53,56,48,55,48] = .error (13, (1, 1)) := by rfl
def newlines (n : Nat) : List UInt8 := (List.replicate n [92, 110]).flatten
set_option maxRecDepth 100000 in
theorem lim6 : toks (34 :: newlines 64 ++ [34]) = .ok [(⟨4, 0, List.replicate 64 10⟩, (1, 1))] := by rfl
set_option maxRecDepth 100000 in
theorem lim7 : toks (34 :: newlines 64 ++ [120, 34]) = .error (14, (1, 1)) := by rfl
/-- How many first ones are the same. -/
def same {α : Type} [DecidableEq α] : List α → List α → Nat
  | a :: l, b :: m => if a = b then 1 + same l m else 0
  | _, _ => 0
theorem same_app {α : Type} [DecidableEq α] : ∀ (A x B : List α), A.length ≤ same (A ++ x) (A ++ B)
  | [], _, _ => by simp
  | a :: A, x, B => by
    have := same_app A x B
    simp only [List.cons_append, same, if_true, List.length_cons]; omega
theorem same_stop {α : Type} [DecidableEq α] : ∀ (k : Nat) (l m : List α), (∀ i, i < k → l[i]? = m[i]?) → k ≤ l.length → (k < l.length → k < m.length → l[k]? ≠ m[k]?) → k ≤ m.length → same l m = k
  | 0, l, m, _, _, h, _ => by
    cases l with
    | nil => simp [same]
    | cons a l =>
      cases m with
      | nil => simp [same]
      | cons b m =>
        have := h (by simp) (by simp)
        simp at this
        simp [same, this]
  | k + 1, l, m, h0, h1, h, h2 => by
    cases l with
    | nil => simp at h1
    | cons a l =>
      cases m with
      | nil => simp at h2
      | cons b m =>
        have := h0 0 (by omega)
        simp at this
        subst this
        have := same_stop k l m (fun i hi => by have := h0 (i + 1) (by omega); simpa using this) (by simpa using h1) (fun a b => by have := h (by simp; omega) (by simp; omega); simpa using this) (by simpa using h2)
        simp only [same, if_true]; omega
end Culp.Tx

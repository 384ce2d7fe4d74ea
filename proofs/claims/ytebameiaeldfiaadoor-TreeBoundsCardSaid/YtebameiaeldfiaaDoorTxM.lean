
/- Sources cut, spread, written anew: the tokens of what comes of it; no program in sight. -/
import Derived.Test.YtebameiaeldfiaaDoorTxL
namespace Culp.Tx
set_option linter.unusedSimpArgs false
set_option linter.unusedVariables false

theorem behind_take : ∀ (b : Bool) (l : List UInt8) (n : Nat), behind b (l.take n) = min (behind b l) n
  | b, [], n => by cases b <;> simp [behind]
  | b, c :: l, 0 => by cases b <;> simp [behind]
  | true, c :: l, n + 1 => by
    rw [List.take_succ_cons, behind, behind, behind_take]; omega
  | false, c :: l, n + 1 => by
    rw [List.take_succ_cons, behind, behind, behind_take, behind_take]
    split
    · omega
    · split <;> omega
/-- Blanks and whole remarks. -/
def Clean (z : List UInt8) : Prop := ∀ l, behind false (z ++ l) = z.length + behind false l
theorem Clean.nil : Clean [] := fun l => by simp
theorem Clean.app {a b : List UInt8} (ha : Clean a) (hb : Clean b) : Clean (a ++ b) := fun l => by rw [List.append_assoc, ha, hb]; simp; omega
theorem Clean.blank {c : UInt8} (h : blank c = true) : Clean [c] := fun l => by
  have : ¬ c.toNat = 35 := by unfold Tx.blank at h; simp only [decide_eq_true_eq] at h; omega
  rw [List.singleton_append, behind, if_neg this, if_pos h]; simp
theorem Clean.rep {c : UInt8} (h : Tx.blank c = true) : ∀ n, Clean (List.replicate n c)
  | 0 => Clean.nil
  | n + 1 => by rw [List.replicate_succ]; exact (Clean.blank h).app (Clean.rep h n)
theorem Clean.remark : Clean [35, 108, 101, 116, 32, 34, 10] := fun l => by simp [behind]; omega
theorem behind_zero {l : List UInt8} (h : behind false l < l.length) : behind false (l.drop (behind false l)) = 0 := by
  suffices H : ∀ (b : Bool) (l : List UInt8), behind b l < l.length → behind false (l.drop (behind b l)) = 0 from H false l h
  intro b l
  induction l generalizing b with
  | nil => intro h; cases b <;> simp [behind] at h
  | cons c l ih =>
    intro h
    cases b with
    | true =>
      rw [behind] at h ⊢
      rw [show 1 + behind (decide (c.toNat ≠ 10)) l = behind (decide (c.toNat ≠ 10)) l + 1 by omega, List.drop_succ_cons]
      exact ih _ (by simp at h ⊢; omega)
    | false =>
      rw [behind] at h ⊢
      split at h
      · rename_i h35
        rw [if_pos h35]
        rw [show 1 + behind true l = behind true l + 1 by omega, List.drop_succ_cons]
        exact ih _ (by simp at h ⊢; omega)
      · rename_i h35
        rw [if_neg h35]
        split at h
        · rename_i hb
          rw [if_pos hb]
          rw [show 1 + behind false l = behind false l + 1 by omega, List.drop_succ_cons]
          exact ih _ (by simp at h ⊢; omega)
        · rename_i hb
          rw [if_neg hb, List.drop_zero, behind, if_neg h35, if_neg hb]

theorem toksAt_none {p : Nat × Nat} {l : List UInt8} (h : behind false l = l.length) : toksAt p l = .ok [] := by rw [toksAt_eq, if_pos h]
theorem toksAt_bad {p : Nat × Nat} {l : List UInt8} {e : Nat} (h : behind false l ≠ l.length) (h1 : one (l.drop (behind false l)) = .error e) : toksAt p l = .error (e, further p (l.take (behind false l))) := by
  rw [toksAt_eq, if_neg h, h1]
theorem toksAt_step {p : Nat × Nat} {l : List UInt8} {t : Tk} {n : Nat} {r : List (Tk × (Nat × Nat))} (h : behind false l ≠ l.length) (h1 : one (l.drop (behind false l)) = .ok (t, n))
    (h2 : toksAt (further p (l.take (behind false l + n))) (l.drop (behind false l + n)) = .ok r) : toksAt p l = .ok ((t, further p (l.take (behind false l))) :: r) := by
  rw [toksAt_eq, if_neg h, h1]; simp only [h2]
theorem toksAt_step_bad {p : Nat × Nat} {l : List UInt8} {t : Tk} {n : Nat} {e : Nat × (Nat × Nat)} (h : behind false l ≠ l.length) (h1 : one (l.drop (behind false l)) = .ok (t, n))
    (h2 : toksAt (further p (l.take (behind false l + n))) (l.drop (behind false l + n)) = .error e) : toksAt p l = .error e := by
  rw [toksAt_eq, if_neg h, h1]; simp only [h2]
theorem toksAt_inv {p : Nat × Nat} {l : List UInt8} {L : List (Tk × (Nat × Nat))} (h : toksAt p l = .ok L) :
    (behind false l = l.length ∧ L = []) ∨ (behind false l < l.length ∧ ∃ t n r, one (l.drop (behind false l)) = .ok (t, n) ∧ toksAt (further p (l.take (behind false l + n))) (l.drop (behind false l + n)) = .ok r ∧ L = (t, further p (l.take (behind false l))) :: r) := by
  rw [toksAt_eq] at h
  split at h
  · injection h with h; exact .inl ⟨by assumption, h.symm⟩
  rename_i hne
  have := behind_le false l
  split at h
  · cases h
  · rename_i t n h1
    split at h
    · cases h
    · rename_i r h2
      injection h with h
      exact .inr ⟨by omega, t, n, r, h1, h2, h.symm⟩

/-- A source that is cut: its tokens are the first ones, and perhaps one more; or its fault stands at one of them. -/
theorem toks_cut : ∀ (f : Nat) (l : List UInt8) (p : Nat × Nat) (L : List (Tk × (Nat × Nat))) (n : Nat), l.length ≤ f → toksAt p l = .ok L → n ≤ l.length →
    (∃ A B x, toksAt p (l.take n) = .ok (A ++ x) ∧ L = A ++ B ∧ x.length ≤ 1) ∨ (∃ q, toksAt p (l.take n) = .error (14, q) ∧ ∃ t, (t, q) ∈ L)
  | f, l, p, L, n, hf, h, hn => by
    rcases toksAt_inv h with ⟨h1, rfl⟩ | ⟨h1, t, m, r, h2, h3, rfl⟩
    · exact .inl ⟨[], [], [], toksAt_none (by rw [behind_take, List.length_take, h1, Nat.min_comm]), rfl, by simp⟩
    have hb := one_bounds h2
    rw [List.length_drop] at hb
    by_cases c1 : n ≤ behind false l
    · exact .inl ⟨[], _, [], toksAt_none (by rw [behind_take, List.length_take]; omega), rfl, by simp⟩
    have e1 : behind false (l.take n) = behind false l := by rw [behind_take]; omega
    have e2 : behind false (l.take n) ≠ (l.take n).length := by rw [e1, List.length_take]; omega
    have e3 : (l.take n).drop (behind false (l.take n)) = (l.drop (behind false l)).take (n - behind false l) := by rw [e1, List.drop_take]
    have e4 : (l.take n).take (behind false (l.take n)) = l.take (behind false l) := by rw [e1, List.take_take]; congr 1; omega
    by_cases c2 : behind false l + m ≤ n
    · have e5 : one ((l.take n).drop (behind false (l.take n))) = .ok (t, m) := by rw [e3]; exact one_take h2 (by omega)
      have e6 : (l.take n).drop (behind false (l.take n) + m) = (l.drop (behind false l + m)).take (n - (behind false l + m)) := by rw [e1, List.drop_take]
      have e7 : (l.take n).take (behind false (l.take n) + m) = l.take (behind false l + m) := by rw [e1, List.take_take]; congr 1; omega
      cases f with
      | zero => omega
      | succ f =>
      rcases toks_cut f (l.drop (behind false l + m)) _ r (n - (behind false l + m)) (by rw [List.length_drop]; omega) h3 (by rw [List.length_drop]; omega) with ⟨A, B, x, i1, i2, i3⟩ | ⟨q, i1, t', i2⟩
      · left
        refine ⟨(t, further p (l.take (behind false l))) :: A, B, x, ?_, by rw [i2]; rfl, i3⟩
        have := toksAt_step (p := p) e2 e5 (r := A ++ x) (by rw [e6, e7]; exact i1)
        rw [this, e4]; rfl
      · right
        exact ⟨q, toksAt_step_bad e2 e5 (by rw [e6, e7]; exact i1), t', List.mem_cons_of_mem _ i2⟩
    · rcases one_cut h2 (j := n - behind false l) (by omega) (by omega) with ⟨t', ht⟩ | he
      · left
        refine ⟨[], _, [(t', further p (l.take (behind false l)))], ?_, rfl, by simp⟩
        have := toksAt_step (p := p) (l := l.take n) (t := t') (n := n - behind false l) (r := []) e2 (by rw [e3]; exact ht) (by
          refine toksAt_none ?_
          rw [e1, List.drop_of_length_le (by rw [List.length_take]; omega)]; rfl)
        rw [this, e4]; rfl
      · right
        refine ⟨_, toksAt_bad e2 (by rw [e3]; exact he), t, ?_⟩
        rw [e4]; exact List.mem_cons_self

/-- Pieces with blanks and remarks ahead of each. -/
def spread : List (List UInt8 × List UInt8) → List UInt8
  | [] => []
  | (z, r) :: l => z ++ (r ++ spread l)
/-- Two lists, place by place. -/
inductive All2 {α β : Type} (R : α → β → Prop) : List α → List β → Prop
  | nil : All2 R [] []
  | cons {a : α} {b : β} {l : List α} {m : List β} : R a b → All2 R l m → All2 R (a :: l) (b :: m)
theorem All2.snoc {α β : Type} {R : α → β → Prop} {a : α} {b : β} {l : List α} {m : List β} (h : All2 R l m) (hr : R a b) : All2 R (l ++ [a]) (m ++ [b]) := by
  induction h with
  | nil => exact .cons hr .nil
  | cons h _ ih => exact .cons h ih
/-- What a piece must be: blanks first, then what is read as this token. -/
def Piece (x : List UInt8 × List UInt8) (t : Tk) : Prop := Clean x.1 ∧ (∃ c y, x.1 = c :: y ∧ (blank c = true ∨ c.toNat = 35)) ∧ ∃ l, one l = .ok (t, x.2.length) ∧ l.take x.2.length = x.2
theorem spread_stop : ∀ (l : List (List UInt8 × List UInt8)) (T : List Tk), All2 Piece l T → Stop (spread l)
  | [], _, _ => .inl rfl
  | (z, r) :: l, _ :: _, h => by
    cases h with
    | cons h _ =>
      obtain ⟨_, ⟨c, y, h1, h2⟩, _⟩ := h
      simp at h1
      right
      refine ⟨c, y ++ (r ++ spread l), ?_, h2⟩
      rw [spread, h1]; rfl
theorem snoc_ind {α : Type} {P : List α → Prop} (h0 : P []) (h1 : ∀ l c, P l → P (l ++ [c])) : ∀ l, P l := fun l => by
  rw [← List.reverse_reverse l]
  induction l.reverse with
  | nil => exact h0
  | cons c m ih => rw [List.reverse_cons]; exact h1 _ _ ih
/-- Their tokens. -/
theorem spread_toks : ∀ (l : List (List UInt8 × List UInt8)) (T : List Tk) (p : Nat × Nat), All2 Piece l T → ∃ L, toksAt p (spread l) = .ok L ∧ L.map Prod.fst = T
  | [], [], p, _ => ⟨[], toksAt_none rfl, rfl⟩
  | (z, r) :: l, t :: T, p, h => by
    cases h with
    | cons h hr =>
      obtain ⟨h1, _, l0, h2, h3⟩ := h
      simp only at h1 h2 h3
      have st := spread_stop l T hr
      have ho : one (r ++ spread l) = .ok (t, r.length) := by
        have := one_stable h2 st
        rw [h3] at this; exact this
      have hb := one_bounds ho
      have hz : behind false (r ++ spread l) = 0 := by
        cases hx : r ++ spread l with
        | nil => rw [hx] at ho; simp [one] at ho
        | cons c y =>
          rw [hx] at ho
          rw [behind]
          have : ¬ c.toNat = 35 ∧ ¬ blank c = true := by
            rcases one_cases ho with ⟨hl, _⟩ | ⟨_, hd, _⟩ | ⟨_, _, hq, _⟩ | ⟨_, _, _, hm, _⟩
            · unfold letter at hl; simp only [decide_eq_true_eq] at hl; unfold blank; simp only [decide_eq_true_eq]; omega
            · unfold digit at hd; simp only [decide_eq_true_eq] at hd; unfold blank; simp only [decide_eq_true_eq]; omega
            · unfold blank; simp only [decide_eq_true_eq]; omega
            · have := mark_head hm
              unfold blank; simp only [decide_eq_true_eq]
              simp only [marks1, List.mem_cons, List.not_mem_nil, or_false] at this
              rcases this with rfl | rfl | rfl | rfl | rfl | rfl | rfl | rfl | rfl | rfl | rfl | rfl | rfl | rfl | rfl | rfl | rfl <;> decide
          rw [if_neg this.1, if_neg this.2]
      have hbe : behind false (spread ((z, r) :: l)) = z.length := by rw [spread, h1, hz]; rfl
      obtain ⟨L, i1, i2⟩ := spread_toks l T (further p ((spread ((z, r) :: l)).take (z.length + r.length))) hr
      refine ⟨_, toksAt_step (t := t) (n := r.length) (r := L) ?_ ?_ ?_, ?_⟩
      · rw [hbe, spread]; simp; intro h0; rw [h0] at hb; simp at hb
      · rw [hbe, spread, List.drop_left]; exact ho
      · rw [hbe]
        have : (spread ((z, r) :: l)).drop (z.length + r.length) = spread l := by
          rw [spread, ← List.append_assoc, List.drop_left' (by simp)]
        rw [this]; exact i1
      · rw [List.map_cons, i2]

/-- A number in tens. -/
def tens : Nat → Nat → List UInt8
  | 0, _ => []
  | f + 1, n => if n = 0 then [] else tens f (n / 10) ++ [UInt8.ofNat (48 + n % 10)]
def decimal (n : Nat) : List UInt8 := if n = 0 then [48] else tens 20 n
theorem tens_more : ∀ (f g n : Nat), n < 10 ^ f → n < 10 ^ g → tens f n = tens g n
  | 0, 0, _, _, _ => rfl
  | 0, g + 1, n, h, _ => by
    have : n = 0 := by simp at h; omega
    subst this; simp [tens]
  | f + 1, 0, n, _, h => by
    have : n = 0 := by simp at h; omega
    subst this; simp [tens]
  | f + 1, g + 1, n, hf, hg => by
    rw [tens, tens]
    split
    · rfl
    · rw [tens_more f g (n / 10) (by rw [Nat.pow_succ] at hf; omega) (by rw [Nat.pow_succ] at hg; omega)]
theorem tens_value : ∀ (f : Nat) (l : List UInt8), l.all digit = true → l.length ≤ f → (∀ c, l.head? = some c → c.toNat ≠ 48) → tens f (value l) = l := by
  intro f
  induction f with
  | zero => intro l _ h _; have : l = [] := List.eq_nil_of_length_eq_zero (by omega); subst this; rfl
  | succ f ih =>
    intro l hd hl hh
    rcases List.eq_nil_or_concat l with rfl | ⟨m, c, rfl⟩
    · simp [tens, value]
    · rw [List.concat_eq_append] at *
      rw [List.all_append, Bool.and_eq_true] at hd
      obtain ⟨hd1, hd2⟩ := hd
      simp only [List.all_cons, List.all_nil, Bool.and_true] at hd2
      unfold digit at hd2
      simp only [decide_eq_true_eq] at hd2
      rw [value_snoc]
      have hm : tens f (value m) = m := by
        refine ih m hd1 (by simp at hl; omega) fun x hx => hh x ?_
        cases m with
        | nil => simp at hx
        | cons y m => simpa using hx
      have hnz : ¬ (10 * value m + (c.toNat - 48) = 0) := by
        intro h0
        have hv : value m = 0 := by omega
        have hc : c.toNat = 48 := by omega
        rw [hv] at hm
        have hm0 : m = [] := by
          cases f with
          | zero => simpa [tens] using hm.symm
          | succ f => simpa [tens] using hm.symm
        subst hm0
        exact hh c rfl hc
      rw [tens, if_neg hnz]
      have e1 : (10 * value m + (c.toNat - 48)) / 10 = value m := by omega
      have e2 : 48 + (10 * value m + (c.toNat - 48)) % 10 = c.toNat := by omega
      rw [e1, e2, hm, UInt8.ofNat_toNat]
theorem value_zero : ∀ (l : List UInt8), l.all digit = true → value l = 0 → ∀ c ∈ l, c.toNat = 48 := by
  refine snoc_ind ?_ ?_
  · intro _ _ c hc; cases hc
  · intro l c ih hd hv x hx
    rw [List.all_append, Bool.and_eq_true] at hd
    obtain ⟨hd1, hd2⟩ := hd
    simp only [List.all_cons, List.all_nil, Bool.and_true] at hd2
    unfold digit at hd2
    simp only [decide_eq_true_eq] at hd2
    rw [value_snoc] at hv
    rcases List.mem_append.1 hx with h | h
    · exact ih hd1 (by omega) x h
    · simp at h; subst h; omega
theorem value_ge : ∀ (l : List UInt8), l.all digit = true → (∀ c, l.head? = some c → c.toNat ≠ 48) → l ≠ [] → 10 ^ (l.length - 1) ≤ value l := by
  refine snoc_ind ?_ ?_
  · intro _ _ h; exact absurd rfl h
  · intro l c ih hd hh _
    rw [List.all_append, Bool.and_eq_true] at hd
    obtain ⟨hd1, hd2⟩ := hd
    simp only [List.all_cons, List.all_nil, Bool.and_true] at hd2
    unfold digit at hd2
    simp only [decide_eq_true_eq] at hd2
    rw [value_snoc]
    cases l with
    | nil =>
      have := hh c rfl
      simp; omega
    | cons y m =>
      have := ih hd1 (fun x hx => hh x (by simpa using hx)) (by simp)
      simp only [List.length_append, List.length_cons, List.length_nil] at this ⊢
      have e : m.length + 1 + (0 + 1) - 1 = (m.length + 1 - 1) + 1 := by omega
      rw [e, Nat.pow_succ]; omega
/-- How a token is written. -/
def said (t : Tk) : List UInt8 := if t.kind = 4 then (quote t.s).getD [] else if t.kind = 3 then decimal t.n else t.s
theorem worth_decimal {l : List UInt8} {n : Nat} (h : worth l = some n) (hl : l ≠ []) : decimal n = l := by
  obtain ⟨h0, h1, h2, rfl⟩ := worth_some h
  unfold decimal
  by_cases hz : l.head? = some 48
  · have hl1 : l.length = 1 := by
      have := List.length_pos_iff.2 hl
      have : ¬ 1 < l.length := fun h => h0 ⟨hz, h⟩
      omega
    match l, hl1 with
    | [c], _ => simp at hz; subst hz; rfl
  · have hh : ∀ c, l.head? = some c → c.toNat ≠ 48 := fun c hc h48 => hz (by rw [hc]; congr 1; exact UInt8.toNat_inj.1 h48)
    have hge := value_ge l h1 hh hl
    have hv : value l ≠ 0 := by
      have : 0 < 10 ^ (l.length - 1) := Nat.pow_pos (by omega)
      omega
    rw [if_neg hv]
    refine tens_value 20 l h1 ?_ hh
    by_cases h20 : l.length ≤ 20
    · exact h20
    · have : 10 ^ 20 ≤ 10 ^ (l.length - 1) := Nat.pow_le_pow_right (by omega) (by omega)
      omega
theorem said_raw {l : List UInt8} {t : Tk} {k : Nat} (h : one l = .ok (t, k)) : said t = l.take k := by
  cases l with
  | nil => simp [one] at h
  | cons c l =>
    rcases one_cases h with ⟨hl, h32, rfl, rfl⟩ | ⟨hl, hd, n, hw, rfl, rfl⟩ | ⟨hl, hd, hq, s, j, hu, hs, rfl, rfl⟩ | ⟨hl, hd, hq, hm, rfl, rfl⟩
    · rw [run_take]; unfold said
      have hk : ∀ b : Bool, ¬ (if b = true then 1 else 2) = 4 ∧ ¬ (if b = true then 1 else 2) = 3 := by decide
      simp only
      rw [if_neg (hk _).1, if_neg (hk _).2]
    · rw [run_take]; unfold said
      simp only
      rw [if_neg (by omega), if_pos trivial]
      refine worth_decimal hw ?_
      unfold run; rw [List.takeWhile_cons, if_pos (digit_inner hd)]; simp
    · unfold said
      obtain ⟨u1, u2⟩ := unq_escs _ _ _ hu
      have hc : c = 34 := UInt8.toNat_inj.1 hq
      simp only [if_true]
      unfold quote
      rw [if_neg (by omega), u1, List.take_succ_cons, u2, hc]
      rfl
    · rw [mark_take]; unfold said
      simp
end Culp.Tx

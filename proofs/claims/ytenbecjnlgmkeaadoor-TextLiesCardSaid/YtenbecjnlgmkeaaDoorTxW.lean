/- What the statement TextLies says of a source, token by token; no program in sight. -/
import Derived.Test.YtenbecjnlgmkeaaDoorTxV
namespace Culp.Tx
set_option linter.unusedSimpArgs false
set_option linter.unusedVariables false

theorem spread_snoc (z r : List UInt8) : ∀ l : List (List UInt8 × List UInt8), spread (l ++ [(z, r)]) = spread l ++ (z ++ r)
  | [] => by simp [spread]
  | (a, b) :: l => by simp [spread, spread_snoc z r l]
theorem further_lim : ∀ (l : List UInt8) (p : Nat × Nat) (a : Nat), p.1 ≤ a + 1 ∧ p.2 ≤ a + 1 → (further p l).1 ≤ a + l.length + 1 ∧ (further p l).2 ≤ a + l.length + 1
  | [], p, a, h => by simpa [further] using h
  | c :: l, p, a, h => by
    have := further_lim l (step p c) (a + 1) (by unfold step; split <;> (simp; omega))
    unfold further at this ⊢
    rw [List.foldl_cons, List.length_cons]
    omega
/-- Where the law stands: so many tokens are seen, so many bytes; what was said and what was spread. -/
structure Lie (l : List UInt8) (L : List (Tk × (Nat × Nat))) (i a : Nat) (p : Nat × Nat) (S W : List UInt8) : Prop where
  il : i ≤ L.length
  al : a ≤ l.length
  pl : p.1 ≤ a + 1 ∧ p.2 ≤ a + 1
  rest : toksAt p (l.drop a) = .ok (L.drop i)
  saidS : ∃ X, S = spread X ∧ All2 Piece X ((L.take i).map Prod.fst)
  wideS : ∃ X, W = spread X ∧ All2 Piece X ((L.take i).map Prod.fst)
  sl : S.length ≤ 2 * a
  wl : W.length ≤ 12 * a
section
variable {l : List UInt8} {L : List (Tk × (Nat × Nat))} {i a : Nat} {p : Nat × Nat} {S W : List UInt8}
theorem Lie.start (h : toksAt (1, 1) l = .ok L) : Lie l L 0 0 (1, 1) [] [] :=
  ⟨Nat.zero_le _, Nat.zero_le _, by decide, by rw [List.drop_zero]; simpa using h, ⟨[], rfl, .nil⟩, ⟨[], rfl, .nil⟩, by simp, by simp⟩
/-- The next token, as it lies. -/
structure Nxt (l : List UInt8) (L : List (Tk × (Nat × Nat))) (i a : Nat) (p : Nat × Nat) (n : Nat) (t : Tk) (m : Nat) : Prop where
  beh : behind false (l.drop a) = n
  lt : a + n < l.length
  one : one (l.drop (a + n)) = .ok (t, m)
  pos : 1 ≤ m
  le : a + n + m ≤ l.length
  tok : L[i]? = some (t, further p ((l.drop a).take n))
theorem Lie.ahead (h : Lie l L i a p S W) (hi : i < L.length) : ∃ n t m, Nxt l L i a p n t m := by
  rcases toksAt_inv h.rest with ⟨_, h2⟩ | ⟨h1, t, m, r, h2, h3, h4⟩
  · have := congrArg List.length h2; simp at this; omega
  · have hb := one_bounds h2
    have hle := behind_le false (l.drop a)
    rw [List.length_drop] at h1 hle
    rw [List.drop_drop] at h2
    rw [List.length_drop, List.length_drop] at hb
    refine ⟨_, t, m, rfl, by omega, h2, hb.1, by omega, ?_⟩
    have := congrArg (fun l => l[0]?) h4
    simp only [List.getElem?_drop, List.getElem?_cons_zero, Nat.add_zero] at this
    exact this
theorem Lie.next {n m : Nat} {t : Tk} (h : Lie l L i a p S W) (hx : Nxt l L i a p n t m) {z : List UInt8} (hz : Clean z) (hz2 : ∃ c y, z = c :: y ∧ (blank c = true ∨ c.toNat = 35)) (hz3 : z.length ≤ 11) :
    Lie l L (i + 1) (a + n + m) (further (further p ((l.drop a).take n)) ((l.drop (a + n)).take m)) (S ++ [32] ++ said t) (W ++ (z ++ (l.drop (a + n)).take m)) := by
  obtain ⟨hb, hlt, ho, hm, hle, htok⟩ := hx
  have hi : i < L.length := (List.getElem?_eq_some_iff.1 htok).1
  have e2 : (l.drop a).take (n + m) = (l.drop a).take n ++ (l.drop (a + n)).take m := by rw [List.take_add, List.drop_drop]
  have e3 : (L.take (i + 1)).map Prod.fst = (L.take i).map Prod.fst ++ [t] := by
    rw [List.take_add_one, htok, List.map_append]; rfl
  have hr : ((l.drop (a + n)).take m).length = m := by rw [List.length_take, List.length_drop]; omega
  have hp : ∀ z, Clean z → (∃ c y, z = c :: y ∧ (blank c = true ∨ c.toNat = 35)) → Piece (z, (l.drop (a + n)).take m) t := fun z h1 h2 => by
    refine ⟨h1, h2, l.drop (a + n), ?_, ?_⟩
    · rw [hr]; exact ho
    · rw [hr]
  refine ⟨hi, hle, ?_, ?_, ?_, ?_, ?_, ?_⟩
  · rw [← further_app, ← e2]
    have := further_lim ((l.drop a).take (n + m)) p a h.pl
    rw [List.length_take, List.length_drop] at this
    omega
  · rcases toksAt_inv h.rest with ⟨h1, _⟩ | ⟨_, t', m', r, h2, h3, h4⟩
    · rw [List.length_drop] at h1; omega
    · rw [hb, List.drop_drop, ho] at h2
      injection h2 with h2
      injection h2 with h2 h5
      subst h2 h5
      rw [hb, List.drop_drop, e2, further_app] at h3
      have e5 : L.drop (i + 1) = r := by
        have := congrArg (List.drop 1) h4
        rw [List.drop_drop] at this
        simpa using this
      rw [e5, Nat.add_assoc]; exact h3
  · obtain ⟨X, rfl, hX⟩ := h.saidS
    refine ⟨X ++ [([32], (l.drop (a + n)).take m)], ?_, ?_⟩
    · rw [spread_snoc, said_raw ho, List.append_assoc]
    · rw [e3]; exact hX.snoc (hp _ (Clean.blank (by decide)) ⟨32, [], rfl, .inl (by decide)⟩)
  · obtain ⟨X, rfl, hX⟩ := h.wideS
    refine ⟨X ++ [(z, (l.drop (a + n)).take m)], ?_, ?_⟩
    · rw [spread_snoc]
    · rw [e3]; exact hX.snoc (hp _ hz hz2)
  · have := h.sl
    rw [said_raw ho, List.length_append, List.length_append, hr]
    simp; omega
  · have := h.wl
    rw [List.length_append, List.length_append, hr]
    omega
/-- One step of the law, in the program's own words. -/
structure Stp (l : List UInt8) (L : List (Tk × (Nat × Nat))) (i a : Nat) (p : Nat × Nat) (S W : List UInt8) (nx : Nat) (t : Tk) (to : Nat) (q q2 : Nat × Nat) : Prop where
  le1 : a ≤ nx
  lt : nx < to
  le2 : to ≤ l.length
  beh : a + behind false (l.drop a) = nx
  one : one (l.drop nx) = .ok (t, to - nx)
  e1 : further p ((l.drop a).take (nx - a)) = q
  e2 : further q ((l.drop nx).take (to - nx)) = q2
  ql : q.1 ≤ nx + 1 ∧ q.2 ≤ nx + 1
  tok : L[i]? = some (t, q)
  next : ∀ z, Clean z → (∃ c y, z = c :: y ∧ (blank c = true ∨ c.toNat = 35)) → z.length ≤ 11 → Lie l L (i + 1) to q2 (S ++ [32] ++ said t) (W ++ (z ++ (l.drop nx).take (to - nx)))
theorem Lie.stp (h : Lie l L i a p S W) (hi : i < L.length) : ∃ nx t to q q2, Stp l L i a p S W nx t to q q2 := by
  obtain ⟨n, t, m, hx⟩ := h.ahead hi
  have hx' := hx
  obtain ⟨hb, hlt, ho, hm, hle, htok⟩ := hx'
  have e1 : a + n + m - (a + n) = m := by omega
  have e2 : a + n - a = n := by omega
  refine ⟨a + n, t, a + n + m, _, _, ⟨by omega, by omega, hle, by rw [hb], by rw [e1]; exact ho, rfl, rfl, ?_, by rw [e2]; exact htok, fun z h1 h2 h3 => ?_⟩⟩
  · have := further_lim ((l.drop a).take n) p a h.pl
    rw [List.length_take, List.length_drop] at this
    rw [e2]; omega
  · rw [e1, e2]; exact h.next hx h1 h2 h3
theorem Lie.done (h : Lie l L L.length a p S W) (hl : l.length ≤ 4096) :
    a + behind false (l.drop a) = l.length ∧ (∃ Q, toks S = .ok Q ∧ Q.map Prod.fst = L.map Prod.fst) ∧ (∃ Q, toks W = .ok Q ∧ Q.map Prod.fst = L.map Prod.fst) := by
  have hal := h.al
  have hT : (L.take L.length).map Prod.fst = L.map Prod.fst := by rw [List.take_length]
  refine ⟨?_, ?_, ?_⟩
  · rcases toksAt_inv h.rest with ⟨h1, _⟩ | ⟨_, t, m, r, _, _, h4⟩
    · rw [List.length_drop] at h1; omega
    · simp at h4
  · obtain ⟨X, hS, hX⟩ := h.saidS
    rw [hT] at hX
    obtain ⟨Q, h1, h2⟩ := spread_toks X _ (1, 1) hX
    refine ⟨Q, ?_, h2⟩
    have := h.sl
    unfold toks
    rw [if_neg (by omega), hS]; exact h1
  · obtain ⟨X, hS, hX⟩ := h.wideS
    rw [hT] at hX
    obtain ⟨Q, h1, h2⟩ := spread_toks X _ (1, 1) hX
    refine ⟨Q, ?_, h2⟩
    have := h.wl
    unfold toks
    rw [if_neg (by omega), hS]; exact h1
end
/-- The blank that a number stands for. -/
def blankC (b : Nat) : UInt8 := if b / 4 % 4 = 0 then 32 else if b / 4 % 4 = 1 then 10 else if b / 4 % 4 = 2 then 9 else 13
def remark : List UInt8 := [35, 108, 101, 116, 32, 34, 10]
theorem blankC_blank (b : Nat) : blank (blankC b) = true := by
  unfold blankC
  split
  · decide
  split
  · decide
  split <;> decide
/-- What the law puts ahead of a token. -/
def aheadOf (bl : List UInt8) (i : Nat) : List UInt8 := match bl[i]? with
  | some b => List.replicate (b.toNat % 4 + 1) (blankC b.toNat) ++ (if 200 ≤ b.toNat then remark else [])
  | none => [32]
theorem ahead_ok (bl : List UInt8) (i : Nat) : Clean (aheadOf bl i) ∧ (∃ c y, aheadOf bl i = c :: y ∧ (blank c = true ∨ c.toNat = 35)) ∧ (aheadOf bl i).length ≤ 11 := by
  unfold aheadOf
  cases bl[i]? with
  | none => exact ⟨Clean.blank (by decide), ⟨32, [], rfl, .inl (by decide)⟩, by decide⟩
  | some b =>
    simp only
    refine ⟨?_, ?_, ?_⟩
    · refine (Clean.rep (blankC_blank _) _).app ?_
      split
      · exact Clean.remark
      · exact Clean.nil
    · refine ⟨blankC b.toNat, _, by rw [List.replicate_succ, List.cons_append], .inl (blankC_blank _)⟩
    · rw [List.length_append, List.length_replicate]
      split
      · simp [remark]; omega
      · simp; omega
end Culp.Tx


/- Plain: what is read, among other bytes: tokens that stand elsewhere; types in brackets. No program in sight. -/
import Derived.Test.YtnhdbjhdmdefmaaDoorZz
import Derived.Test.YtnhdbjhdmdefmaaDoorZq
import Derived.Test.YtnhdbjhdmdefmaaDoorYa
namespace Culp.Tx
set_option linter.unusedSimpArgs false
set_option linter.unusedVariables false
theorem toksF_move : ∀ (f : Nat) (p q : Nat × Nat) (l : List UInt8) (L : List (Tk × (Nat × Nat))), toksF f p l = .ok L → ∃ L2, toksF f q l = .ok L2 ∧ L2.map Prod.fst = L.map Prod.fst
  | 0, p, q, l, L, h => ⟨L, h, rfl⟩
  | f + 1, p, q, l, L, h => by
    rw [toksF] at h ⊢
    split at h
    · rename_i e
      rw [if_pos e]
      injection h with h; subst h
      exact ⟨[], rfl, rfl⟩
    · rename_i e
      rw [if_neg e]
      split at h
      · cases h
      · rename_i t n h1
        split at h
        · cases h
        · rename_i r h2
          injection h with h; subst h
          obtain ⟨L2, h3, h4⟩ := toksF_move f _ (further q (l.take (behind false l + n))) _ _ h2
          rw [h3]
          exact ⟨_, rfl, by simp [h4]⟩
theorem toksAt_move {p : Nat × Nat} (q : Nat × Nat) {l : List UInt8} {L : List (Tk × (Nat × Nat))} (h : toksAt p l = .ok L) : ∃ L2, toksAt q l = .ok L2 ∧ L2.map Prod.fst = L.map Prod.fst := toksF_move _ _ _ _ _ h
/-- One token, and what follows. -/
theorem toksAt_at {p q : Nat × Nat} {l z : List UInt8} {t : Tk} {k n : Nat} {M : List (Tk × (Nat × Nat))} (hb : behind false l = k) (ho : one (l.drop k) = .ok (t, n)) (hd : l.drop (k + n) = z) (hl : k < l.length) (hq : further p (l.take (k + n)) = q) (hM : toksAt q z = .ok M) : toksAt p l = .ok ((t, further p (l.take k)) :: M) := by
  subst hb hd hq
  exact toksAt_step (by omega) ho hM
theorem toks_inv {l : List UInt8} {L : List (Tk × (Nat × Nat))} (h : toks l = .ok L) : l.length ≤ 65536 ∧ toksAt (1, 1) l = .ok L := by
  unfold toks at h
  split at h
  · cases h
  · exact ⟨by omega, h⟩
theorem toks_mk {l : List UInt8} {L : List (Tk × (Nat × Nat))} (hl : l.length ≤ 65536) (h : toksAt (1, 1) l = .ok L) : toks l = .ok L := by
  unfold toks
  rw [if_neg (by omega)]; exact h
theorem one_open (z : List UInt8) : one (40 :: z) = .ok (⟨5, 0, [40]⟩, 1) := by
  cases z with
  | nil => rfl
  | cons d z =>
    have hm : mark (40 :: d :: z) = [40] := by
      rw [mark, if_neg (by simp [marks2]), if_pos (by decide)]
    rw [one, if_neg (by decide), if_neg (by decide), if_neg (by decide), hm, if_neg (by decide)]
    rfl
theorem one_colon {z : List UInt8} (h : z.head? ≠ some 61) : one (58 :: z) = .ok (⟨5, 0, [58]⟩, 1) := by
  cases z with
  | nil => rfl
  | cons d z =>
    have hd : d ≠ 61 := fun e => h (by rw [e]; rfl)
    have hm : mark (58 :: d :: z) = [58] := by
      rw [mark, if_neg (by simp [marks2, hd]), if_pos (by decide)]
    rw [one, if_neg (by decide), if_neg (by decide), if_neg (by decide), hm, if_neg (by decide)]
    rfl
/-- A source that begins with =. -/
theorem one_eq {z : List UInt8} {t : Tk} {n : Nat} (h : one (61 :: z) = .ok (t, n)) : t.kind = 5 ∧ t.s.head? = some 61 := by
  rcases one_cases h with ⟨h1, _⟩ | ⟨_, h1, _⟩ | ⟨_, _, h1, _⟩ | ⟨_, _, _, _, rfl, _⟩
  · exact absurd h1 (by decide)
  · exact absurd h1 (by decide)
  · exact absurd h1 (by decide)
  · refine ⟨rfl, ?_⟩
    show (mark (61 :: z)).head? = some 61
    cases z with
    | nil => rfl
    | cons d z =>
      rw [mark]
      split
      · rfl
      · rw [if_pos (by decide)]; rfl
end Culp.Tx
namespace Culp.Gr
set_option linter.unusedSimpArgs false
set_option linter.unusedVariables false
open Culp Culp.Tr
/-- What stands among other tokens. -/
theorem inside_mk {L L2 pre post post' : List Tok} {s : List UInt8} {p' : Nat × Nat} {a : Nat} (h : L2.map Prod.fst = L.map Prod.fst) (ha : pre.length = a) (hp : post = (⟨5, 0, s⟩, p') :: post') (hs : s = [41] ∨ s = [59]) : Inside L (pre ++ (L2 ++ post)) a := by
  have hlen : L2.length = L.length := by have := congrArg List.length h; simpa using this
  subst ha hp
  refine ⟨fun i t p hi => ?_, s, p', hs, ?_⟩
  · have hil := (List.getElem?_eq_some_iff.1 hi).1
    rw [List.getElem?_append_right (by omega), show pre.length + i - pre.length = i by omega, List.getElem?_append_left (by omega)]
    have h1 : (L2.map Prod.fst)[i]? = some t := by rw [h, List.getElem?_map, hi]; rfl
    rw [List.getElem?_map, Option.map_eq_some_iff] at h1
    obtain ⟨⟨t', p'⟩, h2, rfl⟩ := h1
    exact ⟨p', h2⟩
  · rw [List.getElem?_append_right (by omega), show pre.length + L.length - pre.length = L2.length by omega, List.getElem?_append_right (Nat.le_refl _), Nat.sub_self]
    rfl
/-- What is read is a type. -/
theorem ty_enc {L : List Tok} : ∀ (n : Nat) (b : Bool) (i : Nat) (r : List UInt8 × Nat), ty L n b i = .ok r → ∃ t : Ty, r.1 = t.enc := by
  intro n
  induction n with
  | zero => intro b i r h; cases b <;> cases h
  | succ n ih =>
    intro b i r h
    cases b with
    | true =>
      rw [ty] at h
      obtain ⟨r1, h1, h⟩ := bnd_inv h
      obtain ⟨t1, e1⟩ := ih _ _ _ h1
      split at h
      · obtain ⟨q, h2, h⟩ := bnd_inv h
        obtain ⟨t2, e2⟩ := ih _ _ _ h2
        injection h with h; subst h
        exact ⟨.fn t1 t2, by show 62 :: (r1.1 ++ q.1) = _; rw [e1, e2]; rfl⟩
      · injection h with h; subst h; exact ⟨t1, e1⟩
    | false =>
      rw [ty] at h
      split at h
      · rename_i e
        injection h with h; subst h
        simp only [Bool.and_eq_true, Bool.or_eq_true, beq_iff_eq] at e
        rcases e.2 with (e | e) | e
        · exact ⟨.int, by show (txt L i).take 1 = _; rw [e]; rfl⟩
        · exact ⟨.bool, by show (txt L i).take 1 = _; rw [e]; rfl⟩
        · exact ⟨.text, by show (txt L i).take 1 = _; rw [e]; rfl⟩
      split at h
      · obtain ⟨q, h2, h⟩ := bnd_inv h
        obtain ⟨t2, e2⟩ := ih _ _ _ h2
        injection h with h; subst h
        exact ⟨.box t2, by show 120 :: q.1 = _; rw [e2]; rfl⟩
      split at h
      · injection h with h; subst h; exact ⟨.dyn, rfl⟩
      split at h
      · obtain ⟨q, h2, h⟩ := bnd_inv h
        obtain ⟨t2, e2⟩ := ih _ _ _ h2
        obtain ⟨k, h3, h⟩ := bnd_inv h
        injection h with h; subst h
        exact ⟨.list t2, by show 108 :: q.1 = _; rw [e2]; rfl⟩
      split at h
      · obtain ⟨q, h2, h⟩ := bnd_inv h
        obtain ⟨t2, e2⟩ := ih _ _ _ h2
        split at h
        · obtain ⟨q', h4, h⟩ := bnd_inv h
          obtain ⟨t4, e4⟩ := ih _ _ _ h4
          obtain ⟨k, h3, h⟩ := bnd_inv h
          injection h with h; subst h
          exact ⟨.pair t2 t4, by show 44 :: (q.1 ++ q'.1) = _; rw [e2, e4]; rfl⟩
        · obtain ⟨k, h3, h⟩ := bnd_inv h
          injection h with h; subst h
          exact ⟨t2, e2⟩
      · cases h
/-- How a type begins. -/
theorem ty_first {L : List Tok} : ∀ (n : Nat) (b : Bool) (i : Nat) (r : List UInt8 × Nat), ty L n b i = .ok r → isK L 1 i = true ∨ txt L i = [63] ∨ txt L i = [91] ∨ txt L i = [40] := by
  intro n
  induction n with
  | zero => intro b i r h; cases b <;> cases h
  | succ n ih =>
    intro b i r h
    cases b with
    | true =>
      rw [ty] at h
      obtain ⟨r1, h1, h⟩ := bnd_inv h
      exact ih _ _ _ h1
    | false =>
      rw [ty] at h
      have key : ∀ (s : List UInt8), (isK L 5 i && txt L i == s) = true → txt L i = s := fun s hs => by
        simp only [Bool.and_eq_true, beq_iff_eq] at hs
        exact hs.2
      split at h
      · rename_i e; exact .inl (and_l e)
      split at h
      · rename_i e; exact .inl (and_l e)
      split at h
      · rename_i e; exact .inr (.inl (key _ e))
      split at h
      · rename_i e; exact .inr (.inr (.inl (key _ e)))
      split at h
      · rename_i e; exact .inr (.inr (.inr (key _ e)))
      · cases h
section
variable {l t : List UInt8} {L : List Tok}
/-- A type that was read whole. -/
theorem read_type (h : readAll (fun L => whole L 0 []) l = .ok t) : ∃ L, Tx.toks l = .ok L ∧ whole L 0 [] = .ok (t, L.length, []) ∧ t.length ≤ 64 := by
  unfold readAll at h
  split at h
  · cases h
  · rename_i L hL
    obtain ⟨k, hk, hn⟩ := fin_ok h
    have hb := whole_bound hk
    simp only at hb
    obtain rfl : k = L.length := by omega
    refine ⟨L, hL, hk, ?_⟩
    obtain ⟨q, h1, h2⟩ := bnd_inv hk
    injection h2 with h2
    have h3 : q.1 = t := congrArg Prod.fst h2
    have h4 : (if 64 < q.1.length then [] ++ [0] else []) = ([] : List Nat) := congrArg (fun x => x.2.2) h2
    rw [← h3]
    split at h4
    · cases h4
    · omega
theorem type_head (h : whole L 0 [] = .ok (t, L.length, [])) (hL : Tx.toks l = .ok L) : l.head? ≠ some 61 := fun he => by
  obtain ⟨q, h1, -⟩ := bnd_inv h
  cases l with
  | nil => cases he
  | cons c l =>
    injection he with he
    subst he
    have hb : Tx.behind false (61 :: l) = 0 := by rw [Tx.behind, if_neg (by decide), if_neg (by decide)]
    rcases Tx.toksAt_inv (Tx.toks_inv hL).2 with ⟨h2, _⟩ | ⟨h2, tk, n, r, h3, _, rfl⟩
    · rw [hb] at h2; cases h2
    · rw [hb, List.drop_zero] at h3
      obtain ⟨k1, k2⟩ := Tx.one_eq h3
      rcases ty_first _ _ _ _ h1 with h4 | h4 | h4 | h4
      · unfold isK at h4
        simp only [List.getElem?_cons_zero] at h4
        rw [k1] at h4; cases h4
      all_goals
        unfold txt at h4
        simp only [List.getElem?_cons_zero] at h4
        rw [h4] at k2
        cases k2
end
section
variable {L : List Tok} {i k n : Nat} {lg lg' : List Nat} {f : F} {t : List UInt8} {p : Nat × Nat}
/-- An atom that stands alone is an expression. -/
theorem expr_atom (h1 : isK L 1 i = false) (h2 : isM L [45] i = false) (h3 : isM L [33] i = false) (ha : px L (n + 1) .atom i lg = .ok (f, k, lg')) (h4 : isM L [40] k = false) (h5 : isM L sSet k = false) (h6 : isK L 5 k = false ∨ (ranked (txt L k)).2 = 0) : px L (n + 7) .expr i lg = .ok (f, k, lg') := by
  have hbl : ∀ (q : Nat) (m : Nat), px L (m + 1) (.binl q f) k lg' = .ok (f, k, lg') := fun q m => by
    rw [px, if_neg]
    intro h
    simp only [Bool.and_eq_true, beq_iff_eq] at h
    rcases h6 with h6 | h6
    · rw [h6] at h; cases h.1
    · rw [h6] at h; exact absurd h.2 (by omega)
  have hf : px L (n + 2) .factor i lg = .ok (f, k, lg') := by
    rw [px, if_neg (by rw [h2]; decide), if_neg (by rw [h3]; decide), ha, bnd_ok]
    rw [px, if_neg (by rw [h4]; decide)]
  have b3 : px L (n + 3) (.bin 3) i lg = .ok (f, k, lg') := by rw [px, if_pos rfl, hf]
  have b2 : px L (n + 4) (.bin 2) i lg = .ok (f, k, lg') := by rw [px, if_neg (by decide), b3, bnd_ok]; exact hbl _ _
  have b1 : px L (n + 5) (.bin 1) i lg = .ok (f, k, lg') := by rw [px, if_neg (by decide), b2, bnd_ok]; exact hbl _ _
  have b0 : px L (n + 6) (.bin 0) i lg = .ok (f, k, lg') := by rw [px, if_neg (by decide), b1, bnd_ok]; exact hbl _ _
  have hk : ∀ s, ¬ (isK L 1 i && txt L i == s) = true := fun s h => by rw [h1] at h; cases h
  rw [px, if_neg (hk _), if_neg (hk _), if_neg (hk _), if_neg (hk _), b0, bnd_ok]
  simp only
  rw [if_neg (by rw [h5]; decide)]
theorem isM_at {s : List UInt8} {tk : Tx.Tk} (h : L[i]? = some (tk, p)) : isM L s i = ((tk.kind == 1 || tk.kind == 5) && tk.s == s) := by
  unfold isM
  rw [h]
theorem isK_at {q : Nat} {tk : Tx.Tk} (h : L[i]? = some (tk, p)) : isK L q i = (tk.kind == q) := by
  unfold isK
  rw [h]
theorem txt_at {tk : Tx.Tk} (h : L[i]? = some (tk, p)) : txt L i = tk.s := by
  unfold txt
  rw [h]
theorem pl_at {tk : Tx.Tk} (h : L[i]? = some (tk, p)) : pl L i = p := by
  unfold pl
  rw [h]
/-- A type in brackets. -/
theorem ty_round {r : List UInt8 × Nat} {q p1 p2 : Nat × Nat} {tk : Tx.Tk} (h0 : L[i]? = some (⟨5, 0, [40]⟩, q)) (hr : ty L n true (i + 1) = .ok r) (h1 : L[r.2]? = some (⟨5, 0, [41]⟩, p1)) (h2 : L.length ≤ r.2 + 1 ∨ (L[r.2 + 1]? = some (tk, p2) ∧ tk.s ≠ sArrow)) : ty L (n + 2) true i = .ok (r.1, r.2 + 1) := by
  have hf : ty L (n + 1) false i = .ok (r.1, r.2 + 1) := by
    rw [ty, isK_at h0, isK_at h0, txt_at h0]
    rw [if_neg (by decide), if_neg (by decide), if_neg (by decide), if_neg (by decide), if_pos (by decide), hr, bnd_ok]
    rw [isM_at h1, if_neg (by decide)]
    unfold want
    rw [isM_at h1, if_pos (by decide), bnd_ok]
  rw [ty, hf, bnd_ok]
  rw [if_neg]
  rcases h2 with h2 | ⟨h2, h3⟩
  · rw [isM_end h2]; decide
  · rw [isM_at h2]
    simp only [Bool.and_eq_true, beq_iff_eq, not_and]
    exact fun _ => h3
end
end Culp.Gr

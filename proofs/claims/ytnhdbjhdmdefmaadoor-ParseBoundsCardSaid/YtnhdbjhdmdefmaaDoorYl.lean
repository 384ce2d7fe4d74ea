
/- Plain: what is read may be: every node of an expression that is read bears what its kind lets it bear. No program in sight. -/
import Derived.Test.YtnhdbjhdmdefmaaDoorYi
namespace Culp.Tx
set_option linter.unusedSimpArgs false
set_option linter.unusedVariables false
/-- A token bears what its kind lets it bear. -/
def TkOk (t : Tk) : Prop := (t.kind = 2 → isName t.s = true) ∧ (t.kind = 4 → (quote t.s).isSome = true)
theorem one_tkOk {l : List UInt8} {t : Tk} {k : Nat} (h : one l = .ok (t, k)) : TkOk t := by
  cases l with
  | nil => cases h
  | cons c l =>
    rcases one_cases h with ⟨h1, h2, rfl, _⟩ | ⟨_, _, n, _, rfl, _⟩ | ⟨_, _, _, s, j, hu, h5, rfl, _⟩ | ⟨_, _, _, _, rfl, _⟩
    · refine ⟨fun hk => ?_, fun hk => ?_⟩
      · have hw : isWord (run (c :: l)) = false := by
          cases hb : isWord (run (c :: l)) with
          | false => rfl
          | true => simp only [hb, if_true] at hk; exact absurd hk (by decide)
        have hi : inner c = true := by unfold inner; rw [h1]; rfl
        have hr : run (c :: l) = c :: run l := by unfold run; rw [List.takeWhile_cons, if_pos hi]
        show isName (run (c :: l)) = true
        unfold isName
        rw [hw, hr]
        rw [hr] at h2
        have hall : (c :: run l).all inner = true := by
          rw [List.all_cons, hi, Bool.true_and]
          unfold run
          exact List.all_takeWhile
        rw [hall]
        simp [h1]
        simpa using h2
      · exfalso
        revert hk
        show (if isWord (run (c :: l)) = true then 1 else 2) = 4 → False
        split <;> decide
    · exact ⟨fun hk => by simp at hk, fun hk => by simp at hk⟩
    · refine ⟨fun hk => by simp at hk, fun _ => ?_⟩
      show (quote s).isSome = true
      unfold quote
      rw [if_neg (by omega), (unq_escs l s j hu).1]
      rfl
    · exact ⟨fun hk => by simp at hk, fun hk => by simp at hk⟩
theorem toksF_tkOk : ∀ (f : Nat) (p : Nat × Nat) (l : List UInt8) (L : List (Tk × (Nat × Nat))), toksF f p l = .ok L → ∀ t ∈ L, TkOk t.1
  | 0, p, l, L, h => by simp only [toksF] at h; injection h with h; subst h; intro t ht; cases ht
  | f + 1, p, l, L, h => by
    rw [toksF] at h
    split at h
    · injection h with h; subst h; intro t ht; cases ht
    · split at h
      · cases h
      · rename_i t n h1
        split at h
        · cases h
        · rename_i r h2
          injection h with h; subst h
          intro u hu
          rcases List.mem_cons.1 hu with rfl | hu
          · exact one_tkOk h1
          · exact toksF_tkOk f _ _ _ h2 u hu
theorem toks_tkOk {l : List UInt8} {L : List (Tk × (Nat × Nat))} (h : toks l = .ok L) : ∀ t ∈ L, TkOk t.1 := toksF_tkOk _ _ _ _ (toks_inv h).2
end Culp.Tx
namespace Culp.Gr
set_option linter.unusedSimpArgs false
set_option linter.unusedVariables false
open Culp Culp.Tr
/-- Every node's kids are there, and every node may be. -/
def Fine (f : F) : Prop := f.Ok ∧ ∀ x ∈ f.flat, may x = true
theorem fine_nil : Fine .nil := ⟨trivial, fun x hx => by cases hx⟩
theorem ok_cat : ∀ f g : F, f.Ok → g.Ok → (cat f g).Ok
  | .nil, g, _, hg => hg
  | .cons x ks r, g, hf, hg => ⟨hf.1, hf.2.1, ok_cat r g hf.2.2 hg⟩
theorem fine_cat {f g : F} (hf : Fine f) (hg : Fine g) : Fine (cat f g) := by
  refine ⟨ok_cat f g hf.1 hg.1, fun x hx => ?_⟩
  rw [cat_flat, List.mem_append] at hx
  rcases hx with hx | hx
  · exact hf.2 x hx
  · exact hg.2 x hx
theorem fine_mk {kind n : Nat} {p : Nat × Nat} {ks : F} {s t u : List UInt8} (hk : Fine ks) (hm : may (mkNd kind p ks.cnt n s t u) = true) : Fine (mk kind p ks n s t u) := by
  refine ⟨⟨rfl, hk.1, trivial⟩, fun x hx => ?_⟩
  have hx' : x ∈ mkNd kind p ks.cnt n s t u :: (ks.flat ++ []) := hx
  rw [List.append_nil, List.mem_cons] at hx'
  rcases hx' with rfl | hx'
  · exact hm
  · exact hk.2 x hx'
theorem one_cnt {f : F} (h : One f) : f.cnt = 1 := by
  obtain ⟨x, ks, rfl⟩ := h
  rfl
theorem may_of {kind n c : Nat} {p : Nat × Nat} {s t u : List UInt8} (h30 : kind ≠ 30) (ha : arit (kind : Nat) = -1 ∨ arit (kind : Nat) = (c : Nat)) (hn : if kind = 1 then True else if kind = 3 then n = 0 ∨ n = 1 else n = 0) (hs : sOk (kind : Nat) s = true) (ht : tOk (kind : Nat) t = true) (hu : uOk (kind : Nat) u = true) : may (mkNd kind p c n s t u) = true := by
  unfold may
  have e1 : kOk (mkNd kind p c n s t u) = true := by
    unfold kOk mkNd
    simp only [Bool.and_eq_true, Bool.or_eq_true, decide_eq_true_eq]
    exact ⟨⟨by omega, by omega⟩, ha⟩
  have e2 : nOk (mkNd kind p c n s t u) = true := by
    unfold nOk mkNd
    simp only
    by_cases k1 : kind = 1
    · rw [if_pos (by omega)]; simp
    · rw [if_neg k1] at hn
      rw [if_neg (by omega)]
      by_cases k3 : kind = 3
      · rw [if_pos k3] at hn
        rw [if_pos (by omega)]
        simp only [Bool.or_eq_true, decide_eq_true_eq]
        omega
      · rw [if_neg k3] at hn
        rw [if_neg (by omega)]
        simp only [decide_eq_true_eq]
        omega
  rw [e1, e2]
  have e3 : sOk (mkNd kind p c n s t u).kind (mkNd kind p c n s t u).s.data.toList = true := hs
  have e4 : tOk (mkNd kind p c n s t u).kind (mkNd kind p c n s t u).t.data.toList = true := ht
  have e5 : uOk (mkNd kind p c n s t u).kind (mkNd kind p c n s t u).u.data.toList = true := hu
  rw [e3, e4, e5]
  rfl
/-- A node that bears nothing but kids. -/
theorem may_bare {kind c : Nat} {p : Nat × Nat} (h : arit (kind : Nat) = -1 ∨ arit (kind : Nat) = (c : Nat)) (hk : 7 ≤ kind ∧ kind ≠ 8 ∧ kind ≠ 29 ∧ kind ≠ 30) : may (mkNd kind p c 0 [] [] []) = true := by
  refine may_of hk.2.2.2 h (by rw [if_neg (by omega), if_neg (by omega)]) ?_ ?_ ?_
  · unfold sOk
    rw [if_neg (by omega), if_neg (by omega), if_neg (by omega)]; rfl
  · unfold tOk
    rw [if_neg (by omega), if_neg (by omega)]; rfl
  · unfold uOk
    rw [if_neg (by omega)]; rfl
section
variable {L : List Tok} (hT : ∀ t ∈ L, Tx.TkOk t.1)
include hT
theorem name_ok {i k : Nat} (h : name L i = .ok k) : Tx.isName (txt L i) = true := by
  have hi := (name_inv h).2
  obtain ⟨⟨t, p⟩, hx⟩ : ∃ x, L[i]? = some x := ⟨_, List.getElem?_eq_getElem hi⟩
  unfold name at h
  split at h
  · rename_i e
    rw [isK_at hx, beq_iff_eq] at e
    rw [txt_at hx]
    exact (hT _ (List.mem_of_getElem? hx)).1 e
  · cases h
theorem isK_name {i : Nat} (h : isK L 2 i = true) : Tx.isName (txt L i) = true := name_ok hT (k := i + 1) (by unfold name; rw [if_pos h])
theorem isK_text {i : Nat} (h : isK L 4 i = true) : (Tx.quote (txt L i)).isSome = true := by
  have hi := isK_lt h
  obtain ⟨⟨t, p⟩, hx⟩ : ∃ x, L[i]? = some x := ⟨_, List.getElem?_eq_getElem hi⟩
  rw [isK_at hx, beq_iff_eq] at h
  rw [txt_at hx]
  exact (hT _ (List.mem_of_getElem? hx)).2 h
end
section
variable {L : List Tok} {i : Nat} {lg : List Nat}
theorem whole_lg {r : List UInt8 × Nat × List Nat} (h : whole L i lg = .ok r) : (∃ d, r.2.2 = lg ++ d) ∧ (r.2.2 = [] → isTy r.1 = true) := by
  obtain ⟨q, h1, h⟩ := bnd_inv h
  injection h with h; subst h
  simp only
  split
  · exact ⟨⟨[i], rfl⟩, fun e => by simp at e⟩
  · rename_i hq
    obtain ⟨t, ht⟩ := ty_enc _ _ _ _ h1
    exact ⟨⟨[], by simp⟩, fun _ => by rw [ht]; exact isTy_enc t (by rw [← ht]; omega)⟩
theorem note_lg {r : List UInt8 × Nat × List Nat} (h : note L i lg = .ok r) : (∃ d, r.2.2 = lg ++ d) ∧ (r.2.2 = [] → Tr.note r.1 = true) := by
  unfold note at h
  split at h
  · obtain ⟨h1, h2⟩ := whole_lg h
    exact ⟨h1, fun e => by unfold Tr.note; rw [h2 e, Bool.or_true]⟩
  · injection h with h; subst h
    exact ⟨⟨[], by simp⟩, fun _ => rfl⟩
theorem param_lg (hT : ∀ t ∈ L, Tx.TkOk t.1) {r : (List UInt8 × List UInt8 × List UInt8) × Nat × List Nat} (h : param L i lg = .ok r) : (∃ d, r.2.2 = lg ++ d) ∧ (r.2.2 = [] → Tx.isName r.1.1 = true ∧ Tr.note r.1.2.1 = true ∧ Tr.note r.1.2.2 = true) := by
  obtain ⟨a, h1, h⟩ := bnd_inv h
  obtain ⟨b, h2, h⟩ := bnd_inv h
  obtain ⟨q, h3, h⟩ := bnd_inv h
  obtain ⟨c, h4, h⟩ := bnd_inv h
  obtain ⟨s, h5, h⟩ := bnd_inv h
  obtain ⟨d, h6, h⟩ := bnd_inv h
  injection h with h; subst h
  obtain ⟨⟨d1, e1⟩, n1⟩ := note_lg h3
  obtain ⟨⟨d2, e2⟩, n2⟩ := note_lg h5
  refine ⟨⟨d1 ++ d2, by show s.2.2 = _; rw [e2, e1, List.append_assoc]⟩, fun e => ?_⟩
  have e : s.2.2 = [] := e
  have eq2 : q.2.2 = [] := by rw [e2] at e; exact (List.append_eq_nil_iff.1 e).1
  exact ⟨name_ok hT h2, n1 eq2, n2 e⟩
end
theorem twoOk_of {a b : List UInt8} (ha : Tx.isName a = true) (hb : Tx.isName b = true) : twoOk (a ++ 32 :: b) = true := by
  have h32 : ∀ c : UInt8, Tx.inner c = true → c.toNat ≠ 32 := fun c hc e => by
    unfold Tx.inner Tx.letter Tx.digit at hc
    simp only [Bool.or_eq_true, decide_eq_true_eq] at hc
    omega
  have hall : ∀ c ∈ a, c.toNat ≠ 32 := by
    unfold Tx.isName at ha
    simp only [Bool.and_eq_true, List.all_eq_true] at ha
    exact fun c hc => h32 c (ha.2 c hc)
  have h2 : ∀ (l : List UInt8), (∀ c ∈ l, c.toNat ≠ 32) → two (l ++ 32 :: b) = some (l, b) := by
    intro l
    induction l with
    | nil => intro _; rw [List.nil_append, two, if_pos (by decide)]
    | cons c l ih =>
      intro hl
      rw [List.cons_append, two, if_neg (hl c List.mem_cons_self), ih (fun c hc => hl c (List.mem_cons_of_mem _ hc))]
      rfl
  unfold twoOk
  rw [h2 a hall]
  simp only [ha, hb, Bool.and_self]
theorem ranked_two {s : List UInt8} {q : Nat} (h : (ranked s).2 = q + 1) : arit ((ranked s).1 : Nat) = 2 ∧ 10 ≤ (ranked s).1 ∧ (ranked s).1 ≤ 15 := by
  unfold ranked at h ⊢
  split at h
  · rename_i e; rw [if_pos e]; decide
  rename_i e1; rw [if_neg e1]
  split at h
  · rename_i e; rw [if_pos e]; decide
  rename_i e2; rw [if_neg e2]
  split at h
  · rename_i e; rw [if_pos e]; decide
  rename_i e3; rw [if_neg e3]
  split at h
  · rename_i e; rw [if_pos e]; decide
  rename_i e4; rw [if_neg e4]
  split at h
  · rename_i e; rw [if_pos e]; decide
  rename_i e5; rw [if_neg e5]
  split at h
  · rename_i e; rw [if_pos e]; decide
  · cases h
theorem applied_one {s : List UInt8} (h0 : applied s ≠ 0) (h25 : applied s ≠ 25) : arit (applied s : Nat) = 1 ∧ 7 ≤ applied s ∧ applied s ≠ 8 ∧ applied s ≠ 29 ∧ applied s ≠ 30 := by
  unfold applied at h0 h25 ⊢
  split
  · decide
  split
  · decide
  split
  · decide
  split
  · decide
  split
  · decide
  split
  · decide
  split
  · decide
  split
  · rename_i a1 a2 a3 a4 a5 a6 a7 a8
    rw [if_neg a1, if_neg a2, if_neg a3, if_neg a4, if_neg a5, if_neg a6, if_neg a7, if_pos a8] at h25
    exact absurd rfl h25
  · rename_i a1 a2 a3 a4 a5 a6 a7 a8
    rw [if_neg a1, if_neg a2, if_neg a3, if_neg a4, if_neg a5, if_neg a6, if_neg a7, if_neg a8] at h0
    exact absurd rfl h0
theorem lg_trans {a b c : List Nat} (h1 : ∃ d, b = a ++ d) (h2 : ∃ d, c = b ++ d) : ∃ d, c = a ++ d := by
  obtain ⟨d1, rfl⟩ := h1
  obtain ⟨d2, rfl⟩ := h2
  exact ⟨d1 ++ d2, by rw [List.append_assoc]⟩
theorem lg_nil {b c : List Nat} (h : ∃ d, c = b ++ d) (hc : c = []) : b = [] := by
  obtain ⟨d, rfl⟩ := h
  exact (List.append_eq_nil_iff.1 hc).1
def NT.part : NT → Prop
  | .binl _ l => One l
  | .calls l => One l
  | _ => True
theorem cnt_two {f g : F} (hf : One f) (hg : One g) : (cat f g).cnt = 2 := by rw [cat_cnt, one_cnt hf, one_cnt hg]
theorem px_one {L : List Tok} {n i : Nat} {nt : NT} {lg : List Nat} {r : F × Nat × List Nat} (h : px L n nt i lg = .ok r) (hi : i ≤ L.length) (h1 : nt.one) : One r.1 := (px_bound _ _ _ _ _ h hi).2.2 h1
theorem px_le {L : List Tok} {n i : Nat} {nt : NT} {lg : List Nat} {r : F × Nat × List Nat} (h : px L n nt i lg = .ok r) (hi : i ≤ L.length) : r.2.1 ≤ L.length := (px_bound _ _ _ _ _ h hi).1
set_option maxHeartbeats 3200000 in
theorem px_fine {L : List Tok} (hT : ∀ t ∈ L, Tx.TkOk t.1) : ∀ (n : Nat) (nt : NT) (i : Nat) (lg : List Nat) (r : F × Nat × List Nat), px L n nt i lg = .ok r → i ≤ L.length → nt.part → (∃ d, r.2.2 = lg ++ d) ∧ (r.2.2 = [] → Fine nt.acc → Fine r.1) := by
  intro n
  induction n with
  | zero => intro nt i lg r h; cases nt <;> cases h
  | succ n ih =>
    intro nt i lg r h hi hp
    cases nt with
    | expr =>
      rw [px] at h
      split at h
      · rename_i e0
        have hlt := isK_lt (and_l e0)
        obtain ⟨q, h1, h⟩ := bnd_inv h
        obtain ⟨e, h3, h⟩ := bnd_inv h
        have b1 := param_bound h1
        obtain ⟨l1, n1⟩ := param_lg hT h1
        obtain ⟨l2, f2⟩ := ih .expr _ _ _ h3 (by omega) trivial
        have o2 := px_one h3 (by omega) trivial
        injection h with h; subst h
        refine ⟨lg_trans l1 l2, fun hz _ => ?_⟩
        obtain ⟨m1, m2, m3⟩ := n1 (lg_nil l2 hz)
        refine fine_mk (f2 hz fine_nil) (may_of (by decide) (.inr (by rw [one_cnt o2]; rfl)) (by decide) ?_ ?_ ?_)
        · unfold sOk; rw [if_neg (by decide), if_pos (by decide)]; exact m1
        · unfold tOk; rw [if_pos (by decide)]; exact m2
        · unfold uOk; rw [if_pos (by decide)]; exact m3
      split at h
      · rename_i e0
        have hlt := isK_lt (and_l e0)
        obtain ⟨a, h0, h⟩ := bnd_inv h
        obtain ⟨q, h1, h⟩ := bnd_inv h
        obtain ⟨e, h3, h⟩ := bnd_inv h
        have b1 := param_bound h1
        obtain ⟨l1, n1⟩ := param_lg hT h1
        obtain ⟨l2, f2⟩ := ih .expr _ _ _ h3 (by omega) trivial
        have o2 := px_one h3 (by omega) trivial
        injection h with h; subst h
        refine ⟨lg_trans l1 l2, fun hz _ => ?_⟩
        obtain ⟨m1, m2, m3⟩ := n1 (lg_nil l2 hz)
        refine fine_mk (f2 hz fine_nil) (may_of (by decide) (.inr (by rw [one_cnt o2]; rfl)) (by decide) ?_ ?_ ?_)
        · unfold sOk; rw [if_neg (by decide), if_neg (by decide), if_pos (by decide)]; exact twoOk_of (name_ok hT h0) m1
        · unfold tOk; rw [if_pos (by decide)]; exact m2
        · unfold uOk; rw [if_pos (by decide)]; exact m3
      split at h
      · rename_i e0
        have hlt := isK_lt (and_l e0)
        obtain ⟨a, h0, h⟩ := bnd_inv h
        obtain ⟨rfl, b0⟩ := name_inv h0
        obtain ⟨q, h1, h⟩ := bnd_inv h
        have b1 := note_bound h1 (by omega)
        obtain ⟨b, h2, h⟩ := bnd_inv h
        obtain ⟨rfl, b2⟩ := want_inv h2
        obtain ⟨e, h3, h⟩ := bnd_inv h
        have b3 := px_le h3 (by omega)
        obtain ⟨c, h4, h⟩ := bnd_inv h
        obtain ⟨rfl, b4⟩ := want_inv h4
        obtain ⟨g, h5, h⟩ := bnd_inv h
        obtain ⟨l1, n1⟩ := note_lg h1
        obtain ⟨l2, f2⟩ := ih .expr _ _ _ h3 (by omega) trivial
        obtain ⟨l3, f3⟩ := ih .expr _ _ _ h5 (by omega) trivial
        have o2 := px_one h3 (by omega) trivial
        have o3 := px_one h5 (by omega) trivial
        injection h with h; subst h
        refine ⟨lg_trans l1 (lg_trans l2 l3), fun hz _ => ?_⟩
        have z2 := lg_nil l3 hz
        refine fine_mk (fine_cat (f2 z2 fine_nil) (f3 hz fine_nil)) (may_of (by decide) (.inr (by rw [cnt_two o2 o3]; rfl)) (by decide) ?_ ?_ ?_)
        · unfold sOk; rw [if_neg (by decide), if_pos (by decide)]; exact name_ok hT h0
        · unfold tOk; rw [if_pos (by decide)]; exact n1 (lg_nil l2 z2)
        · unfold uOk; rw [if_neg (by decide)]; rfl
      split at h
      · rename_i e0
        have hlt := isK_lt (and_l e0)
        obtain ⟨e, h3, h⟩ := bnd_inv h
        have b3 := px_le h3 (by omega)
        obtain ⟨c, h4, h⟩ := bnd_inv h
        obtain ⟨rfl, b4⟩ := want_inv h4
        obtain ⟨g, h5, h⟩ := bnd_inv h
        have b5 := px_le h5 (by omega)
        obtain ⟨c, h6, h⟩ := bnd_inv h
        obtain ⟨rfl, b6⟩ := want_inv h6
        obtain ⟨k, h7, h⟩ := bnd_inv h
        obtain ⟨l2, f2⟩ := ih .expr _ _ _ h3 (by omega) trivial
        obtain ⟨l3, f3⟩ := ih .expr _ _ _ h5 (by omega) trivial
        obtain ⟨l4, f4⟩ := ih .expr _ _ _ h7 (by omega) trivial
        have o2 := px_one h3 (by omega) trivial
        have o3 := px_one h5 (by omega) trivial
        have o4 := px_one h7 (by omega) trivial
        injection h with h; subst h
        refine ⟨lg_trans l2 (lg_trans l3 l4), fun hz _ => ?_⟩
        have z3 := lg_nil l4 hz
        refine fine_mk (fine_cat (f2 (lg_nil l3 z3) fine_nil) (fine_cat (f3 z3 fine_nil) (f4 hz fine_nil))) (may_bare (.inr (by rw [cat_cnt, cnt_two o3 o4, one_cnt o2]; rfl)) (by decide))
      · obtain ⟨e, h3, h⟩ := bnd_inv h
        have b3 := px_le h3 hi
        obtain ⟨l2, f2⟩ := ih (.bin 0) _ _ _ h3 hi trivial
        have o2 := px_one h3 hi trivial
        split at h
        · rename_i e0
          have hlt := isM_lt e0
          obtain ⟨g, h5, h⟩ := bnd_inv h
          obtain ⟨l3, f3⟩ := ih .expr _ _ _ h5 (by omega) trivial
          have o3 := px_one h5 (by omega) trivial
          injection h with h; subst h
          exact ⟨lg_trans l2 l3, fun hz _ => fine_mk (fine_cat (f2 (lg_nil l3 hz) fine_nil) (f3 hz fine_nil)) (may_bare (.inr (by rw [cnt_two o2 o3]; rfl)) (by decide))⟩
        · injection h with h; subst h
          exact ⟨l2, fun hz _ => f2 hz fine_nil⟩
    | bin q =>
      rw [px] at h
      split at h
      · obtain ⟨l2, f2⟩ := ih .factor _ _ _ h hi trivial
        exact ⟨l2, fun hz _ => f2 hz fine_nil⟩
      · obtain ⟨e, h3, h⟩ := bnd_inv h
        obtain ⟨l2, f2⟩ := ih (.bin (q + 1)) _ _ _ h3 hi trivial
        have o2 := px_one h3 hi trivial
        obtain ⟨l3, f3⟩ := ih (.binl q e.1) _ _ _ h (px_le h3 hi) o2
        exact ⟨lg_trans l2 l3, fun hz _ => f3 hz (f2 (lg_nil l3 hz) fine_nil)⟩
    | binl q l =>
      rw [px] at h
      split at h
      · rename_i e0
        have hlt := isK_lt (and_l e0)
        obtain ⟨e, h3, h⟩ := bnd_inv h
        obtain ⟨l2, f2⟩ := ih (.bin (q + 1)) _ _ _ h3 (by omega) trivial
        have o2 := px_one h3 (by omega) trivial
        have hp : One l := hp
        simp only [Bool.and_eq_true, beq_iff_eq] at e0
        obtain ⟨r1, r2, r3⟩ := ranked_two e0.2
        have hm : e.2.2 = [] → Fine l → Fine (mk (ranked (txt L i)).1 (pl L i) (cat l e.1) 0 [] [] []) := fun hz hl => fine_mk (fine_cat hl (f2 hz fine_nil)) (may_bare (.inr (by rw [cnt_two hp o2]; exact r1)) (by omega))
        split at h
        · injection h with h; subst h
          exact ⟨l2, fun hz hl => hm hz hl⟩
        · obtain ⟨l3, f3⟩ := ih _ _ _ _ h (px_le h3 (by omega)) (mk_one ..)
          exact ⟨lg_trans l2 l3, fun hz hl => f3 hz (hm (lg_nil l3 hz) hl)⟩
      · injection h with h; subst h
        exact ⟨⟨[], by simp⟩, fun _ hl => hl⟩
    | factor =>
      rw [px] at h
      split at h
      · rename_i e0
        have hlt := isM_lt e0
        obtain ⟨e, h3, h⟩ := bnd_inv h
        obtain ⟨l2, f2⟩ := ih .factor _ _ _ h3 (by omega) trivial
        have o2 := px_one h3 (by omega) trivial
        injection h with h; subst h
        exact ⟨l2, fun hz _ => fine_mk (f2 hz fine_nil) (may_bare (.inr (by rw [one_cnt o2]; rfl)) (by decide))⟩
      split at h
      · rename_i e0
        have hlt := isM_lt e0
        obtain ⟨e, h3, h⟩ := bnd_inv h
        obtain ⟨l2, f2⟩ := ih .factor _ _ _ h3 (by omega) trivial
        have o2 := px_one h3 (by omega) trivial
        injection h with h; subst h
        exact ⟨l2, fun hz _ => fine_mk (f2 hz fine_nil) (may_bare (.inr (by rw [one_cnt o2]; rfl)) (by decide))⟩
      · obtain ⟨e, h3, h⟩ := bnd_inv h
        obtain ⟨l2, f2⟩ := ih .atom _ _ _ h3 hi trivial
        have o2 := px_one h3 hi trivial
        obtain ⟨l3, f3⟩ := ih (.calls e.1) _ _ _ h (px_le h3 hi) o2
        exact ⟨lg_trans l2 l3, fun hz _ => f3 hz (f2 (lg_nil l3 hz) fine_nil)⟩
    | calls l =>
      rw [px] at h
      split at h
      · rename_i e0
        have hlt := isM_lt e0
        obtain ⟨e, h3, h⟩ := bnd_inv h
        have b3 := px_le h3 (by omega)
        obtain ⟨a, h5, h⟩ := bnd_inv h
        obtain ⟨rfl, b5⟩ := want_inv h5
        obtain ⟨l2, f2⟩ := ih .expr _ _ _ h3 (by omega) trivial
        have o2 := px_one h3 (by omega) trivial
        have hp : One l := hp
        obtain ⟨l3, f3⟩ := ih _ _ _ _ h (by omega) (mk_one ..)
        exact ⟨lg_trans l2 l3, fun hz hl => f3 hz (fine_mk (fine_cat hl (f2 (lg_nil l3 hz) fine_nil)) (may_bare (.inr (by rw [cnt_two hp o2]; rfl)) (by decide)))⟩
      · injection h with h; subst h
        exact ⟨⟨[], by simp⟩, fun _ hl => hl⟩
    | atom =>
      rw [px] at h
      split at h
      · injection h with h; subst h
        refine ⟨⟨[], by simp⟩, fun _ _ => fine_mk fine_nil (may_of (by decide) (.inr rfl) trivial ?_ ?_ ?_)⟩
        · unfold sOk; rw [if_neg (by decide), if_neg (by decide), if_neg (by decide)]; rfl
        · unfold tOk; rw [if_neg (by decide), if_neg (by decide)]; rfl
        · unfold uOk; rw [if_neg (by decide)]; rfl
      split at h
      · rename_i e0
        injection h with h; subst h
        refine ⟨⟨[], by simp⟩, fun _ _ => fine_mk fine_nil (may_of (by decide) (.inr rfl) (by decide) ?_ ?_ ?_)⟩
        · unfold sOk; rw [if_pos (by decide)]; exact isK_text hT e0
        · unfold tOk; rw [if_neg (by decide), if_neg (by decide)]; rfl
        · unfold uOk; rw [if_neg (by decide)]; rfl
      split at h
      · rename_i e0
        injection h with h; subst h
        refine ⟨⟨[], by simp⟩, fun _ _ => fine_mk fine_nil (may_of (by decide) (.inr rfl) (by decide) ?_ ?_ ?_)⟩
        · unfold sOk; rw [if_neg (by decide), if_pos (by decide)]; exact isK_name hT e0
        · unfold tOk; rw [if_neg (by decide), if_neg (by decide)]; rfl
        · unfold uOk; rw [if_neg (by decide)]; rfl
      split at h
      · rename_i e0
        have hlt := isK_lt e0
        split at h
        · injection h with h; subst h
          refine ⟨⟨[], by simp⟩, fun _ _ => fine_mk fine_nil (may_of (by decide) (.inr rfl) (by decide) ?_ ?_ ?_)⟩
          · unfold sOk; rw [if_neg (by decide), if_neg (by decide), if_neg (by decide)]; rfl
          · unfold tOk; rw [if_neg (by decide), if_neg (by decide)]; rfl
          · unfold uOk; rw [if_neg (by decide)]; rfl
        split at h
        · injection h with h; subst h
          refine ⟨⟨[], by simp⟩, fun _ _ => fine_mk fine_nil (may_of (by decide) (.inr rfl) (by decide) ?_ ?_ ?_)⟩
          · unfold sOk; rw [if_neg (by decide), if_neg (by decide), if_neg (by decide)]; rfl
          · unfold tOk; rw [if_neg (by decide), if_neg (by decide)]; rfl
          · unfold uOk; rw [if_neg (by decide)]; rfl
        split at h
        · cases h
        · rename_i ha
          obtain ⟨a, h1, h⟩ := bnd_inv h
          obtain ⟨rfl, b1⟩ := want_inv h1
          obtain ⟨e, h3, h⟩ := bnd_inv h
          have b3 := px_le h3 (by omega)
          obtain ⟨l2, f2⟩ := ih .expr _ _ _ h3 (by omega) trivial
          have o2 := px_one h3 (by omega) trivial
          split at h
          · obtain ⟨b, h5, h⟩ := bnd_inv h
            obtain ⟨rfl, b5⟩ := want_inv h5
            obtain ⟨g, h6, h⟩ := bnd_inv h
            obtain ⟨l3, f3⟩ := ih .expr _ _ _ h6 (by omega) trivial
            have o3 := px_one h6 (by omega) trivial
            obtain ⟨c, h8, h⟩ := bnd_inv h
            injection h with h; subst h
            exact ⟨lg_trans l2 l3, fun hz _ => fine_mk (fine_cat (f2 (lg_nil l3 hz) fine_nil) (f3 hz fine_nil)) (may_bare (.inr (by rw [cnt_two o2 o3]; rfl)) (by decide))⟩
          · rename_i h25
            obtain ⟨c, h8, h⟩ := bnd_inv h
            injection h with h; subst h
            obtain ⟨k1, k2⟩ := applied_one ha h25
            exact ⟨l2, fun hz _ => fine_mk (f2 hz fine_nil) (may_bare (.inr (by rw [one_cnt o2]; exact k1)) k2)⟩
      split at h
      · rename_i e0
        have hlt := isK_lt (and_l e0)
        obtain ⟨e, h3, h⟩ := bnd_inv h
        have b3 := px_le h3 (by omega)
        obtain ⟨l2, f2⟩ := ih .expr _ _ _ h3 (by omega) trivial
        have o2 := px_one h3 (by omega) trivial
        split at h
        · obtain ⟨q, h6, h⟩ := bnd_inv h
          obtain ⟨l3, n3⟩ := whole_lg h6
          obtain ⟨c, h8, h⟩ := bnd_inv h
          injection h with h; subst h
          refine ⟨lg_trans l2 l3, fun hz _ => fine_mk (f2 (lg_nil l3 hz) fine_nil) (may_of (by decide) (.inr (by rw [one_cnt o2]; rfl)) (by decide) ?_ ?_ ?_)⟩
          · unfold sOk; rw [if_neg (by decide), if_neg (by decide), if_neg (by decide)]; rfl
          · unfold tOk; rw [if_neg (by decide), if_pos (by decide)]; exact n3 hz
          · unfold uOk; rw [if_neg (by decide)]; rfl
        split at h
        · rename_i e1
          have hl1 := isM_lt e1
          obtain ⟨g, h6, h⟩ := bnd_inv h
          obtain ⟨l3, f3⟩ := ih .expr _ _ _ h6 (by omega) trivial
          have o3 := px_one h6 (by omega) trivial
          obtain ⟨c, h8, h⟩ := bnd_inv h
          injection h with h; subst h
          exact ⟨lg_trans l2 l3, fun hz _ => fine_mk (fine_cat (f2 (lg_nil l3 hz) fine_nil) (f3 hz fine_nil)) (may_bare (.inr (by rw [cnt_two o2 o3]; rfl)) (by decide))⟩
        · obtain ⟨c, h8, h⟩ := bnd_inv h
          injection h with h; subst h
          exact ⟨l2, fun hz _ => f2 hz fine_nil⟩
      split at h
      · rename_i e0
        have hlt := isK_lt (and_l e0)
        split at h
        · injection h with h; subst h
          exact ⟨⟨[], by simp⟩, fun _ _ => fine_mk fine_nil (may_bare (.inl rfl) (by decide))⟩
        · obtain ⟨e, h3, h⟩ := bnd_inv h
          obtain ⟨g, h6, h⟩ := bnd_inv h
          obtain ⟨l2, f2⟩ := ih .expr _ _ _ h3 (by omega) trivial
          obtain ⟨l3, f3⟩ := ih (.items e.1) _ _ _ h6 (px_le h3 (by omega)) trivial
          injection h with h; subst h
          exact ⟨lg_trans l2 l3, fun hz _ => fine_mk (f3 hz (f2 (lg_nil l3 hz) fine_nil)) (may_bare (.inl rfl) (by decide))⟩
      · cases h
    | items l =>
      rw [px] at h
      split at h
      · rename_i e0
        have hlt := isM_lt e0
        obtain ⟨e, h3, h⟩ := bnd_inv h
        obtain ⟨l2, f2⟩ := ih .expr _ _ _ h3 (by omega) trivial
        obtain ⟨l3, f3⟩ := ih _ _ _ _ h (px_le h3 (by omega)) trivial
        exact ⟨lg_trans l2 l3, fun hz hl => f3 hz (fine_cat hl (f2 (lg_nil l3 hz) fine_nil))⟩
      · obtain ⟨a, h5, h⟩ := bnd_inv h
        injection h with h; subst h
        exact ⟨⟨[], by simp⟩, fun _ hl => hl⟩
end Culp.Gr

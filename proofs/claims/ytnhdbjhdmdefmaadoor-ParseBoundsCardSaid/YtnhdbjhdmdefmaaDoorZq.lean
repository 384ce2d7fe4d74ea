
/- Plain: what is read does not hang on where it stands: types, expressions among other tokens. No program in sight. -/
import Derived.Test.YtnhdbjhdmdefmaaDoorZa
namespace Culp.Gr
set_option linter.unusedSimpArgs false
set_option linter.unusedVariables false
open Culp Culp.Tr
/-- Tokens that stand among others; a closing mark stands behind them. -/
structure Inside (L L' : List Tok) (a : Nat) : Prop where
  at_ : ∀ i t p, L[i]? = some (t, p) → ∃ p', L'[a + i]? = some (t, p')
  end_ : ∃ s p', (s = [41] ∨ s = [59]) ∧ L'[a + L.length]? = some (⟨5, 0, s⟩, p')
section
variable {L L' : List Tok} {a : Nat}
theorem Inside.tok (h : Inside L L' a) {i : Nat} (hi : i < L.length) : ∃ t p p', L[i]? = some (t, p) ∧ L'[a + i]? = some (t, p') := by
  obtain ⟨⟨t, p⟩, h1⟩ : ∃ x, L[i]? = some x := ⟨_, List.getElem?_eq_getElem hi⟩
  obtain ⟨p', h2⟩ := h.at_ i t p h1
  exact ⟨t, p, p', h1, h2⟩
theorem Inside.isM (h : Inside L L' a) {i : Nat} (hi : i < L.length) (s : List UInt8) : Gr.isM L' s (a + i) = Gr.isM L s i := by
  obtain ⟨t, p, p', h1, h2⟩ := h.tok hi
  unfold Gr.isM
  rw [h1, h2]
theorem Inside.isK (h : Inside L L' a) {i : Nat} (hi : i < L.length) (k : Nat) : Gr.isK L' k (a + i) = Gr.isK L k i := by
  obtain ⟨t, p, p', h1, h2⟩ := h.tok hi
  unfold Gr.isK
  rw [h1, h2]
theorem Inside.txt (h : Inside L L' a) {i : Nat} (hi : i < L.length) : Gr.txt L' (a + i) = Gr.txt L i := by
  obtain ⟨t, p, p', h1, h2⟩ := h.tok hi
  unfold Gr.txt
  rw [h1, h2]
theorem Inside.num (h : Inside L L' a) {i : Nat} (hi : i < L.length) : Gr.num L' (a + i) = Gr.num L i := by
  obtain ⟨t, p, p', h1, h2⟩ := h.tok hi
  unfold Gr.num
  rw [h1, h2]
theorem isM_end {s : List UInt8} {i : Nat} (hi : L.length ≤ i) : isM L s i = false := by
  unfold Gr.isM
  rw [List.getElem?_eq_none hi]
theorem isK_end {k i : Nat} (hi : L.length ≤ i) : isK L k i = false := by
  unfold Gr.isK
  rw [List.getElem?_eq_none hi]
/-- A look ahead. -/
theorem Inside.peek (h : Inside L L' a) {i : Nat} (hi : i ≤ L.length) {s : List UInt8} (h1 : s ≠ [41]) (h2 : s ≠ [59]) : Gr.isM L' s (a + i) = Gr.isM L s i := by
  rcases Nat.lt_or_ge i L.length with hlt | hge
  · exact h.isM hlt s
  · rw [isM_end hge]
    obtain rfl : i = L.length := by omega
    obtain ⟨s', p', hs, he⟩ := h.end_
    unfold Gr.isM
    rw [he]
    show ((5 == 1 || 5 == 5) && (s' == s)) = false
    rw [Bool.and_eq_false_iff]
    right
    rw [beq_eq_false_iff_ne]
    rintro rfl
    rcases hs with rfl | rfl
    · exact h1 rfl
    · exact h2 rfl
theorem Inside.want (h : Inside L L' a) {s : List UInt8} {i k : Nat} (hw : want L s i = .ok k) : Gr.want L' s (a + i) = .ok (a + k) := by
  obtain ⟨rfl, hi⟩ := want_inv hw
  unfold Gr.want at hw ⊢
  rw [h.isM hi]
  split at hw
  · rename_i e; rw [if_pos e]; rfl
  · cases hw
theorem Inside.name (h : Inside L L' a) {i k : Nat} (hw : name L i = .ok k) : Gr.name L' (a + i) = .ok (a + k) := by
  obtain ⟨rfl, hi⟩ := name_inv hw
  unfold Gr.name at hw ⊢
  rw [h.isK hi]
  split at hw
  · rename_i e; rw [if_pos e]; rfl
  · cases hw
theorem Inside.ty (h : Inside L L' a) : ∀ (n m : Nat) (b : Bool) (i : Nat) (r : List UInt8 × Nat), n ≤ m → ty L n b i = .ok r → Gr.ty L' m b (a + i) = .ok (r.1, a + r.2) := by
  intro n
  induction n with
  | zero => intro m b i r _ h; cases b <;> cases h
  | succ n ih =>
    intro m b i r hm hr
    obtain ⟨m, rfl⟩ : ∃ q, m = q + 1 := ⟨m - 1, by omega⟩
    have hb := ty_bound _ _ _ _ hr
    have hlt : i < L.length := by omega
    cases b with
    | true =>
      rw [Gr.ty] at hr ⊢
      obtain ⟨r1, h1, hr⟩ := bnd_inv hr
      have b1 := ty_bound _ _ _ _ h1
      rw [ih m false i r1 (by omega) h1, bnd_ok]
      rw [h.peek b1.2 (by decide) (by decide)]
      split at hr
      · rename_i e
        obtain ⟨q, h2, hr⟩ := bnd_inv hr
        rw [if_pos e, show a + r1.2 + 1 = a + (r1.2 + 1) by omega, ih m true _ q (by omega) h2, bnd_ok]
        injection hr with hr; subst hr; rfl
      · rename_i e
        rw [if_neg e]
        injection hr with hr; subst hr; rfl
    | false =>
      rw [Gr.ty] at hr ⊢
      simp only [h.isK hlt, h.txt hlt]
      split at hr
      · rename_i e; rw [if_pos e]; injection hr with hr; subst hr; rfl
      rename_i e; rw [if_neg e]
      split at hr
      · rename_i e; rw [if_pos e]
        obtain ⟨q, h2, hr⟩ := bnd_inv hr
        rw [show a + i + 1 = a + (i + 1) by omega, ih m false _ q (by omega) h2, bnd_ok]
        injection hr with hr; subst hr; rfl
      rename_i e; rw [if_neg e]
      split at hr
      · rename_i e; rw [if_pos e]; injection hr with hr; subst hr; rfl
      rename_i e; rw [if_neg e]
      split at hr
      · rename_i e; rw [if_pos e]
        obtain ⟨q, h2, hr⟩ := bnd_inv hr
        obtain ⟨k, h3, hr⟩ := bnd_inv hr
        rw [show a + i + 1 = a + (i + 1) by omega, ih m true _ q (by omega) h2, bnd_ok]
        show bnd (Gr.want L' [93] (a + q.2)) _ = _
        rw [h.want h3, bnd_ok]
        injection hr with hr; subst hr; rfl
      rename_i e; rw [if_neg e]
      split at hr
      · rename_i e; rw [if_pos e]
        obtain ⟨q, h2, hr⟩ := bnd_inv hr
        have b2 := ty_bound _ _ _ _ h2
        rw [show a + i + 1 = a + (i + 1) by omega, ih m true _ q (by omega) h2, bnd_ok]
        simp only [h.peek b2.2 (s := [44]) (by decide) (by decide)]
        split at hr
        · rename_i e; rw [if_pos e]
          obtain ⟨q', h4, hr⟩ := bnd_inv hr
          obtain ⟨k, h3, hr⟩ := bnd_inv hr
          rw [show a + q.2 + 1 = a + (q.2 + 1) by omega, ih m true _ q' (by omega) h4, bnd_ok]
          show bnd (Gr.want L' [41] (a + q'.2)) _ = _
          rw [h.want h3, bnd_ok]
          injection hr with hr; subst hr; rfl
        · rename_i e; rw [if_neg e]
          obtain ⟨k, h3, hr⟩ := bnd_inv hr
          rw [h.want h3, bnd_ok]
          injection hr with hr; subst hr; rfl
      rename_i e; cases hr
theorem Inside.len (h : Inside L L' a) : a + L.length < L'.length := by
  obtain ⟨s, p', -, he⟩ := h.end_
  exact (List.getElem?_eq_some_iff.1 he).1
theorem Inside.whole (h : Inside L L' a) {i : Nat} {lg lg' : List Nat} {r : List UInt8 × Nat × List Nat} (hr : whole L i lg = .ok r) : ∃ d, r.2.2 = lg ++ d ∧ Gr.whole L' (a + i) lg' = .ok (r.1, a + r.2.1, lg' ++ d.map (a + ·)) := by
  obtain ⟨q, h1, hr⟩ := bnd_inv hr
  have := h.len
  have h2 := h.ty _ (2 * L'.length + 4) _ _ _ (by omega) h1
  injection hr with hr; subst hr
  refine ⟨if 64 < q.1.length then [i] else [], ?_, ?_⟩
  · show (if 64 < q.1.length then lg ++ [i] else lg) = _
    split <;> simp
  · unfold Gr.whole
    rw [h2, bnd_ok]
    show Except.ok (q.1, a + q.2, if 64 < q.1.length then lg' ++ [a + i] else lg') = _
    split <;> simp
theorem Inside.note (h : Inside L L' a) {i : Nat} {lg lg' : List Nat} {r : List UInt8 × Nat × List Nat} (hi : i ≤ L.length) (hr : note L i lg = .ok r) : ∃ d, r.2.2 = lg ++ d ∧ Gr.note L' (a + i) lg' = .ok (r.1, a + r.2.1, lg' ++ d.map (a + ·)) := by
  unfold Gr.note at hr ⊢
  rw [h.peek hi (by decide) (by decide)]
  split at hr
  · rename_i e
    rw [if_pos e, show a + i + 1 = a + (i + 1) by omega]
    exact h.whole hr
  · rename_i e
    rw [if_neg e]
    injection hr with hr; subst hr
    exact ⟨[], by simp, by simp⟩
theorem Inside.param (h : Inside L L' a) {i : Nat} {lg lg' : List Nat} {r : (List UInt8 × List UInt8 × List UInt8) × Nat × List Nat} (hr : param L i lg = .ok r) : ∃ d, r.2.2 = lg ++ d ∧ Gr.param L' (a + i) lg' = .ok (r.1, a + r.2.1, lg' ++ d.map (a + ·)) := by
  obtain ⟨x1, h1, hr⟩ := bnd_inv hr
  obtain ⟨x2, h2, hr⟩ := bnd_inv hr
  obtain ⟨x3, h3, hr⟩ := bnd_inv hr
  obtain ⟨x4, h4, hr⟩ := bnd_inv hr
  obtain ⟨x5, h5, hr⟩ := bnd_inv hr
  obtain ⟨x6, h6, hr⟩ := bnd_inv hr
  obtain ⟨e1, b1⟩ := want_inv h1
  obtain ⟨e2, b2⟩ := name_inv h2
  have b3 := note_bound h3 (by omega)
  obtain ⟨e4, b4⟩ := want_inv h4
  obtain ⟨d1, k1, k2⟩ := h.note (lg' := lg') (by omega) h3
  obtain ⟨d2, k3, k4⟩ := h.note (lg' := lg' ++ d1.map (a + ·)) (by omega) h5
  injection hr with hr; subst hr
  refine ⟨d1 ++ d2, ?_, ?_⟩
  · show x5.2.2 = _
    rw [k3, k1, List.append_assoc]
  · unfold Gr.param
    rw [h.want h1, bnd_ok, h.name h2, bnd_ok, k2, bnd_ok]
    show bnd (Gr.want L' [41] (a + x3.2.1)) _ = _
    rw [h.want h4, bnd_ok]
    show bnd (Gr.note L' (a + x4) (lg' ++ d1.map (a + ·))) _ = _
    rw [k4, bnd_ok]
    show bnd (Gr.want L' sTo (a + x5.2.1)) _ = _
    rw [h.want h6, bnd_ok]
    show Except.ok ((Gr.txt L' (a + x1), x3.1, x5.1), a + x6, (lg' ++ d1.map (a + ·)) ++ d2.map (a + ·)) = _
    rw [h.txt b2, List.map_append, List.append_assoc]
end
/-- A forest without places. -/
def un : F → F
  | .nil => .nil
  | .cons x ks r => .cons { x with line := 0, col := 0 } (un ks) (un r)
theorem un_cnt : ∀ f : F, (un f).cnt = f.cnt
  | .nil => rfl
  | .cons x ks r => by simp only [un, F.cnt, un_cnt r]
theorem un_cat : ∀ f g : F, un (cat f g) = cat (un f) (un g)
  | .nil, g => rfl
  | .cons x ks r, g => by simp only [un, cat, un_cat r g]
theorem un_mk {kind n : Nat} {p p' : Nat × Nat} {ks ks' : F} {s t u : List UInt8} (h : un ks' = un ks) : un (mk kind p' ks' n s t u) = un (mk kind p ks n s t u) := by
  have hc : ks'.cnt = ks.cnt := by rw [← un_cnt, h, un_cnt]
  simp only [mk, mkNd, un, h, hc]
/-- Alike but for places. -/
def NT.like : NT → NT → Prop
  | .expr, .expr => True
  | .bin r, .bin r' => r' = r
  | .binl r l, .binl r' l' => r' = r ∧ un l' = un l
  | .factor, .factor => True
  | .calls l, .calls l' => un l' = un l
  | .atom, .atom => True
  | .items l, .items l' => un l' = un l
  | _, _ => False
theorem lt_of_one {L : List Tok} {n i : Nat} {nt : NT} {lg : List Nat} {r : F × Nat × List Nat} (h : px L n nt i lg = .ok r) (hi : i ≤ L.length) (h1 : nt.one) (h2 : nt.acc = .nil) : i < L.length := by
  obtain ⟨a, b, c⟩ := px_bound _ _ _ _ _ h hi
  have := (c h1).pos
  rw [h2] at b
  simp only [F.flat, List.length_nil] at b
  omega
theorem Inside.rank {L L' : List Tok} {a : Nat} (h : Inside L L' a) {i : Nat} (hi : i ≤ L.length) (q : Nat) : (Gr.isK L' 5 (a + i) && (ranked (Gr.txt L' (a + i))).2 == q + 1) = (Gr.isK L 5 i && (ranked (Gr.txt L i)).2 == q + 1) := by
  rcases Nat.lt_or_ge i L.length with hlt | hge
  · rw [h.isK hlt, h.txt hlt]
  · rw [isK_end hge, Bool.false_and]
    obtain rfl : i = L.length := by omega
    obtain ⟨s', p', hs, he⟩ := h.end_
    have e2 : Gr.txt L' (a + L.length) = s' := by unfold Gr.txt; rw [he]
    rw [e2, Bool.and_eq_false_iff]
    right
    rw [beq_eq_false_iff_ne]
    rcases hs with rfl | rfl
    · show (0 : Nat) ≠ q + 1; omega
    · show (0 : Nat) ≠ q + 1; omega
set_option maxHeartbeats 3200000 in
theorem Inside.px {L L' : List Tok} {a : Nat} (h : Inside L L' a) : ∀ (n m : Nat) (nt nt' : NT) (i : Nat) (lg lg' : List Nat) (r : F × Nat × List Nat), n ≤ m → NT.like nt nt' → i ≤ L.length → px L n nt i lg = .ok r → ∃ f' d, un f' = un r.1 ∧ r.2.2 = lg ++ d ∧ Gr.px L' m nt' (a + i) lg' = .ok (f', a + r.2.1, lg' ++ d.map (a + ·)) := by
  intro n
  induction n with
  | zero => intro m nt nt' i lg lg' r _ _ _ hr; cases nt <;> cases hr
  | succ n ih =>
    intro m nt nt' i lg lg' r hm hl hi hr
    obtain ⟨m, rfl⟩ : ∃ q, m = q + 1 := ⟨m - 1, by omega⟩
    have hm : n ≤ m := by omega
    have sub : ∀ (nt nt' : NT) (i : Nat) (lg lg' : List Nat) (r : F × Nat × List Nat), NT.like nt nt' → i ≤ L.length → Gr.px L n nt i lg = .ok r → ∃ f' d, un f' = un r.1 ∧ r.2.2 = lg ++ d ∧ Gr.px L' m nt' (a + i) lg' = .ok (f', a + r.2.1, lg' ++ d.map (a + ·)) := fun nt nt' i lg lg' r h1 h2 h3 => ih m nt nt' i lg lg' r hm h1 h2 h3
    cases nt with
    | expr =>
      cases nt' <;> try exact hl.elim
      have hlt := lt_of_one hr hi trivial rfl
      rw [Gr.px] at hr ⊢
      simp only [h.isK hlt, h.txt hlt]
      split at hr
      · rename_i e; rw [if_pos e]
        obtain ⟨q, h1, hr⟩ := bnd_inv hr
        obtain ⟨g, h2, hr⟩ := bnd_inv hr
        have b1 := param_bound h1
        obtain ⟨d1, k1, k2⟩ := h.param (lg' := lg') h1
        obtain ⟨f2, d2, u2, k3, k4⟩ := sub .expr .expr _ _ (lg' ++ d1.map (a + ·)) _ trivial b1.2 h2
        injection hr with hr; subst hr
        refine ⟨Gr.mk _ (Gr.pl L' (a + i)) _ _ _ _ _, d1 ++ d2, un_mk u2, by show g.2.2 = _; rw [k3, k1, List.append_assoc], ?_⟩
        rw [show a + i + 1 = a + (i + 1) by omega, k2, bnd_ok]
        simp only
        rw [k4, bnd_ok, List.map_append, List.append_assoc]
      rename_i e; rw [if_neg e]
      split at hr
      · rename_i e; rw [if_pos e]
        obtain ⟨c, h0, hr⟩ := bnd_inv hr
        obtain ⟨e0, b0⟩ := name_inv h0
        obtain ⟨q, h1, hr⟩ := bnd_inv hr
        obtain ⟨g, h2, hr⟩ := bnd_inv hr
        have b1 := param_bound h1
        obtain ⟨d1, k1, k2⟩ := h.param (lg' := lg') h1
        obtain ⟨f2, d2, u2, k3, k4⟩ := sub .expr .expr _ _ (lg' ++ d1.map (a + ·)) _ trivial b1.2 h2
        injection hr with hr; subst hr
        refine ⟨Gr.mk _ (Gr.pl L' (a + i)) _ _ _ _ _, d1 ++ d2, un_mk u2, by show g.2.2 = _; rw [k3, k1, List.append_assoc], ?_⟩
        rw [show a + i + 1 = a + (i + 1) by omega, h.name h0, bnd_ok, k2, bnd_ok, h.txt b0]
        simp only
        rw [k4, bnd_ok, List.map_append, List.append_assoc]
      rename_i e; rw [if_neg e]
      split at hr
      · rename_i e; rw [if_pos e]
        obtain ⟨c, h0, hr⟩ := bnd_inv hr
        obtain ⟨e0, b0⟩ := name_inv h0
        obtain ⟨q, h1, hr⟩ := bnd_inv hr
        have b1 := note_bound h1 (by omega)
        obtain ⟨c2, h2, hr⟩ := bnd_inv hr
        obtain ⟨e2, b2⟩ := want_inv h2
        obtain ⟨g, h3, hr⟩ := bnd_inv hr
        obtain ⟨c3, h4, hr⟩ := bnd_inv hr
        obtain ⟨e4, b4⟩ := want_inv h4
        obtain ⟨g2, h5, hr⟩ := bnd_inv hr
        obtain ⟨d1, k1, k2⟩ := h.note (lg' := lg') (by omega) h1
        obtain ⟨f3, d3, u3, k5, k6⟩ := sub .expr .expr _ _ (lg' ++ d1.map (a + ·)) _ trivial (by omega) h3
        obtain ⟨f4, d4, u4, k7, k8⟩ := sub .expr .expr _ _ ((lg' ++ d1.map (a + ·)) ++ d3.map (a + ·)) _ trivial (by omega) h5
        injection hr with hr; subst hr
        refine ⟨Gr.mk _ (Gr.pl L' (a + i)) _ _ _ _ _, d1 ++ d3 ++ d4, un_mk (ks' := cat f3 f4) (by rw [un_cat, un_cat, u3, u4]), by show g2.2.2 = _; rw [k7, k5, k1]; simp only [List.append_assoc], ?_⟩
        rw [show a + i + 1 = a + (i + 1) by omega, h.name h0, bnd_ok, k2, bnd_ok, h.txt b0]
        simp only
        rw [h.want h2, bnd_ok, k6, bnd_ok]
        simp only
        rw [h.want h4, bnd_ok, k8, bnd_ok]
        simp only [List.map_append, List.append_assoc]
      rename_i e; rw [if_neg e]
      split at hr
      · rename_i e; rw [if_pos e]
        obtain ⟨g, h3, hr⟩ := bnd_inv hr
        have bb3 := px_bound _ _ _ _ _ h3 (by omega)
        obtain ⟨c3, h4, hr⟩ := bnd_inv hr
        obtain ⟨e4, b4⟩ := want_inv h4
        obtain ⟨g2, h5, hr⟩ := bnd_inv hr
        obtain ⟨c5, h6, hr⟩ := bnd_inv hr
        obtain ⟨e6, b6⟩ := want_inv h6
        obtain ⟨g3, h7, hr⟩ := bnd_inv hr
        obtain ⟨f3, d3, u3, k5, k6⟩ := sub .expr .expr _ _ lg' _ trivial (by omega) h3
        obtain ⟨f4, d4, u4, k7, k8⟩ := sub .expr .expr _ _ (lg' ++ d3.map (a + ·)) _ trivial (by omega) h5
        obtain ⟨f5, d5, u5, k9, k10⟩ := sub .expr .expr _ _ ((lg' ++ d3.map (a + ·)) ++ d4.map (a + ·)) _ trivial (by omega) h7
        injection hr with hr; subst hr
        refine ⟨Gr.mk _ (Gr.pl L' (a + i)) _ _ _ _ _, d3 ++ d4 ++ d5, un_mk (ks' := cat f3 (cat f4 f5)) (by simp only [un_cat, u3, u4, u5]), by show g3.2.2 = _; rw [k9, k7, k5]; simp only [List.append_assoc], ?_⟩
        rw [show a + i + 1 = a + (i + 1) by omega, k6, bnd_ok]
        simp only
        rw [h.want h4, bnd_ok, k8, bnd_ok]
        simp only
        rw [h.want h6, bnd_ok, k10, bnd_ok]
        simp only [List.map_append, List.append_assoc]
      rename_i e; rw [if_neg e]
      obtain ⟨g, h3, hr⟩ := bnd_inv hr
      have bb3 := px_bound _ _ _ _ _ h3 hi
      obtain ⟨f3, d3, u3, k5, k6⟩ := sub (.bin 0) (.bin 0) _ _ lg' _ rfl hi h3
      rw [k6, bnd_ok]
      simp only
      rw [h.peek bb3.1 (by decide) (by decide)]
      split at hr
      · rename_i e; rw [if_pos e]
        have hl2 := isM_lt e
        obtain ⟨g2, h5, hr⟩ := bnd_inv hr
        obtain ⟨f4, d4, u4, k7, k8⟩ := sub .expr .expr _ _ (lg' ++ d3.map (a + ·)) _ trivial (by omega) h5
        injection hr with hr; subst hr
        refine ⟨Gr.mk _ (Gr.pl L' (a + g.2.1)) _ _ _ _ _, d3 ++ d4, un_mk (ks' := cat f3 f4) (by simp only [un_cat, u3, u4]), by show g2.2.2 = _; rw [k7, k5]; simp only [List.append_assoc], ?_⟩
        rw [show a + g.2.1 + 1 = a + (g.2.1 + 1) by omega, k8, bnd_ok]
        simp only [List.map_append, List.append_assoc]
      · rename_i e; rw [if_neg e]
        injection hr with hr; subst hr
        exact ⟨f3, d3, u3, k5, rfl⟩
    | bin q =>
      cases nt' <;> try exact hl.elim
      obtain rfl : _ = q := hl
      rw [Gr.px] at hr ⊢
      split at hr
      · rename_i e; rw [if_pos e]
        exact sub .factor .factor _ _ lg' _ trivial hi hr
      · rename_i e; rw [if_neg e]
        obtain ⟨g, h3, hr⟩ := bnd_inv hr
        have bb3 := px_bound _ _ _ _ _ h3 hi
        obtain ⟨f3, d3, u3, k5, k6⟩ := sub (.bin _) (.bin _) _ _ lg' _ rfl hi h3
        obtain ⟨f4, d4, u4, k7, k8⟩ := sub (.binl _ g.1) (.binl _ f3) _ _ (lg' ++ d3.map (a + ·)) _ ⟨rfl, u3⟩ bb3.1 hr
        refine ⟨f4, d3 ++ d4, u4, by rw [k7, k5, List.append_assoc], ?_⟩
        rw [k6, bnd_ok]
        simp only
        rw [k8, List.map_append, List.append_assoc]
    | binl q l =>
      cases nt' <;> try exact hl.elim
      rename_i q' l'
      obtain ⟨hq, hul⟩ := hl
      subst hq
      rw [Gr.px] at hr ⊢
      rw [h.rank hi]
      split at hr
      · rename_i e; rw [if_pos e]
        have hlt := isK_lt (and_l e)
        obtain ⟨g, h3, hr⟩ := bnd_inv hr
        have bb3 := px_bound _ _ _ _ _ h3 (by omega)
        obtain ⟨f3, d3, u3, k5, k6⟩ := sub (.bin _) (.bin _) _ _ lg' _ rfl (by omega) h3
        rw [show a + i + 1 = a + (i + 1) by omega, k6, bnd_ok, h.txt hlt]
        simp only
        split at hr
        · rename_i e2; rw [if_pos e2]
          injection hr with hr; subst hr
          exact ⟨Gr.mk _ (Gr.pl L' (a + i)) _ _ _ _ _, d3, un_mk (ks' := cat l' f3) (by rw [un_cat, un_cat, u3, hul]), k5, rfl⟩
        · rename_i e2; rw [if_neg e2]
          obtain ⟨f4, d4, u4, k7, k8⟩ := sub (.binl _ _) (.binl _ (Gr.mk (ranked (Gr.txt L i)).1 (Gr.pl L' (a + i)) (cat l' f3) 0 [] [] [])) _ _ (lg' ++ d3.map (a + ·)) _ ⟨rfl, un_mk (ks' := cat l' f3) (by rw [un_cat, un_cat, u3, hul])⟩ bb3.1 hr
          refine ⟨f4, d3 ++ d4, u4, by rw [k7, k5, List.append_assoc], ?_⟩
          rw [k8, List.map_append, List.append_assoc]
      · rename_i e; rw [if_neg e]
        injection hr with hr; subst hr
        exact ⟨_, [], hul, by simp, by simp⟩
    | factor =>
      cases nt' <;> try exact hl.elim
      have hlt := lt_of_one hr hi trivial rfl
      rw [Gr.px] at hr ⊢
      simp only [h.isM hlt]
      split at hr
      · rename_i e; rw [if_pos e]
        obtain ⟨g, h3, hr⟩ := bnd_inv hr
        obtain ⟨f3, d3, u3, k5, k6⟩ := sub .factor .factor _ _ lg' _ trivial (by omega) h3
        injection hr with hr; subst hr
        rw [show a + i + 1 = a + (i + 1) by omega, k6, bnd_ok]
        exact ⟨Gr.mk _ (Gr.pl L' (a + i)) _ _ _ _ _, d3, un_mk u3, k5, rfl⟩
      rename_i e; rw [if_neg e]
      split at hr
      · rename_i e; rw [if_pos e]
        obtain ⟨g, h3, hr⟩ := bnd_inv hr
        obtain ⟨f3, d3, u3, k5, k6⟩ := sub .factor .factor _ _ lg' _ trivial (by omega) h3
        injection hr with hr; subst hr
        rw [show a + i + 1 = a + (i + 1) by omega, k6, bnd_ok]
        exact ⟨Gr.mk _ (Gr.pl L' (a + i)) _ _ _ _ _, d3, un_mk u3, k5, rfl⟩
      rename_i e; rw [if_neg e]
      obtain ⟨g, h3, hr⟩ := bnd_inv hr
      have bb3 := px_bound _ _ _ _ _ h3 hi
      obtain ⟨f3, d3, u3, k5, k6⟩ := sub .atom .atom _ _ lg' _ trivial hi h3
      obtain ⟨f4, d4, u4, k7, k8⟩ := sub (.calls g.1) (.calls f3) _ _ (lg' ++ d3.map (a + ·)) _ u3 bb3.1 hr
      refine ⟨f4, d3 ++ d4, u4, by rw [k7, k5, List.append_assoc], ?_⟩
      rw [k6, bnd_ok]
      simp only
      rw [k8, List.map_append, List.append_assoc]
    | calls l =>
      cases nt' <;> try exact hl.elim
      rename_i l'
      have hul : un l' = un l := hl
      rw [Gr.px] at hr ⊢
      rw [h.peek hi (by decide) (by decide)]
      split at hr
      · rename_i e; rw [if_pos e]
        have hlt := isM_lt e
        obtain ⟨g, h3, hr⟩ := bnd_inv hr
        obtain ⟨c3, h4, hr⟩ := bnd_inv hr
        obtain ⟨e4, b4⟩ := want_inv h4
        obtain ⟨f3, d3, u3, k5, k6⟩ := sub .expr .expr _ _ lg' _ trivial (by omega) h3
        rw [show a + i + 1 = a + (i + 1) by omega, k6, bnd_ok]
        simp only
        rw [h.want h4, bnd_ok]
        obtain ⟨f4, d4, u4, k7, k8⟩ := sub (.calls _) (.calls (Gr.mk 7 (Gr.pl L' (a + i)) (cat l' f3) 0 [] [] [])) _ _ (lg' ++ d3.map (a + ·)) _ (un_mk (ks' := cat l' f3) (by rw [un_cat, un_cat, u3, hul])) (by omega) hr
        refine ⟨f4, d3 ++ d4, u4, by rw [k7, k5, List.append_assoc], ?_⟩
        rw [k8, List.map_append, List.append_assoc]
      · rename_i e; rw [if_neg e]
        injection hr with hr; subst hr
        exact ⟨_, [], hul, by simp, by simp⟩
    | atom =>
      cases nt' <;> try exact hl.elim
      have hlt := lt_of_one hr hi trivial rfl
      rw [Gr.px] at hr ⊢
      simp only [h.isK hlt, h.txt hlt, h.num hlt]
      split at hr
      · rename_i e; rw [if_pos e]; injection hr with hr; subst hr; exact ⟨Gr.mk _ (Gr.pl L' (a + i)) _ _ _ _ _, [], un_mk rfl, by simp, by simp; omega⟩
      rename_i e; rw [if_neg e]
      split at hr
      · rename_i e; rw [if_pos e]; injection hr with hr; subst hr; exact ⟨Gr.mk _ (Gr.pl L' (a + i)) _ _ _ _ _, [], un_mk rfl, by simp, by simp; omega⟩
      rename_i e; rw [if_neg e]
      split at hr
      · rename_i e; rw [if_pos e]; injection hr with hr; subst hr; exact ⟨Gr.mk _ (Gr.pl L' (a + i)) _ _ _ _ _, [], un_mk rfl, by simp, by simp; omega⟩
      rename_i e; rw [if_neg e]
      split at hr
      · rename_i e; rw [if_pos e]
        split at hr
        · rename_i e; rw [if_pos e]; injection hr with hr; subst hr; exact ⟨Gr.mk _ (Gr.pl L' (a + i)) _ _ _ _ _, [], un_mk rfl, by simp, by simp; omega⟩
        rename_i e; rw [if_neg e]
        split at hr
        · rename_i e; rw [if_pos e]; injection hr with hr; subst hr; exact ⟨Gr.mk _ (Gr.pl L' (a + i)) _ _ _ _ _, [], un_mk rfl, by simp, by simp; omega⟩
        rename_i e; rw [if_neg e]
        split at hr
        · cases hr
        rename_i e; rw [if_neg e]
        obtain ⟨c1, h1, hr⟩ := bnd_inv hr
        obtain ⟨e1, b1⟩ := want_inv h1
        obtain ⟨g, h3, hr⟩ := bnd_inv hr
        obtain ⟨f3, d3, u3, k5, k6⟩ := sub .expr .expr _ _ lg' _ trivial (by omega) h3
        rw [show a + i + 1 = a + (i + 1) by omega, h.want h1, bnd_ok, k6, bnd_ok]
        simp only
        split at hr
        · rename_i e; rw [if_pos e]
          obtain ⟨c3, h4, hr⟩ := bnd_inv hr
          obtain ⟨e4, b4⟩ := want_inv h4
          obtain ⟨g2, h5, hr⟩ := bnd_inv hr
          obtain ⟨c5, h6, hr⟩ := bnd_inv hr
          obtain ⟨f4, d4, u4, k7, k8⟩ := sub .expr .expr _ _ (lg' ++ d3.map (a + ·)) _ trivial (by omega) h5
          injection hr with hr; subst hr
          rw [h.want h4, bnd_ok, k8, bnd_ok]
          simp only
          rw [h.want h6, bnd_ok]
          exact ⟨Gr.mk _ (Gr.pl L' (a + i)) _ _ _ _ _, d3 ++ d4, un_mk (ks' := cat f3 f4) (by rw [un_cat, un_cat, u3, u4]), by show g2.2.2 = _; rw [k7, k5, List.append_assoc], by simp only [List.map_append, List.append_assoc]⟩
        · rename_i e; rw [if_neg e]
          obtain ⟨c5, h6, hr⟩ := bnd_inv hr
          injection hr with hr; subst hr
          rw [h.want h6, bnd_ok]
          exact ⟨Gr.mk _ (Gr.pl L' (a + i)) _ _ _ _ _, d3, un_mk u3, k5, rfl⟩
      rename_i e; rw [if_neg e]
      split at hr
      · rename_i e; rw [if_pos e]
        obtain ⟨g, h3, hr⟩ := bnd_inv hr
        have bb3 := px_bound _ _ _ _ _ h3 (by omega)
        obtain ⟨f3, d3, u3, k5, k6⟩ := sub .expr .expr _ _ lg' _ trivial (by omega) h3
        rw [show a + i + 1 = a + (i + 1) by omega, k6, bnd_ok]
        simp only [h.peek bb3.1 (s := [58]) (by decide) (by decide), h.peek bb3.1 (s := [44]) (by decide) (by decide)]
        split at hr
        · rename_i e; rw [if_pos e]
          obtain ⟨g2, h5, hr⟩ := bnd_inv hr
          obtain ⟨c5, h6, hr⟩ := bnd_inv hr
          obtain ⟨d4, k7, k8⟩ := h.whole (lg' := lg' ++ d3.map (a + ·)) h5
          injection hr with hr; subst hr
          rw [show a + g.2.1 + 1 = a + (g.2.1 + 1) by omega, k8, bnd_ok]
          simp only
          rw [h.want h6, bnd_ok]
          exact ⟨Gr.mk _ (Gr.pl L' (a + g.2.1)) _ _ _ _ _, d3 ++ d4, un_mk u3, by show g2.2.2 = _; rw [k7, k5, List.append_assoc], by simp only [List.map_append, List.append_assoc]⟩
        rename_i e; rw [if_neg e]
        split at hr
        · rename_i e; rw [if_pos e]
          have hl2 := isM_lt e
          obtain ⟨g2, h5, hr⟩ := bnd_inv hr
          obtain ⟨c5, h6, hr⟩ := bnd_inv hr
          obtain ⟨f4, d4, u4, k7, k8⟩ := sub .expr .expr _ _ (lg' ++ d3.map (a + ·)) _ trivial (by omega) h5
          injection hr with hr; subst hr
          rw [show a + g.2.1 + 1 = a + (g.2.1 + 1) by omega, k8, bnd_ok]
          simp only
          rw [h.want h6, bnd_ok]
          exact ⟨Gr.mk _ (Gr.pl L' (a + i)) _ _ _ _ _, d3 ++ d4, un_mk (ks' := cat f3 f4) (by rw [un_cat, un_cat, u3, u4]), by show g2.2.2 = _; rw [k7, k5, List.append_assoc], by simp only [List.map_append, List.append_assoc]⟩
        · rename_i e; rw [if_neg e]
          obtain ⟨c5, h6, hr⟩ := bnd_inv hr
          injection hr with hr; subst hr
          rw [h.want h6, bnd_ok]
          exact ⟨f3, d3, u3, k5, rfl⟩
      rename_i e; rw [if_neg e]
      split at hr
      · rename_i e; rw [if_pos e]
        rw [show a + i + 1 = a + (i + 1) by omega, h.peek (by omega) (by decide) (by decide)]
        split at hr
        · rename_i e; rw [if_pos e]; injection hr with hr; subst hr; exact ⟨Gr.mk _ (Gr.pl L' (a + i)) _ _ _ _ _, [], un_mk rfl, by simp, by simp; omega⟩
        · rename_i e; rw [if_neg e]
          obtain ⟨g, h3, hr⟩ := bnd_inv hr
          have bb3 := px_bound _ _ _ _ _ h3 (by omega)
          obtain ⟨g2, h5, hr⟩ := bnd_inv hr
          obtain ⟨f3, d3, u3, k5, k6⟩ := sub .expr .expr _ _ lg' _ trivial (by omega) h3
          obtain ⟨f4, d4, u4, k7, k8⟩ := sub (.items g.1) (.items f3) _ _ (lg' ++ d3.map (a + ·)) _ u3 bb3.1 h5
          injection hr with hr; subst hr
          rw [k6, bnd_ok]
          simp only
          rw [k8, bnd_ok]
          exact ⟨Gr.mk _ (Gr.pl L' (a + i)) _ _ _ _ _, d3 ++ d4, un_mk u4, by show g2.2.2 = _; rw [k7, k5, List.append_assoc], by simp only [List.map_append, List.append_assoc]⟩
      · cases hr
    | items l =>
      cases nt' <;> try exact hl.elim
      rename_i l'
      have hul : un l' = un l := hl
      rw [Gr.px] at hr ⊢
      rw [h.peek hi (by decide) (by decide)]
      split at hr
      · rename_i e; rw [if_pos e]
        have hlt := isM_lt e
        obtain ⟨g, h3, hr⟩ := bnd_inv hr
        have bb3 := px_bound _ _ _ _ _ h3 (by omega)
        obtain ⟨f3, d3, u3, k5, k6⟩ := sub .expr .expr _ _ lg' _ trivial (by omega) h3
        obtain ⟨f4, d4, u4, k7, k8⟩ := sub (.items _) (.items (cat l' f3)) _ _ (lg' ++ d3.map (a + ·)) _ (by show un (cat l' f3) = un (cat l g.1); rw [un_cat, un_cat, u3, hul]) bb3.1 hr
        refine ⟨f4, d3 ++ d4, u4, by rw [k7, k5, List.append_assoc], ?_⟩
        rw [show a + i + 1 = a + (i + 1) by omega, k6, bnd_ok]
        simp only
        rw [k8, List.map_append, List.append_assoc]
      · rename_i e; rw [if_neg e]
        obtain ⟨c5, h6, hr⟩ := bnd_inv hr
        injection hr with hr; subst hr
        rw [h.want h6, bnd_ok]
        exact ⟨_, [], hul, by simp, by simp⟩
end Culp.Gr

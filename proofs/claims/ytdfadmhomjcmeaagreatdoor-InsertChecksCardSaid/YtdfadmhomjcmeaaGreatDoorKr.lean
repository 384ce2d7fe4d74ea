
/- The checker's rules: any node that asks of its kids. Plain: types laid in a row. -/
import Derived.Test.YtdfadmhomjcmeaaGreatDoorKp
import Derived.Test.YtdfadmhomjcmeaaGreatDoorKb
namespace Culp.Tr
set_option linter.unusedSimpArgs false
set_option linter.unusedVariables false
open Go
theorem nodeT_row {same : Bool} {x : Nd} {env : Env} {p : Nat} {K : List (Nat × Ty)} :
    (x.kind = 10 ∨ x.kind = 11 ∨ x.kind = 12 ∨ x.kind = 16 → nodeT same x env p K = (eachT same .int K).map fun _ => .int) ∧ (x.kind = 14 ∨ x.kind = 15 → nodeT same x env p K = (eachT same .int K).map fun _ => .bool) ∧ (x.kind = 13 → nodeT same x env p K = (eachT same .text K).map fun _ => .text) ∧ (x.kind = 17 → nodeT same x env p K = (eachT same .text K).map fun _ => .int) := by
  refine ⟨?_, ?_, ?_, ?_⟩
  · rintro (h | h | h | h) <;> simp [nodeT, h]
  · rintro (h | h) <;> simp [nodeT, h]
  · intro h; simp [nodeT, h]
  · intro h; simp [nodeT, h]
section
variable {x : Nd} {env : Env} {p p0 p1 p2 : Nat} {t0 t1 t2 : Ty} {K : List (Nat × Ty)}
theorem nodeT_19 (h : x.kind = 19) : nodeT false x env p ((p0, t0) :: K) = partT p0 t0 44 0 := by simp [nodeT, h]
theorem nodeT_20 (h : x.kind = 20) : nodeT false x env p ((p0, t0) :: K) = partT p0 t0 44 1 := by simp [nodeT, h]
theorem nodeT_26 (h : x.kind = 26) : nodeT false x env p ((p0, t0) :: K) = .ok (.box t0) := by simp [nodeT, h]
theorem nodeT_27 (h : x.kind = 27) : nodeT false x env p ((p0, t0) :: K) = partT p0 t0 120 0 := by simp [nodeT, h]
theorem nodeT_22 (h : x.kind = 22) : nodeT false x env p ((p0, t0) :: K) = partT p0 t0 108 0 := by simp [nodeT, h]
theorem nodeT_23 (h : x.kind = 23) : nodeT false x env p ((p0, t0) :: K) = (partT p0 t0 108 0).map .list := by simp [nodeT, h]
theorem nodeT_24 (h : x.kind = 24) : nodeT false x env p ((p0, t0) :: K) = (partT p0 t0 108 0).map fun _ => .bool := by simp [nodeT, h]
theorem nodeT_21 (h : x.kind = 21) : nodeT false x env p ((p0, t0) :: K) = (meetsT false p t0 K).map .list := by simp [nodeT, h]
theorem nodeT_18 (h : x.kind = 18) : nodeT false x env p ([(p0, t0), (p1, t1)]) = .ok (.pair t0 t1) := by simp [nodeT, h]
theorem nodeT_21e (h : x.kind = 21) : nodeT false x env p [] = .ok (.list .dyn) := by simp [nodeT, h]
theorem map_map_const {α β : Type} {e : Except Bad Unit} {t : α} {u : β} : (e.map fun _ => t).map (fun _ => u) = e.map fun _ => u := by cases e <;> rfl
theorem nodeT_29 (h : x.kind = 29) : nodeT false x env p ((p0, t0) :: K) = thenFit (.ok (noteT x.t)) t0 23 p := by simp [nodeT, h, thenFit]
theorem nodeT_8 (h : x.kind = 8) : nodeT false x env p [(p0, t0), (p1, t1)] = (thenFit (.ok (noteT x.t)) t0 23 p0).map fun _ => t1 := by simp [nodeT, h, thenFit, map_map_const]
theorem nodeT_28 (h : x.kind = 28) : nodeT false x env p [(p0, t0), (p1, t1)] = thenFit (partT p0 t0 120 0) t1 23 p1 := by
  simp only [nodeT, h]
  simp
  unfold thenFit partT
  cases matchT t0 120 <;> simp
theorem nodeT_7 (h : x.kind = 7) : nodeT false x env p [(p0, t0), (p1, t1)] = callR p0 t0 p1 t1 := by
  simp only [nodeT, h]
  simp
  unfold callR thenFit partT
  cases matchT t0 62 with
  | none => rfl
  | some l =>
    simp only [List.getD_eq_getElem?_getD]
    generalize fitT false t1 (l[0]?.getD .dyn) 23 p1 = r
    cases r <;> rfl
theorem nodeT_25 (h : x.kind = 25) : nodeT false x env p [(p0, t0), (p1, t1)] = (thenFit (partT p1 t1 108 0) t0 23 p0).map .list := by
  simp only [nodeT, h]
  simp
  unfold thenFit partT
  cases matchT t1 108 with
  | none => rfl
  | some l =>
    simp only [List.getD_eq_getElem?_getD]
    generalize fitT false t0 (l[0]?.getD .dyn) 23 p0 = r
    cases r <;> rfl
theorem nodeT_9 (h : x.kind = 9) : nodeT false x env p [(p0, t0), (p1, t1), (p2, t2)] = ifR p p0 t0 t1 [(p2, t2)] := by
  simp only [nodeT, h]
  simp
  unfold ifR thenFit
  dsimp only
  generalize fitT false t0 .bool 23 p0 = r
  cases r <;> rfl
end
theorem arit_zero {k : Int} (h : arit k = 0) : k = 1 ∨ k = 2 ∨ k = 3 ∨ k = 4 := by
  unfold arit at h
  split at h
  · assumption
  split at h
  · exact absurd h (by decide)
  split at h
  · exact absurd h (by decide)
  split at h
  · exact absurd h (by decide)
  split at h <;> exact absurd h (by decide)
theorem arit_neg {k : Int} (h : arit k = -1) : k = 21 := by
  unfold arit at h
  split at h
  · exact absurd h (by decide)
  split at h
  · exact absurd h (by decide)
  split at h
  · exact absurd h (by decide)
  split at h
  · exact absurd h (by decide)
  split at h
  · assumption
  · exact absurd h (by decide)
theorem arit_pos {k : Int} (h : 0 < arit k) : (k = 5 ∨ k = 6 ∨ k = 29 ∨ k = 30 ∨ k = 16 ∨ k = 17 ∨ k = 19 ∨ k = 20 ∨ k = 22 ∨ k = 23 ∨ k = 24 ∨ k = 26 ∨ k = 27) ∨ (k = 8 ∨ k = 7 ∨ k = 10 ∨ k = 11 ∨ k = 12 ∨ k = 13 ∨ k = 14 ∨ k = 15 ∨ k = 18 ∨ k = 25 ∨ k = 28) ∨ k = 9 := by
  unfold arit at h
  split at h
  · exact absurd h (by decide)
  split at h
  · exact .inl ‹_›
  split at h
  · exact .inr (.inl ‹_›)
  split at h
  · exact .inr (.inr ‹_›)
  split at h <;> exact absurd h (by decide)
/-- Types that were laid. -/
def LaidK (ys : List ByteArray) (K : List (Nat × List Ty)) : Prop := ∀ a ∈ K, a.2 ≠ [] ∧ ∀ (j : Nat) (t : Ty), a.2[j]? = some t → ys[a.1 + j]? = some t.str ∧ t.fits
def SameB (p q : Nat) (ys ys' : List ByteArray) : Prop := ys'.length = ys.length ∧ ∀ i, (i < p ∨ q ≤ i) → ys'[i]? = ys[i]?
theorem SameB.refl (p q : Nat) (ys : List ByteArray) : SameB p q ys ys := ⟨rfl, fun _ _ => rfl⟩
theorem SameB.trans {p q r s : Nat} {a b c : List ByteArray} (h : SameB p q a b) (k : SameB r s b c) (h1 : p ≤ r) (h2 : q ≤ s) (h3 : r ≤ q) : SameB p s a c := ⟨k.1.trans h.1, fun i hi => (k.2 i (by omega)).trans (h.2 i (by omega))⟩
theorem LaidK.keep {p q : Nat} {ys ys' : List ByteArray} {K : List (Nat × List Ty)} (h : LaidK ys K) (hs : SameB p q ys ys') (hK : ∀ a ∈ K, a.1 + a.2.length ≤ p ∨ q ≤ a.1) : LaidK ys' K := fun a ha => ⟨(h a ha).1, fun j t hj => by
  have := (h a ha).2 j t hj
  refine ⟨?_, this.2⟩
  have hl : j < a.2.length := (List.getElem?_eq_some_iff.1 hj).1
  rw [hs.2 (a.1 + j) (by have := hK a ha; omega)]
  exact this.1⟩
theorem LaidK.told {ys : List ByteArray} {K : List (Nat × List Ty)} (h : LaidK ys K) : Go.Proofs.YtdfadmhomjcmeaaGreatDoor.Told ys (K.map fun a => (a.1, a.2.headD .dyn)) := by
  intro b hb
  rw [List.mem_map] at hb
  obtain ⟨a, ha, rfl⟩ := hb
  obtain ⟨h1, h2⟩ := h a ha
  cases hl : a.2 with
  | nil => exact absurd hl h1
  | cons t l =>
    have := h2 0 t (by rw [hl]; rfl)
    rw [Nat.add_zero] at this
    exact this
theorem chk_places {same : Bool} : ∀ (f : F) (g : Nat → Env) (k p : Nat) (K : List (Nat × List Ty)), chk same f g k p = .ok K → K.map Prod.fst = f.places p
  | .nil, g, k, p, K, h => by
    simp only [chk, Except.ok.injEq] at h
    subst h; rfl
  | .cons x ks r, g, k, p, K, h => by
    obtain ⟨K1, t, R, _, h2, _, _, h5, rfl⟩ := F.chk_cons h
    simp only [List.map_cons, F.places]
    rw [chk_places r g (k + 1) _ R h5]
/-- All types behind the place. -/
theorem laid_flat {same : Bool} {ys : List ByteArray} : ∀ (f : F) (g : Nat → Env) (k p : Nat) (K : List (Nat × List Ty)), chk same f g k p = .ok K → LaidK ys K → ∀ (j : Nat) (t : Ty), ((K.map Prod.snd).flatten)[j]? = some t → ys[p + j]? = some t.str ∧ t.fits
  | .nil, g, k, p, K, h, _, j, t, hj => by
    simp only [chk, Except.ok.injEq] at h
    subst h; simp at hj
  | .cons x ks r, g, k, p, K, h, hL, j, t, hj => by
    obtain ⟨K1, u, R, _, h2, _, _, h5, rfl⟩ := F.chk_cons h
    have hl := F.chk_len same ks _ 0 (p + 1) K1 h2
    have h1 := (hL _ List.mem_cons_self).2
    simp only [List.map_cons, List.flatten_cons] at hj h1
    by_cases hlt : j < (u :: (K1.map Prod.snd).flatten).length
    · rw [List.getElem?_append_left hlt] at hj
      exact h1 j t hj
    · rw [List.getElem?_append_right (by omega)] at hj
      rw [List.length_cons, hl] at hlt
      have := laid_flat r g (k + 1) (p + 1 + ks.flat.length) R h5 (fun a ha => hL a (List.mem_cons_of_mem _ ha)) _ t hj
      rw [List.length_cons, hl] at this
      rw [show p + 1 + ks.flat.length + (j - (ks.flat.length + 1)) = p + j by omega] at this
      exact this
end Culp.Tr
namespace Go.Proofs.YtdfadmhomjcmeaaGreatDoor
set_option linter.unusedSimpArgs false
set_option linter.unusedVariables false
open Go.RowKit Culp
theorem may_note {x : Nd} (h : Tr.may x = true) : (x.kind = 5 ∨ x.kind = 6 ∨ x.kind = 8 → NoteOk x.t) ∧ (x.kind = 5 ∨ x.kind = 6 → NoteOk x.u) ∧ (x.kind = 29 → ∃ T : Ty, x.t = T.str ∧ T.fits ∧ Tr.noteT x.t = T) := by
  have hn : ∀ s : ByteArray, isTy s.data.toList = true → ∃ T : Ty, s = T.str ∧ T.fits ∧ Tr.noteT s = T := fun s hs => by
    obtain ⟨T, rfl, hT⟩ := ty_of s hs
    refine ⟨T, rfl, hT, ?_⟩
    unfold Tr.noteT
    have := T.enc_pos
    rw [if_neg (by rw [str_size]; omega), tyOf_str T hT]
    rfl
  have hz : ∀ s : ByteArray, s.size ≠ 0 → s.data.toList ≠ [] := fun s hs he => hs (by
    have e : s.data.toList.length = s.size := by rw [Array.length_toList]; rfl
    rw [he] at e
    exact e.symm)
  have ht : ∀ s : ByteArray, Tr.note s.data.toList = true → NoteOk s := fun s hs h0 => by
    unfold Tr.note at hs
    rw [decide_eq_false (hz s h0), Bool.false_or] at hs
    exact hn s hs
  unfold Tr.may at h
  simp only [Bool.and_eq_true] at h
  obtain ⟨⟨⟨_, _⟩, h1⟩, h2⟩ := h
  refine ⟨fun hk => ht _ ?_, fun hk => ht _ ?_, fun hk => hn _ ?_⟩
  · unfold Tr.tOk at h1
    rw [if_pos (by omega)] at h1
    exact h1
  · unfold Tr.uOk at h2
    rw [if_pos (by omega)] at h2
    exact h2
  · unfold Tr.tOk at h1
    rw [if_neg (by omega), if_pos hk] at h1
    exact h1
/-- What a node finds when its kids are told. -/
def KV (c : Nat) (w : World) (kv : Value) (P : List Nat) : Prop := (P ≠ [] → KidsV c w kv P) ∧ (P = [] → ∃ A C, kv = .slice A 0 C)
theorem nat_of {n m : Nat} (h : (n : Int) = m) : m = n := by omega
theorem len_ge {K : List (Nat × Ty)} : (K.length = 1 → ∃ p0 t0, K = [(p0, t0)]) ∧ (K.length = 2 → ∃ p0 t0 p1 t1, K = [(p0, t0), (p1, t1)]) ∧ (K.length = 3 → ∃ p0 t0 p1 t1 p2 t2, K = [(p0, t0), (p1, t1), (p2, t2)]) := by
  refine ⟨fun h => ?_, fun h => ?_, fun h => ?_⟩
  · match K, h with
    | [(a, b)], _ => exact ⟨_, _, rfl⟩
  · match K, h with
    | [(a, b), (c, d)], _ => exact ⟨_, _, _, _, rfl⟩
  · match K, h with
    | [(a, b), (c, d), (e, f)], _ => exact ⟨_, _, _, _, _, _, rfl⟩
section
variable (c B : Nat) (tv yv : Value) (ys : List ByteArray) (a : Nat) (w : World)
variable (p : Nat) (x : Nd) (env : Tr.Env) (K : List (Nat × Ty)) (kv : Value)
set_option maxHeartbeats 1600000 in
theorem asked_any (hm : Tr.may x = true) (h0 : ¬ (x.kind = 1 ∨ x.kind = 2 ∨ x.kind = 3 ∨ x.kind = 4 ∨ x.kind = 5 ∨ x.kind = 6)) (hlen : (K.length : Int) = x.kids) (hTab : Tab w) (hK : KV c w kv (K.map Prod.fst)) (hT : Told ys K) (hKl : K.length ≤ 1000000) (h : CkAt c B tv yv ys 0 a w) :
    Calls Tryz.prog 113 #[.pointer (some ⟨c, 0, none⟩), .int .i64 (p : Int), x.val, kv] w (RuleRes c B tv yv ys a (Tr.nodeT false x env p K) w) := by
  obtain ⟨m1, m2, m3⟩ := may_note hm
  have hk : x.kind ≠ 30 ∧ (Tr.arit x.kind = -1 ∨ Tr.arit x.kind = x.kids) := by
    unfold Tr.may Tr.kOk at hm
    simp only [Bool.and_eq_true, decide_eq_true_eq, Bool.or_eq_true] at hm
    exact ⟨hm.1.1.1.1.1.1, hm.1.1.1.1.2⟩
  obtain ⟨hk30, hk⟩ := hk
  obtain ⟨r1, r2, r3, r4⟩ := Tr.nodeT_row (same := false) (x := x) (env := env) (p := p) (K := K)
  obtain ⟨l1, l2, l3⟩ := len_ge (K := K)
  by_cases h21 : x.kind = 21
  · cases K with
    | nil =>
      obtain ⟨A, C, hK⟩ := hK.2 rfl
      rw [Tr.nodeT_21e h21]
      exact asked_21e c B tv yv ys a w p x kv A C h21 hTab hK h
    | cons y K =>
      obtain ⟨p0, t0⟩ := y
      rw [Tr.nodeT_21 h21]
      exact asked_21 c B tv yv ys a w p x p0 t0 K kv h21 hTab (hK.1 (by simp)) hT (by simp at hKl; omega) h
  have hK0 : K ≠ [] := by
    rintro rfl
    rcases hk with hk | hk
    · exact h21 (Tr.arit_neg hk)
    · have := Tr.arit_zero (hk.trans hlen.symm)
      omega
  have hKV := hK.1 (by simpa using hK0)
  have har : Tr.arit x.kind = (K.length : Int) := by
    rcases hk with hk | hk
    · exact absurd (Tr.arit_neg hk) h21
    · omega
  clear hk hlen
  by_cases h10 : x.kind = 10
  · rw [r1 (.inl h10)]
    exact asked_10 c B tv yv ys a w p x K kv h10 hTab hKV hT hKl h
  by_cases h11 : x.kind = 11
  · rw [r1 (.inr (.inl h11))]
    exact asked_11 c B tv yv ys a w p x K kv h11 hTab hKV hT hKl h
  by_cases h12 : x.kind = 12
  · rw [r1 (.inr (.inr (.inl h12)))]
    exact asked_12 c B tv yv ys a w p x K kv h12 hTab hKV hT hKl h
  by_cases h16 : x.kind = 16
  · rw [r1 (.inr (.inr (.inr h16)))]
    exact asked_16 c B tv yv ys a w p x K kv h16 hTab hKV hT hKl h
  by_cases h14 : x.kind = 14
  · rw [r2 (.inl h14)]
    exact asked_14 c B tv yv ys a w p x K kv h14 hTab hKV hT hKl h
  by_cases h15 : x.kind = 15
  · rw [r2 (.inr h15)]
    exact asked_15 c B tv yv ys a w p x K kv h15 hTab hKV hT hKl h
  by_cases h13 : x.kind = 13
  · rw [r3 h13]
    exact asked_13 c B tv yv ys a w p x K kv h13 hTab hKV hT hKl h
  by_cases h17 : x.kind = 17
  · rw [r4 h17]
    exact asked_17 c B tv yv ys a w p x K kv h17 hTab hKV hT hKl h
  by_cases h19 : x.kind = 19
  · obtain ⟨p0, t0, rfl⟩ := l1 (nat_of (n := 1) (by rw [h19] at har; exact har))
    rw [Tr.nodeT_19 h19]
    exact asked_19 (c := c) (B := B) (tv := tv) (yv := yv) (ys := ys) (a := a) (w := w) (p := p) (x := x) (p0 := p0) (t0 := t0) (K := []) (kv := kv) h19 hTab hKV hT h
  by_cases h20 : x.kind = 20
  · obtain ⟨p0, t0, rfl⟩ := l1 (nat_of (n := 1) (by rw [h20] at har; exact har))
    rw [Tr.nodeT_20 h20]
    exact asked_20 (c := c) (B := B) (tv := tv) (yv := yv) (ys := ys) (a := a) (w := w) (p := p) (x := x) (p0 := p0) (t0 := t0) (K := []) (kv := kv) h20 hTab hKV hT h
  by_cases h26 : x.kind = 26
  · obtain ⟨p0, t0, rfl⟩ := l1 (nat_of (n := 1) (by rw [h26] at har; exact har))
    rw [Tr.nodeT_26 h26]
    exact asked_26 (c := c) (B := B) (tv := tv) (yv := yv) (ys := ys) (a := a) (w := w) (p := p) (x := x) (p0 := p0) (t0 := t0) (K := []) (kv := kv) h26 hTab hKV hT h
  by_cases h27 : x.kind = 27
  · obtain ⟨p0, t0, rfl⟩ := l1 (nat_of (n := 1) (by rw [h27] at har; exact har))
    rw [Tr.nodeT_27 h27]
    exact asked_27 (c := c) (B := B) (tv := tv) (yv := yv) (ys := ys) (a := a) (w := w) (p := p) (x := x) (p0 := p0) (t0 := t0) (K := []) (kv := kv) h27 hTab hKV hT h
  by_cases h22 : x.kind = 22
  · obtain ⟨p0, t0, rfl⟩ := l1 (nat_of (n := 1) (by rw [h22] at har; exact har))
    rw [Tr.nodeT_22 h22]
    exact asked_22 (c := c) (B := B) (tv := tv) (yv := yv) (ys := ys) (a := a) (w := w) (p := p) (x := x) (p0 := p0) (t0 := t0) (K := []) (kv := kv) h22 hTab hKV hT h
  by_cases h23 : x.kind = 23
  · obtain ⟨p0, t0, rfl⟩ := l1 (nat_of (n := 1) (by rw [h23] at har; exact har))
    rw [Tr.nodeT_23 h23]
    exact asked_23 (c := c) (B := B) (tv := tv) (yv := yv) (ys := ys) (a := a) (w := w) (p := p) (x := x) (p0 := p0) (t0 := t0) (K := []) (kv := kv) h23 hTab hKV hT h
  by_cases h24 : x.kind = 24
  · obtain ⟨p0, t0, rfl⟩ := l1 (nat_of (n := 1) (by rw [h24] at har; exact har))
    rw [Tr.nodeT_24 h24]
    exact asked_24 (c := c) (B := B) (tv := tv) (yv := yv) (ys := ys) (a := a) (w := w) (p := p) (x := x) (p0 := p0) (t0 := t0) (K := []) (kv := kv) h24 hTab hKV hT h
  by_cases h29 : x.kind = 29
  · obtain ⟨p0, t0, rfl⟩ := l1 (nat_of (n := 1) (by rw [h29] at har; exact har))
    obtain ⟨T, e1, e2, e3⟩ := m3 h29
    rw [Tr.nodeT_29 h29, e3]
    exact asked_29 (c := c) (B := B) (tv := tv) (yv := yv) (ys := ys) (a := a) (w := w) (p := p) (x := x) (p0 := p0) (t0 := t0) (K := []) (kv := kv) h29 hTab hKV hT h T e1 e2
  by_cases h7 : x.kind = 7
  · obtain ⟨p0, t0, p1, t1, rfl⟩ := l2 (nat_of (n := 2) (by rw [h7] at har; exact har))
    rw [Tr.nodeT_7 h7]
    exact asked_7 (c := c) (B := B) (tv := tv) (yv := yv) (ys := ys) (a := a) (w := w) (p := p) (x := x) (p0 := p0) (t0 := t0) (p1 := p1) (t1 := t1) (kv := kv) h7 hTab hKV hT h 
  by_cases h18 : x.kind = 18
  · obtain ⟨p0, t0, p1, t1, rfl⟩ := l2 (nat_of (n := 2) (by rw [h18] at har; exact har))
    rw [Tr.nodeT_18 h18]
    exact asked_18 (c := c) (B := B) (tv := tv) (yv := yv) (ys := ys) (a := a) (w := w) (p := p) (x := x) (p0 := p0) (t0 := t0) (p1 := p1) (t1 := t1) (kv := kv) h18 hTab hKV hT h 
  by_cases h25 : x.kind = 25
  · obtain ⟨p0, t0, p1, t1, rfl⟩ := l2 (nat_of (n := 2) (by rw [h25] at har; exact har))
    rw [Tr.nodeT_25 h25]
    exact asked_25 (c := c) (B := B) (tv := tv) (yv := yv) (ys := ys) (a := a) (w := w) (p := p) (x := x) (p0 := p0) (t0 := t0) (p1 := p1) (t1 := t1) (kv := kv) h25 hTab hKV hT h 
  by_cases h28 : x.kind = 28
  · obtain ⟨p0, t0, p1, t1, rfl⟩ := l2 (nat_of (n := 2) (by rw [h28] at har; exact har))
    rw [Tr.nodeT_28 h28]
    exact asked_28 (c := c) (B := B) (tv := tv) (yv := yv) (ys := ys) (a := a) (w := w) (p := p) (x := x) (p0 := p0) (t0 := t0) (p1 := p1) (t1 := t1) (kv := kv) h28 hTab hKV hT h 
  by_cases h8 : x.kind = 8
  · obtain ⟨p0, t0, p1, t1, rfl⟩ := l2 (nat_of (n := 2) (by rw [h8] at har; exact har))
    rw [Tr.nodeT_8 h8]
    exact asked_8 (c := c) (B := B) (tv := tv) (yv := yv) (ys := ys) (a := a) (w := w) (p := p) (x := x) (p0 := p0) (t0 := t0) (p1 := p1) (t1 := t1) (kv := kv) h8 hTab hKV hT h (m1 (.inr (.inr h8)))
  by_cases h9 : x.kind = 9
  · obtain ⟨p0, t0, p1, t1, p2, t2, rfl⟩ := l3 (nat_of (n := 3) (by rw [h9] at har; exact har))
    rw [Tr.nodeT_9 h9]
    exact asked_9 (c := c) (B := B) (tv := tv) (yv := yv) (ys := ys) (a := a) (w := w) (p := p) (x := x) (p0 := p0) (t0 := t0) (p1 := p1) (t1 := t1) (p2 := p2) (t2 := t2) (kv := kv) h9 hTab hKV hT h
  exfalso
  have hp : 0 < Tr.arit x.kind := by
    have := List.length_pos_iff.2 hK0
    omega
  have := Tr.arit_pos hp
  clear hp har r1 r2 r3 r4 l1 l2 l3
  omega
end
end Go.Proofs.YtdfadmhomjcmeaaGreatDoor

/- Walks of the checker: a part, out of what its node's rule answers. -/
namespace Culp.Tr
set_option linter.unusedSimpArgs false
set_option linter.unusedVariables false
open Go
/-- A node's type by its rule, and the types of the nodes of its kids. -/
def ruleT (x : Nd) (ks : F) (env : Env) (p : Nat) : Except Bad (Ty × List Ty) :=
  match (if x.kind = 5 ∨ x.kind = 6 then (sizeT p (.fn (noteT x.t) (noteT x.u))).map fun _ => () else .ok ()) with
  | .error b => .error b
  | .ok _ => match chk false ks (fun j => innerT x j env) 0 (p + 1) with
    | .error b => .error b
    | .ok K => match nodeT false x env p (K.map fun a => (a.1, a.2.headD .dyn)) with
      | .error b => .error b
      | .ok t => .ok (t, (K.map Prod.snd).flatten)
def partR (p : Nat) (R : Except Bad (Ty × List Ty)) : Except Bad (List Ty) := match R with
  | .error b => .error b
  | .ok (t, L) => (sizeT p t).map fun t => t :: L
theorem chk1_rule (x : Nd) (ks : F) (env : Env) (p : Nat) : chk1 false x ks env p = partR p (ruleT x ks env p) := by
  unfold chk1 ruleT
  simp only [chk]
  generalize (if x.kind = 5 ∨ x.kind = 6 then (sizeT p (.fn (noteT x.t) (noteT x.u))).map fun _ => () else .ok () : Except Bad Unit) = A
  cases A with
  | error b => rfl
  | ok _ =>
    simp only []
    generalize chk false ks (fun j => innerT x j env) 0 (p + 1) = K
    cases K with
    | error b => rfl
    | ok K =>
      simp only []
      generalize nodeT false x env p (K.map fun a => (a.1, a.2.headD .dyn)) = t
      cases t with
      | error b => rfl
      | ok t =>
        simp only [partR]
        cases sizeT p t with
        | error b => rfl
        | ok u => simp [Except.map]
theorem laid_set {ys : List ByteArray} {p : Nat} {t : Ty} {L : List Ty} (hp : p < ys.length) (ht : t.fits) (hL : ∀ (j : Nat) (u : Ty), L[j]? = some u → ys[p + 1 + j]? = some u.str ∧ u.fits) : LaidK (ys.set p t.str) [(p, t :: L)] := by
  intro a ha
  simp only [List.mem_singleton] at ha
  subst ha
  refine ⟨by simp, fun j u hj => ?_⟩
  cases j with
  | zero =>
    simp only [List.getElem?_cons_zero, Option.some.injEq] at hj
    subst hj
    exact ⟨by simp [hp], ht⟩
  | succ j =>
    simp only [List.getElem?_cons_succ] at hj
    have := hL j u hj
    rw [show p + 1 + j = p + (j + 1) by omega] at this
    refine ⟨?_, this.2⟩
    rw [List.getElem?_set_ne (by omega)]
    exact this.1
theorem same_set {p q : Nat} {ys ys' : List ByteArray} {s : ByteArray} (h : SameB (p + 1) q ys ys') : SameB p (max q (p + 1)) ys (ys'.set p s) := by
  refine ⟨by rw [List.length_set]; exact h.1, fun i hi => ?_⟩
  rw [List.getElem?_set_ne (by omega)]
  exact h.2 i (by omega)
end Culp.Tr
namespace Go.Proofs.YtdfadmhomjcmeaaGreatDoor
set_option linter.unusedSimpArgs false
set_option linter.unusedVariables false
open Go.RowKit Go.Maps Culp
/-- What a part's check answers. -/
def PartRes (c B : Nat) (tv yv : Value) (ys : List ByteArray) (a p m : Nat) (R : Except Tr.Bad (List Ty)) (w : World) (E : Ending) (w' : World) : Prop :=
  ∃ (s : ByteArray) (ys' : List ByteArray), E = .returned (.string s) ∧ CkAt c B tv yv ys' (Tr.stE R) (Tr.stA a R) w' ∧ KeepN c yv.ownBlock w w' ∧ Tr.Good R ∧ Tr.SameB p (p + m) ys ys' ∧ ∀ ts, R = .ok ts → Tr.LaidK ys' [(p, ts)] ∧ ts.length = m ∧ s = (ts.headD .dyn).str
/-- What a node's rule answers, with its kids. -/
def RuleP (c B : Nat) (tv yv : Value) (ys : List ByteArray) (a p m : Nat) (R : Except Tr.Bad (Ty × List Ty)) (w : World) (E : Ending) (w' : World) : Prop :=
  ∃ (s : ByteArray) (ys' : List ByteArray), E = .returned (.string s) ∧ CkAt c B tv yv ys' (Tr.stE R) (Tr.stA a R) w' ∧ KeepN c yv.ownBlock w w' ∧ Tr.Good R ∧ Tr.SameB (p + 1) (p + m) ys ys' ∧ ∀ t L, R = .ok (t, L) → s = t.str ∧ L.length + 1 = m ∧ ∀ (j : Nat) (u : Ty), L[j]? = some u → ys'[p + 1 + j]? = some u.str ∧ u.fits
theorem KeepN.set {a g : Nat} {o : Option Nat} {w w1 : World} (h : KeepN a o w w1) (ho : o = some g) (i : Nat) (v : Value) : KeepN a o w (w1.setCell ⟨g, i, none⟩ v) :=
  ⟨h.os, h.tape, h.output, by have := h.size; simpa [World.setCell] using this, fun k hk hka hko => by
    rw [Below.heap_setCell _ _ _ _ (by rintro rfl; exact hko ho)]
    exact h.block k hk hka hko⟩
theorem KeepN.keep {a : Nat} {o : Option Nat} {w w1 w2 : World} (h : KeepN a o w w1) (k : Keep a w1 w2) : KeepN a o w w2 :=
  ⟨k.os.trans h.os, k.tape.trans h.tape, k.output.trans h.output, Nat.le_trans h.size k.size, fun i hi hia hio => (k.block i (Nat.lt_of_lt_of_le hi h.size) hia).trans (h.block i hi hia hio)⟩
theorem CkAt.write {c B a i g C n : Nat} {tv : Value} {ys : List ByteArray} {e : Int} {w : World} (h : CkAt c B tv (.slice (some ⟨g, 0, none⟩) n C) ys e a w) (hn : n = ys.length) (s : ByteArray) : CkAt c B tv (.slice (some ⟨g, 0, none⟩) n C) (ys.set i s) e a (w.setCell ⟨g, i, none⟩ (.string s)) := by
  subst hn
  refine ⟨?_, ?_⟩
  · rw [Below.heap_setCell _ _ _ _ (by intro e; exact h.ne (by rw [e]; rfl))]
    exact h.box
  · have := own_setv h.own i (.string s)
    rw [List.length_set, List.map_set]
    exact this
section
variable (c B : Nat) (tv yv : Value) (ys : List ByteArray) (a : Nat) (w : World)
set_option maxRecDepth 100000 in
set_option maxHeartbeats 1600000 in
theorem part_of (p m : Nat) (ev : Value) (R : Except Tr.Bad (Ty × List Ty)) (hm : 1 ≤ m) (hp : p < ys.length)
    (HR : Calls Tryz.prog 63 #[.pointer (some ⟨c, 0, none⟩), .int .i64 (p : Int), ev] w (RuleP c B tv yv ys a p m R w)) :
    Calls Tryz.prog 26 #[.pointer (some ⟨c, 0, none⟩), .int .i64 (p : Int), ev] w (PartRes c B tv yv ys a p m (Tr.partR p R) w) := by
  have HRR := Lib.hid HR
  clear HR
  go_enter Tryz.func26, Tryz.ntmps26
  go_wp2_with fail
  refine HRR.out.mono ?_
  rintro E w1 ⟨s, ys1, rfl, hC1, hK1, hG, hS, hL⟩
  have HC1 := Lib.hid hC1
  have HK1 := Lib.hid hK1
  have HS1 := Lib.hid hS
  have c1 := hC1.c1
  obtain ⟨s0, hs0⟩ : ∃ s0, ys1[p]? = some s0 := ⟨_, List.getElem?_eq_getElem (by rw [hS.1]; exact hp)⟩
  obtain ⟨g, C, rfl, r0, hlt, fz⟩ := hC1.read hs0
  have hmx : max (p + m) (p + 1) = p + m := by omega
  cases R with
  | error b =>
    have c2 : w1.cell? ⟨c, 2, none⟩ = some (.int .i64 b.1) := hC1.c2
    have hb : (b.1 == 0) = false := beq_eq_false_iff_ne.2 (hG b rfl)
    have HR : Hid (PartRes c B tv (.slice (some ⟨g, 0, none⟩) ys1.length C) ys a p m (.error b) w (.returned (.string s)) (w1.setCell ⟨g, p, none⟩ (.string s))) := Lib.hid ⟨s, ys1.set p s, rfl, HC1.out.write rfl s, HK1.out.set rfl p _, fun b' h => hG b' (by injection h with h; rw [h]), by have := Tr.same_set (s := s) HS1.out; rw [hmx] at this; exact this, fun ts h => by cases h⟩
    clear hG hS hL hC1 hK1 hs0
    go_wp2_with fail
    go_ret
    exact HR.out
  | ok tL =>
    have c2 : w1.cell? ⟨c, 2, none⟩ = some (.int .i64 0) := hC1.c2
    obtain ⟨t, L⟩ := tL
    obtain ⟨rfl, hl, hL⟩ := hL t L rfl
    by_cases h64 : t.enc.length ≤ 64
    · have hz : ¬ (64 < t.str.size) := by rw [str_size]; omega
      have HR : Hid (PartRes c B tv (.slice (some ⟨g, 0, none⟩) ys1.length C) ys a p m (Tr.partR p (.ok (t, L))) w (.returned (.string t.str)) (w1.setCell ⟨g, p, none⟩ (.string t.str))) := Lib.hid (by
        have e : Tr.partR p (.ok (t, L)) = .ok (t :: L) := by simp [Tr.partR, Tr.sizeT, h64, Except.map]
        rw [e]
        refine ⟨t.str, ys1.set p t.str, rfl, HC1.out.write rfl _, HK1.out.set rfl p _, Tr.good_ok _, by have := Tr.same_set (s := t.str) HS1.out; rw [hmx] at this; exact this, fun ts h => ?_⟩
        injection h with h
        subst h
        exact ⟨Tr.laid_set hlt h64 hL, by rw [List.length_cons]; exact hl, rfl⟩)
      clear hG hS hL hC1 hK1 hs0 h64
      go_wp2_with fail
      go_ret
      exact HR.out
    · have hz : 64 < t.str.size := by rw [str_size]; omega
      have HRF := Lib.hid (refuses_any c B tv _ ys1 a 21 p w1 HC1.out)
      have HRS : Hid (∀ w2, CkAt c B tv (.slice (some ⟨g, 0, none⟩) ys1.length C) ys1 21 p w2 → Keep c w1 w2 → PartRes c B tv (.slice (some ⟨g, 0, none⟩) ys1.length C) ys a p m (Tr.partR p (.ok (t, L))) w (.returned (.string ByteArray.empty)) w2) := Lib.hid (fun w2 h2 k2 => by
        have e : Tr.partR p (.ok (t, L)) = .error (21, p) := by simp [Tr.partR, Tr.sizeT, h64, Except.map]
        rw [e]
        exact ⟨_, ys1, rfl, h2, HK1.out.keep k2, fun b h => by injection h with h; subst h; show (21 : Int) ≠ 0; decide, ⟨HS1.out.1, fun i hi => HS1.out.2 i (by omega)⟩, fun ts h => by cases h⟩)
      clear hG hS hL hC1 hK1 hs0 h64 r0 fz
      go_wp2_with fail
      refine HRF.out.mono ?_
      rintro E w2 ⟨rfl, h2, k2⟩
      have HP := Lib.hid (HRS.out _ h2 k2)
      clear h2 k2
      go_wp2_with fail
      go_ret
      exact HP.out
end
end Go.Proofs.YtdfadmhomjcmeaaGreatDoor

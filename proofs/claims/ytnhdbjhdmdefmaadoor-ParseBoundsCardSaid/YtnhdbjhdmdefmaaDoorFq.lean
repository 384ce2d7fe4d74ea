
/- Plain: a list of nodes that is whole parts, one behind the other, as a forest. -/
import Derived.Test.YtnhdbjhdmdefmaaDoorTrW
import Derived.ArgAppend
namespace Culp.Tr
set_option linter.unusedSimpArgs false
set_option linter.unusedVariables false

/-- Parts one behind the other: the first one's node, its kids, the parts behind it. -/
inductive F where
  | nil
  | cons (x : Nd) (ks r : F)
namespace F
set_option linter.unusedSimpArgs false
set_option linter.unusedVariables false
def flat : F → List Nd
  | nil => []
  | cons x ks r => x :: (ks.flat ++ r.flat)
def cnt : F → Nat
  | nil => 0
  | cons _ _ r => r.cnt + 1
def Ok : F → Prop
  | nil => True
  | cons x ks r => (ks.cnt : Int) = x.kids ∧ ks.Ok ∧ r.Ok
def hgt : F → Nat
  | nil => 0
  | cons _ ks r => max (ks.hgt + 1) r.hgt
/-- The depths of the nodes. -/
def dps : F → Nat → List Nat
  | nil, _ => []
  | cons _ ks r, d => d :: (ks.dps (d + 1) ++ r.dps d)
/-- Where the parts begin. -/
def places : F → Nat → List Nat
  | nil, _ => []
  | cons _ ks r, p => p :: r.places (p + 1 + ks.flat.length)
theorem cnt_le : ∀ f : F, f.cnt ≤ f.flat.length
  | nil => Nat.le_refl _
  | cons x ks r => by
    have := cnt_le r
    simp only [cnt, flat, List.length_cons, List.length_append]; omega
theorem places_len : ∀ (f : F) (p : Nat), (f.places p).length = f.cnt
  | nil, _ => rfl
  | cons x ks r, p => by simp only [places, cnt, List.length_cons, places_len r]
theorem dps_len : ∀ (f : F) (d : Nat), (f.dps d).length = f.flat.length
  | nil, _ => rfl
  | cons x ks r, d => by simp only [dps, flat, List.length_cons, List.length_append, dps_len ks, dps_len r]
theorem beh_flat (N : Nat) : ∀ (f : F) (l : List Nd) (m : Int), f.Ok → f.flat.length ≤ N → 0 ≤ m → beh N (f.flat ++ l) (f.cnt + m) = (beh N l m).map (· + f.flat.length)
  | nil, l, m, _, _, _ => by
    simp only [flat, cnt, List.nil_append, List.length_nil, Nat.add_zero]
    rw [show ((0 : Nat) : Int) + m = m by omega]
    cases beh N l m <;> rfl
  | cons x ks r, l, m, h, hN, hm => by
    simp only [flat, List.length_cons, List.length_append] at hN
    have hc := cnt_le ks
    have h1 := h.1
    simp only [flat, cnt, List.cons_append]
    rw [beh_cons, if_neg (by omega), if_neg (by omega), List.append_assoc, show ((r.cnt + 1 : Nat) : Int) + m - 1 + x.kids = ks.cnt + ((r.cnt : Int) + m) by omega,
      beh_flat N ks _ _ h.2.1 (by omega) (by omega), beh_flat N r _ _ h.2.2 (by omega) hm]
    cases beh N l m with
    | none => rfl
    | some j => simp only [Option.map_some, List.length_cons, List.length_append]; congr 1; omega
/-- What ends is a forest. -/
theorem of_beh (N : Nat) : ∀ (n : Nat) (l : List Nd) (left : Int) (k : Nat), l.length ≤ n → 0 ≤ left → beh N l left = some k → ∃ f : F, f.Ok ∧ (f.cnt : Int) = left ∧ f.flat = l.take k ∧ k ≤ l.length := by
  intro n
  induction n with
  | zero =>
    intro l left k hl h0 h
    obtain rfl : l = [] := List.length_eq_zero_iff.1 (by omega)
    rw [beh_nil] at h
    split at h
    · injection h with h; subst h
      exact ⟨nil, trivial, by show (0 : Int) = left; omega, rfl, Nat.le_refl _⟩
    · cases h
  | succ n ih =>
    intro l left k hl h0 h
    by_cases hz : left = 0
    · subst hz
      rw [beh_zero] at h
      injection h with h; subst h
      exact ⟨nil, trivial, rfl, by rw [List.take_zero]; rfl, Nat.zero_le _⟩
    · cases l with
      | nil => rw [beh_nil, if_neg (by omega)] at h; cases h
      | cons x l =>
        rw [beh_cons, if_neg (by omega)] at h
        split at h
        · cases h
        · rename_i hx
          simp only [Option.map_eq_some_iff] at h
          obtain ⟨k', hk', rfl⟩ := h
          rw [List.length_cons] at hl
          obtain ⟨j, h1, h2, h3, h4⟩ := beh_add N l x.kids (left - 1) k' (by omega) (by omega) (by rw [← hk']; congr 1; omega)
          obtain ⟨fk, a1, a2, a3, a4⟩ := ih l x.kids j (by omega) (by omega) h1
          obtain ⟨fr, b1, b2, b3, b4⟩ := ih (l.drop j) (left - 1) (k' - j) (by rw [List.length_drop]; omega) (by omega) h4
          rw [List.length_drop] at b4
          refine ⟨cons x fk fr, ⟨a2, a1, b1⟩, by simp only [cnt]; omega, ?_, by rw [List.length_cons]; omega⟩
          rw [List.take_succ_cons]
          simp only [flat]
          rw [a3, b3]
          congr 1
          have := List.take_add (l := l) (i := j) (j := k' - j)
          rw [show j + (k' - j) = k' by omega] at this
          exact this.symm
theorem deps_zero : ∀ (l : List Nd) (S : List Int), deps l (0 :: S) = deps l S
  | [], S => by rw [deps_nil, deps_nil]
  | x :: l, S => by
    have hp : pop (0 :: S) = pop S := by unfold pop; rw [List.dropWhile_cons]; rfl
    rw [deps, deps, hp]
theorem deps_flat : ∀ (f : F) (l : List Nd) (m : Int) (S : List Int), f.Ok → 0 ≤ m → deps (f.flat ++ l) (((f.cnt : Int) + m) :: S) = f.dps (S.length + 1) ++ deps l (m :: S)
  | nil, l, m, S, _, _ => by
    simp only [flat, cnt, dps, List.nil_append]
    rw [show ((0 : Nat) : Int) + m = m by omega]
  | cons x ks r, l, m, S, h, hm => by
    have h1 := h.1
    have hp : pop ((((r.cnt + 1 : Nat) : Int) + m) :: S) = (((r.cnt + 1 : Nat) : Int) + m) :: S := by
      unfold pop
      rw [List.dropWhile_cons, if_neg (by simp; omega)]
    simp only [flat, cnt, dps, List.cons_append]
    rw [deps, hp]
    simp only
    rw [show max x.kids 0 = (ks.cnt : Int) + 0 by omega, List.append_assoc, deps_flat ks _ 0 _ h.2.1 (Int.le_refl 0), deps_zero,
      show ((r.cnt + 1 : Nat) : Int) + m - 1 = (r.cnt : Int) + m by omega, deps_flat r _ m S h.2.2 hm, List.length_cons, List.append_assoc]
theorem dps_max : ∀ (f : F) (d m : Nat), 0 < d → (f.dps d).foldl max m = if f.hgt = 0 then m else max m (d - 1 + f.hgt)
  | nil, d, m, _ => rfl
  | cons x ks r, d, m, hd => by
    have e : (cons x ks r).hgt = max (ks.hgt + 1) r.hgt := rfl
    rw [e]
    show (d :: (ks.dps (d + 1) ++ r.dps d)).foldl max m = _
    rw [List.foldl_cons, List.foldl_append, dps_max ks (d + 1) _ (by omega), dps_max r d _ hd]
    split <;> split <;> split <;> omega
theorem hgt_pos {f : F} (h : f.hgt = 0) : f = nil := by
  cases f with
  | nil => rfl
  | cons x ks r => simp only [hgt] at h; omega
theorem hgt_one (x : Nd) (ks : F) : (cons x ks nil).hgt = ks.hgt + 1 := Nat.max_eq_left (Nat.zero_le _)
/-- One part by itself. -/
theorem one_behind {x : Nd} {ks : F} (h : (cons x ks nil).Ok) : behind (x :: ks.flat) 0 = (x :: ks.flat).length := by
  have := beh_flat (x :: ks.flat).length (cons x ks nil) [] 0 h (by simp only [flat, List.append_nil]; exact Nat.le_refl _) (Int.le_refl 0)
  simp only [flat, List.append_nil, cnt] at this
  unfold behind
  rw [if_neg (by simp)]
  show (match beh (x :: ks.flat).length (x :: ks.flat) 1 with | some k => 0 + k | none => 0) = _
  have e : ((0 + 1 : Nat) : Int) + 0 = 1 := rfl
  rw [e] at this
  rw [this, beh_zero]
  simp only [Option.map_some, Nat.zero_add]
theorem one_deps {x : Nd} {ks : F} (h : (cons x ks nil).Ok) : deps (x :: ks.flat) [1] = (cons x ks nil).dps 1 := by
  have := deps_flat (cons x ks nil) [] 0 [] h (Int.le_refl 0)
  simp only [flat, List.append_nil, cnt, deps_nil] at this
  exact this
theorem one_deep {x : Nd} {ks : F} (h : (cons x ks nil).Ok) : deepOf (x :: ks.flat) = ks.hgt + 1 := by
  unfold deepOf
  rw [if_neg (by rintro (h1 | h1); exact absurd h1 (by simp); exact h1 (one_behind h)), one_deps h, dps_max _ _ _ (by decide), hgt_one, if_neg (by omega)]
  omega
theorem firstBad_none (n : Nat) : ∀ (l : List Nd) (i : Nat), firstBad n l i = none ↔ (∀ x ∈ l, may x = true) ∧ (l = [] ∨ i + l.length ≤ n)
  | [], i => by simp [firstBad]
  | x :: l, i => by
    rw [firstBad]
    by_cases h : may x = true ∧ i < n
    · rw [if_pos h, firstBad_none n l (i + 1)]
      constructor
      · rintro ⟨h1, h2⟩
        refine ⟨fun y hy => ?_, .inr ?_⟩
        · rcases List.mem_cons.1 hy with rfl | hy
          · exact h.1
          · exact h1 y hy
        · rcases h2 with rfl | h2
          · simp; omega
          · rw [List.length_cons]; omega
      · rintro ⟨h1, h2⟩
        refine ⟨fun y hy => h1 y (List.mem_cons_of_mem _ hy), .inr ?_⟩
        rcases h2 with h2 | h2
        · cases h2
        · rw [List.length_cons] at h2; omega
    · rw [if_neg h]
      constructor
      · intro h1; cases h1
      · rintro ⟨h1, h2⟩
        refine absurd ⟨h1 x List.mem_cons_self, ?_⟩ h
        rcases h2 with h2 | h2
        · cases h2
        · rw [List.length_cons] at h2; omega
theorem firstDeep_none : ∀ (l : List Nat) (i : Nat), firstDeep l i = none ↔ ∀ d ∈ l, d ≤ 64
  | [], i => by simp [firstDeep]
  | d :: l, i => by
    rw [firstDeep]
    by_cases h : 64 < d
    · rw [if_pos h]
      constructor
      · intro h1; cases h1
      · intro h1; have := h1 d List.mem_cons_self; omega
    · rw [if_neg h, firstDeep_none l (i + 1)]
      constructor
      · intro h1 y hy
        rcases List.mem_cons.1 hy with rfl | hy
        · omega
        · exact h1 y hy
      · intro h1 y hy
        exact h1 y (List.mem_cons_of_mem _ hy)
theorem le_fold : ∀ (D : List Nat) (m : Nat), m ≤ D.foldl max m ∧ ∀ y ∈ D, y ≤ D.foldl max m
  | [], m => ⟨Nat.le_refl _, fun y hy => by cases hy⟩
  | d :: D, m => by
    have := le_fold D (max m d)
    rw [List.foldl_cons]
    refine ⟨by omega, fun y hy => ?_⟩
    rcases List.mem_cons.1 hy with rfl | hy
    · omega
    · exact this.2 y hy
/-- A list that may be a source's tree is one part. -/
theorem of_check {T : List Nd} (h : (check T).1 = 0) : T.length ≤ 4096 ∧ ∃ x ks, T = x :: ks.flat ∧ (cons x ks nil).Ok ∧ (∀ y ∈ T, may y = true) ∧ ks.hgt + 1 ≤ 64 := by
  rw [← check_eq] at h
  unfold refCheck at h
  split at h
  · cases h
  rename_i hT
  split at h
  · cases h
  rename_i hB
  split at h
  · rename_i hb
    split at h
    · cases h
    rename_i hD
    have h0 : T.length ≠ 0 := by omega
    have hw := whole hb h0
    rw [List.drop_zero] at hw
    obtain ⟨f, f1, f2, f3, _⟩ := of_beh T.length T.length T 1 _ (Nat.le_refl _) (by decide) hw
    rw [Nat.sub_zero, List.take_length] at f3
    cases f with
    | nil => simp only [flat] at f3; rw [← f3] at h0; exact absurd rfl h0
    | cons x ks r =>
      have hr : r = nil := by
        cases r with
        | nil => rfl
        | cons y k2 r2 => simp only [cnt] at f2; omega
      subst hr
      simp only [flat, List.append_nil] at f3
      have hle := (firstDeep_none _ _).1 hD
      rw [← f3, one_deps f1] at hle
      refine ⟨by omega, x, ks, f3.symm, f1, ((firstBad_none _ _ _).1 hB).1, ?_⟩
      have hf := fold_le (n := 64) ((cons x ks nil).dps 1) 0 (by decide) hle
      rw [dps_max _ _ _ (by decide), hgt_one, if_neg (by omega)] at hf
      omega
  · cases h
theorem check_one {x : Nd} {ks : F} (hl : (x :: ks.flat).length ≤ 4096) (h : (cons x ks nil).Ok) (hm : ∀ y ∈ x :: ks.flat, may y = true) (hh : ks.hgt + 1 ≤ 64) : check (x :: ks.flat) = (0, 0) := by
  have hd := one_deps h
  rw [← check_eq]
  unfold refCheck
  rw [if_neg (by rw [List.length_cons] at hl ⊢; omega), hd]
  have e1 : firstBad ((cons x ks nil).dps 1).length (x :: ks.flat) 0 = none := (firstBad_none _ _ _).2 ⟨hm, .inr (by rw [dps_len]; simp only [flat, List.append_nil]; omega)⟩
  have e2 : firstDeep ((cons x ks nil).dps 1) 0 = none := (firstDeep_none _ _).2 fun d hdm => by
    have := (le_fold ((cons x ks nil).dps 1) 0).2 d hdm
    rw [dps_max _ _ _ (by decide), hgt_one, if_neg (by omega)] at this
    omega
  rw [e1, e2]
  simp only
  rw [if_pos (one_behind h)]
/-- Each node with its kids. -/
theorem at_place : ∀ (f : F) (p : Nat), f.Ok → p < f.flat.length → ∃ pre x ks post, f.flat = pre ++ x :: (ks.flat ++ post) ∧ pre.length = p ∧ (cons x ks nil).Ok ∧ ks.hgt + 1 ≤ f.hgt
  | nil, p, _, hp => by simp [flat] at hp
  | cons x ks r, p, h, hp => by
    by_cases h0 : p = 0
    · subst h0
      exact ⟨[], x, ks, r.flat, rfl, rfl, ⟨h.1, h.2.1, trivial⟩, by simp only [hgt]; omega⟩
    · by_cases h1 : p < 1 + ks.flat.length
      · obtain ⟨pre, y, k2, post, a1, a2, a3, a4⟩ := at_place ks (p - 1) h.2.1 (by omega)
        refine ⟨x :: pre, y, k2, post ++ r.flat, ?_, by rw [List.length_cons]; omega, a3, by simp only [hgt]; omega⟩
        simp only [flat]
        rw [a1]
        simp
      · simp only [flat, List.length_cons, List.length_append] at hp
        obtain ⟨pre, y, k2, post, a1, a2, a3, a4⟩ := at_place r (p - 1 - ks.flat.length) h.2.2 (by omega)
        refine ⟨x :: (ks.flat ++ pre), y, k2, post, ?_, by rw [List.length_cons, List.length_append]; omega, a3, by simp only [hgt]; omega⟩
        simp only [flat]
        rw [a1]
        simp
/-- Where a node's part ends. -/
theorem behind_at {T pre post : List Nd} {x : Nd} {ks : F} (hT : T = pre ++ x :: (ks.flat ++ post)) (h : (cons x ks nil).Ok) : behind T (pre.length : Int) = pre.length + 1 + ks.flat.length := by
  have hl : T.length = pre.length + (1 + (ks.flat.length + post.length)) := by rw [hT]; simp; omega
  have hd : T.drop pre.length = (cons x ks nil).flat ++ post := by rw [hT, List.drop_left]; simp [flat]
  have := beh_flat T.length (cons x ks nil) post 0 h (by simp only [flat, List.append_nil, List.length_cons]; omega) (Int.le_refl 0)
  rw [← hd, beh_zero] at this
  have e : ((cons x ks nil).cnt : Int) + 0 = 1 := rfl
  rw [e] at this
  unfold behind
  rw [if_neg (by omega), show (pre.length : Int).toNat = pre.length from Int.toNat_natCast _, this]
  simp only [Option.map_some, flat, List.append_nil, List.length_cons]
  omega
theorem kids_from {T : List Nd} : ∀ (f : F) (pre post : List Nd), T = pre ++ (f.flat ++ post) → f.Ok → kidsFrom T f.cnt pre.length = f.places pre.length
  | nil, pre, post, _, _ => rfl
  | cons x ks r, pre, post, hT, h => by
    have h1 := behind_at (T := T) (pre := pre) (x := x) (ks := ks) (post := r.flat ++ post) (by rw [hT]; simp [flat]) ⟨h.1, h.2.1, trivial⟩
    have h2 := kids_from (T := T) r (pre ++ x :: ks.flat) post (by rw [hT]; simp [flat]) h.2.2
    simp only [List.length_append, List.length_cons] at h2
    rw [cnt, kidsFrom, h1, places]
    rw [show pre.length + (ks.flat.length + 1) = pre.length + 1 + ks.flat.length by omega] at h2
    rw [h2]
/-- Where a node's kids begin. -/
theorem kids_at {T pre post : List Nd} {x : Nd} {ks : F} (hT : T = pre ++ x :: (ks.flat ++ post)) (h : (cons x ks nil).Ok) : kidsOf T (pre.length : Int) = ks.places (pre.length + 1) := by
  unfold kidsOf
  rw [behind_at hT h, if_neg (by omega), show (pre.length : Int).toNat = pre.length from Int.toNat_natCast _]
  have hx : T[pre.length]? = some x := by rw [hT]; simp
  rw [hx]
  simp only [Option.map_some, Option.getD_some]
  have hk : x.kids.toNat = ks.cnt := by have := h.1; omega
  rw [hk]
  have := kids_from (T := T) ks (pre ++ [x]) post (by rw [hT]; simp) h.2.1
  simp only [List.length_append, List.length_singleton] at this
  exact this
end F
end Culp.Tr

/- Plain: the free names of a forest. -/
namespace Culp.Tr
set_option linter.unusedSimpArgs false
set_option linter.unusedVariables false
theorem bytes_beq (a b : ByteArray) : (a == b) = decide (a = b) := by
  rcases a with ⟨a⟩
  rcases b with ⟨b⟩
  show (a == b) = _
  rw [Bool.eq_iff_iff, beq_iff_eq, decide_eq_true_eq, ByteArray.mk.injEq]
instance bytesLawful : LawfulBEq ByteArray where
  eq_of_beq {a b} h := by rw [bytes_beq] at h; exact of_decide_eq_true h
  rfl {a} := by rw [bytes_beq]; exact decide_eq_true rfl
/-- The names that a node binds in its kid number k. -/
def binds (x : Nd) (k : Nat) : List ByteArray :=
  if x.kind = 5 then [x.s]
  else if x.kind = 6 then (match two x.s.data.toList with | some (a, b) => [⟨a.toArray⟩, ⟨b.toArray⟩] | none => [])
  else if x.kind = 8 ∧ k = 1 then [x.s]
  else []
def add1 (out : List ByteArray) (s : ByteArray) : List ByteArray := if s ∈ out then out else out ++ [s]
/-- Names, those that are not yet there. -/
def addAll (out l : List ByteArray) : List ByteArray := l.foldl add1 out
theorem addAll_nil (out : List ByteArray) : addAll out [] = out := rfl
theorem addAll_cons (out : List ByteArray) (s : ByteArray) (l : List ByteArray) : addAll out (s :: l) = addAll (add1 out s) l := rfl
theorem addAll_append (out a b : List ByteArray) : addAll out (a ++ b) = addAll (addAll out a) b := List.foldl_append
theorem mem_add1 {out : List ByteArray} {s t : ByteArray} : t ∈ add1 out s ↔ t ∈ out ∨ t = s := by
  unfold add1
  split
  · rename_i h
    constructor
    · exact .inl
    · rintro (h1 | rfl)
      · exact h1
      · exact h
  · rw [List.mem_append, List.mem_singleton]
theorem mem_addAll {t : ByteArray} : ∀ (l out : List ByteArray), t ∈ addAll out l ↔ t ∈ out ∨ t ∈ l
  | [], out => by simp [addAll_nil]
  | s :: l, out => by
    rw [addAll_cons, mem_addAll l, mem_add1, List.mem_cons]
    constructor
    · rintro ((h | h) | h)
      · exact .inl h
      · exact .inr (.inl h)
      · exact .inr (.inr h)
    · rintro (h | h | h)
      · exact .inl (.inl h)
      · exact .inl (.inr h)
      · exact .inr h
theorem addAll_filter (p : ByteArray → Bool) : ∀ (l acc out : List ByteArray), addAll out ((addAll acc l).filter p) = addAll (addAll out (acc.filter p)) (l.filter p)
  | [], acc, out => rfl
  | s :: l, acc, out => by
    rw [addAll_cons, addAll_filter p l]
    by_cases hp : p s = true
    · rw [List.filter_cons_of_pos hp, addAll_cons]
      congr 1
      unfold add1
      by_cases hs : s ∈ acc
      · rw [if_pos hs, if_pos ((mem_addAll _ _).2 (.inr (List.mem_filter.2 ⟨hs, hp⟩)))]
      · rw [if_neg hs, List.filter_append, addAll_append, List.filter_cons_of_pos hp]
        rfl
    · rw [List.filter_cons_of_neg hp]
      congr 1
      unfold add1
      split
      · rfl
      · rw [List.filter_append, List.filter_cons_of_neg hp, List.filter_nil, List.append_nil]
theorem addAll_len (l out : List ByteArray) : (addAll out l).length ≤ out.length + l.length := by
  induction l generalizing out with
  | nil => exact Nat.le_refl _
  | cons s l ih =>
    have := ih (add1 out s)
    rw [addAll_cons, List.length_cons]
    have h : (add1 out s).length ≤ out.length + 1 := by
      unfold add1
      split
      · omega
      · rw [List.length_append]; exact Nat.le_refl _
    omega
namespace F
set_option linter.unusedSimpArgs false
set_option linter.unusedVariables false
/-- The names that stand free, from left to right; those that are bound in the k-th part are told. -/
def vars : F → (Nat → List ByteArray) → Nat → List ByteArray
  | nil, _, _ => []
  | cons x ks r, f, k => (if x.kind = 4 then (if x.s ∈ f k then [] else [x.s]) else ks.vars (fun j => f k ++ binds x j) 0) ++ r.vars f (k + 1)
theorem vars_filter (c : List ByteArray) : ∀ (t : F) (g : Nat → List ByteArray) (k : Nat), t.vars (fun j => c ++ g j) k = (t.vars g k).filter (fun s => decide (s ∉ c))
  | nil, g, k => rfl
  | cons x ks r, g, k => by
    simp only [vars, List.filter_append]
    rw [vars_filter c r g (k + 1)]
    congr 1
    split
    · by_cases h1 : x.s ∈ g k
      · rw [if_pos h1, if_pos (List.mem_append.2 (.inr h1)), List.filter_nil]
      · rw [if_neg h1]
        by_cases h2 : x.s ∈ c
        · rw [if_pos (List.mem_append.2 (.inl h2)), List.filter_cons_of_neg (by simp [h2]), List.filter_nil]
        · rw [if_neg (by rw [List.mem_append]; rintro (h | h); exact h2 h; exact h1 h), List.filter_cons_of_pos (by simp [h2]), List.filter_nil]
    · rw [← vars_filter c ks (fun j => g k ++ binds x j) 0]
      simp only [List.append_assoc]
theorem vars_congr : ∀ (t : F) (f g : Nat → List ByteArray) (k m : Nat), (∀ i, i < t.cnt → f (k + i) = g (m + i)) → t.vars f k = t.vars g m
  | nil, f, g, k, m, _ => rfl
  | cons x ks r, f, g, k, m, h => by
    have h0 : f k = g m := h 0 (by simp only [cnt]; omega)
    simp only [vars]
    rw [h0, vars_congr r f g (k + 1) (m + 1) (fun i hi => by
      have := h (i + 1) (by simp only [cnt]; omega)
      rw [show k + 1 + i = k + (i + 1) by omega, show m + 1 + i = m + (i + 1) by omega]; exact this)]
/-- The free names of one part. -/
def free (x : Nd) (ks : F) : List ByteArray := addAll [] ((cons x ks nil).vars (fun _ => []) 0)
theorem free_kids {x : Nd} {ks : F} (h : x.kind ≠ 4) : free x ks = addAll [] (ks.vars (fun j => binds x j) 0) := by
  unfold free
  simp only [vars]
  rw [if_neg h, List.append_nil]
  rfl
/-- The kids' free names but those that are bound, gathered. -/
theorem free_step (x y : Nd) (ky r : F) (k : Nat) (out : List ByteArray) :
    addAll out ((cons y ky r).vars (fun j => binds x j) k) = addAll (addAll out ((free y ky).filter (fun s => decide (s ∉ binds x k)))) (r.vars (fun j => binds x j) (k + 1)) := by
  have h1 : (cons y ky r).vars (fun j => binds x j) k = (cons y ky nil).vars (fun j => binds x j) k ++ r.vars (fun j => binds x j) (k + 1) := by
    simp only [vars, List.append_nil]
  have h2 : (cons y ky nil).vars (fun j => binds x j) k = (cons y ky nil).vars (fun j => binds x k ++ (fun _ => []) j) 0 := vars_congr _ _ _ _ _ (fun i hi => by
    simp only [cnt] at hi
    obtain rfl : i = 0 := by omega
    rw [List.append_nil]; rfl)
  rw [h1, addAll_append, h2, vars_filter]
  congr 1
  unfold free
  rw [addAll_filter]
  rfl
theorem vars_len : ∀ (t : F) (f : Nat → List ByteArray) (k : Nat), (t.vars f k).length ≤ t.flat.length
  | nil, f, k => Nat.le_refl _
  | cons x ks r, f, k => by
    simp only [vars, flat, List.length_append, List.length_cons]
    have h1 := vars_len r f (k + 1)
    have h2 := vars_len ks (fun j => f k ++ binds x j) 0
    split
    · split
      · simp only [List.length_nil]; omega
      · simp only [List.length_singleton]; omega
    · omega
theorem free_len (x : Nd) (ks : F) : (free x ks).length ≤ (x :: ks.flat).length := by
  have h1 := addAll_len ((cons x ks nil).vars (fun _ => []) 0) []
  have h2 := vars_len (cons x ks nil) (fun _ => []) 0
  simp only [flat, List.append_nil] at h2
  unfold free
  rw [List.length_nil] at h1
  omega
end F
end Culp.Tr

/- Plain: the free names as the document tells them: each Var is asked for a binder above it. -/
namespace Culp.Tr
set_option linter.unusedSimpArgs false
set_option linter.unusedVariables false
/-- Does the node at a place, above another one, bind a name there? -/
def Bnd (T : List Nd) (i q : Nat) (s : ByteArray) : Prop := ∃ x, T[i]? = some x ∧ q < behind T (i : Int) ∧ ∃ kk kp : Nat, (kidsOf T (i : Int))[kk]? = some kp ∧ kp ≤ q ∧ q < behind T (kp : Int) ∧ s ∈ binds x kk
/-- The name of a Var that is not bound. -/
def varAt (x : Nd) (b : List ByteArray) : List ByteArray := if x.kind = 4 then (if x.s ∈ b then [] else [x.s]) else []
namespace F
set_option linter.unusedSimpArgs false
set_option linter.unusedVariables false
/-- What is bound at a place. -/
def bset : F → (Nat → List ByteArray) → Nat → Nat → List ByteArray
  | nil, _, _, _ => []
  | cons x ks r, g, k, q => if q = 0 then g k else if q < 1 + ks.flat.length then ks.bset (fun j => g k ++ binds x j) 0 (q - 1) else r.bset g (k + 1) (q - 1 - ks.flat.length)
/-- Which part a place lies in. -/
def idx : F → Nat → Nat
  | nil, _ => 0
  | cons _ ks r, q => if q < 1 + ks.flat.length then 0 else r.idx (q - 1 - ks.flat.length) + 1
/-- A Var has no kids. -/
def Leafy : F → Prop
  | nil => True
  | cons x ks r => (x.kind = 4 → ks = nil) ∧ ks.Leafy ∧ r.Leafy
theorem cnt_zero {f : F} (h : f.cnt = 0) : f = nil := by
  cases f with
  | nil => rfl
  | cons x ks r => simp [cnt] at h
theorem leafy_of : ∀ f : F, f.Ok → (∀ y ∈ f.flat, may y = true) → f.Leafy
  | nil, _, _ => trivial
  | cons x ks r, h, hm => by
    simp only [flat, List.mem_cons, List.mem_append] at hm
    refine ⟨fun h4 => ?_, leafy_of ks h.2.1 (fun y hy => hm y (.inr (.inl hy))), leafy_of r h.2.2 (fun y hy => hm y (.inr (.inr hy)))⟩
    have hx := hm x (.inl rfl)
    unfold may kOk at hx
    simp only [Bool.and_eq_true, decide_eq_true_eq, Bool.or_eq_true] at hx
    have ha : arit x.kind = 0 := by rw [h4]; rfl
    have h1 := h.1
    exact cnt_zero (by have := hx.1.1.1.1.2; omega)
theorem vars_gather : ∀ (f : F) (g : Nat → List ByteArray) (k : Nat), f.Leafy → f.vars g k = (List.range f.flat.length).flatMap fun q => match f.flat[q]? with | some x => varAt x (f.bset g k q) | none => []
  | nil, g, k, _ => rfl
  | cons x ks r, g, k, h => by
    have e1 : (cons x ks r).flat.length = 1 + ks.flat.length + r.flat.length := by simp only [flat, List.length_cons, List.length_append]; omega
    rw [e1, List.range_add, List.range_add, List.flatMap_append, List.flatMap_append, List.flatMap_map, List.flatMap_map]
    simp only [vars]
    rw [vars_gather r g (k + 1) h.2.2]
    have e0 : List.range 1 = [0] := rfl
    rw [e0]
    congr 1
    · have h2 : (List.range ks.flat.length).flatMap (fun q => match (cons x ks r).flat[1 + q]? with | some x_1 => varAt x_1 ((cons x ks r).bset g k (1 + q)) | none => []) = (List.range ks.flat.length).flatMap fun q => match ks.flat[q]? with | some y => varAt y (ks.bset (fun j => g k ++ binds x j) 0 q) | none => [] := by
        rw [List.flatMap_def, List.flatMap_def]
        congr 1
        refine List.map_congr_left fun q hq => ?_
        have hq := List.mem_range.1 hq
        have e2 : (cons x ks r).flat[1 + q]? = ks.flat[q]? := by
          simp only [flat]
          rw [Nat.add_comm 1 q, List.getElem?_cons_succ, List.getElem?_append_left hq]
        have e3 : (cons x ks r).bset g k (1 + q) = ks.bset (fun j => g k ++ binds x j) 0 q := by
          rw [bset, if_neg (by omega), if_pos (by omega), show 1 + q - 1 = q by omega]
        rw [e2, e3]
      rw [h2, ← vars_gather ks _ 0 h.2.1]
      simp only [List.flatMap_cons, List.flatMap_nil, List.append_nil]
      have e4 : (cons x ks r).flat[0]? = some x := rfl
      have e5 : (cons x ks r).bset g k 0 = g k := by rw [bset, if_pos rfl]
      rw [e4, e5]
      show _ = varAt x (g k) ++ _
      unfold varAt
      by_cases h4 : x.kind = 4
      · rw [if_pos h4, if_pos h4, h.1 h4]
        simp only [vars, List.append_nil]
      · rw [if_neg h4, if_neg h4, List.nil_append]
    · rw [List.flatMap_def, List.flatMap_def]
      congr 1
      refine List.map_congr_left fun q hq => ?_
      have e2 : (cons x ks r).flat[1 + ks.flat.length + q]? = r.flat[q]? := by
        simp only [flat]
        rw [show 1 + ks.flat.length + q = (ks.flat.length + q) + 1 by omega, List.getElem?_cons_succ, List.getElem?_append_right (by omega), Nat.add_sub_cancel_left]
      have e3 : (cons x ks r).bset g k (1 + ks.flat.length + q) = r.bset g (k + 1) q := by
        rw [bset, if_neg (by omega), if_neg (by omega), show 1 + ks.flat.length + q - 1 - ks.flat.length = q by omega]
      rw [e2, e3]
theorem idx_lt : ∀ (f : F) (q : Nat), q < f.flat.length → f.idx q < f.cnt
  | nil, q, h => by simp [flat] at h
  | cons x ks r, q, h => by
    simp only [flat, List.length_cons, List.length_append] at h
    simp only [idx, cnt]
    split
    · omega
    · have := idx_lt r (q - 1 - ks.flat.length) (by omega)
      omega
theorem places_ge : ∀ (f : F) (p : Nat), ∀ y ∈ f.places p, p ≤ y
  | nil, p, y, hy => by simp [places] at hy
  | cons x ks r, p, y, hy => by
    simp only [places, List.mem_cons] at hy
    rcases hy with rfl | hy
    · exact Nat.le_refl _
    · have := places_ge r _ y hy
      omega
theorem places_idx {T : List Nd} : ∀ (f : F) (pre post : List Nd) (q kk kp : Nat), T = pre ++ (f.flat ++ post) → f.Ok → q < f.flat.length → (f.places pre.length)[kk]? = some kp → ((kp ≤ pre.length + q ∧ pre.length + q < behind T (kp : Int)) ↔ kk = f.idx q)
  | nil, pre, post, q, kk, kp, _, _, hq, _ => by simp [flat] at hq
  | cons x ks r, pre, post, q, kk, kp, hT, h, hq, hk => by
    have h1 := behind_at (T := T) (pre := pre) (x := x) (ks := ks) (post := r.flat ++ post) (by rw [hT]; simp [flat]) ⟨h.1, h.2.1, trivial⟩
    simp only [flat, List.length_cons, List.length_append] at hq
    simp only [places] at hk
    simp only [idx]
    cases kk with
    | zero =>
      simp only [List.getElem?_cons_zero, Option.some.injEq] at hk
      subst hk
      rw [h1]
      split <;> omega
    | succ kk =>
      rw [List.getElem?_cons_succ] at hk
      have hge := places_ge r _ kp (List.mem_of_getElem? hk)
      split
      · constructor
        · rintro ⟨h2, _⟩; omega
        · intro h2; cases h2
      · have h2 := places_idx (T := T) r (pre ++ x :: ks.flat) post (q - 1 - ks.flat.length) kk kp (by rw [hT]; simp [flat]) h.2.2 (by omega)
        simp only [List.length_append, List.length_cons] at h2
        rw [show pre.length + 1 + ks.flat.length = pre.length + (ks.flat.length + 1) by omega] at hk
        have h3 := h2 hk
        rw [show pre.length + (ks.flat.length + 1) + (q - 1 - ks.flat.length) = pre.length + q by omega] at h3
        rw [h3]
        omega
theorem inner_end {T pre post : List Nd} {f : F} (hT : T = pre ++ (f.flat ++ post)) (h : f.Ok) {i : Nat} (h0 : pre.length ≤ i) (h1 : i < pre.length + f.flat.length) : behind T (i : Int) ≤ pre.length + f.flat.length := by
  obtain ⟨pre2, x, ks, post2, a1, a2, a3, _⟩ := at_place f (i - pre.length) h (by omega)
  have := behind_at (T := T) (pre := pre ++ pre2) (x := x) (ks := ks) (post := post2 ++ post) (by rw [hT, a1]; simp) a3
  rw [List.length_append, a2, show pre.length + (i - pre.length) = i by omega] at this
  have hl := congrArg List.length a1
  simp only [List.length_append, List.length_cons] at hl
  omega
theorem mem_bset {T : List Nd} {s : ByteArray} : ∀ (f : F) (pre post : List Nd) (g : Nat → List ByteArray) (k q : Nat), T = pre ++ (f.flat ++ post) → f.Ok → q < f.flat.length →
    (s ∈ f.bset g k q ↔ s ∈ g (k + f.idx q) ∨ ∃ i, pre.length ≤ i ∧ i < pre.length + q ∧ Bnd T i (pre.length + q) s)
  | nil, pre, post, g, k, q, _, _, hq => by simp [flat] at hq
  | cons x ks r, pre, post, g, k, q, hT, h, hq => by
    have hT2 : T = pre ++ x :: (ks.flat ++ (r.flat ++ post)) := by rw [hT]; simp [flat]
    have h1 := behind_at (T := T) (pre := pre) (x := x) (ks := ks) (post := r.flat ++ post) hT2 ⟨h.1, h.2.1, trivial⟩
    have hx : T[pre.length]? = some x := by rw [hT2]; simp
    simp only [flat, List.length_cons, List.length_append] at hq
    simp only [bset, idx]
    by_cases q0 : q = 0
    · subst q0
      rw [if_pos rfl, if_pos (by omega)]
      constructor
      · exact .inl
      · rintro (h2 | ⟨i, h2, h3, _⟩)
        · exact h2
        · omega
    rw [if_neg q0]
    by_cases q1 : q < 1 + ks.flat.length
    · rw [if_pos q1, if_pos q1, mem_bset (T := T) ks (pre ++ [x]) (r.flat ++ post) _ 0 (q - 1) (by rw [hT2]; simp) h.2.1 (by omega)]
      simp only [List.length_append, List.length_singleton, Nat.zero_add, Nat.add_zero]
      rw [show pre.length + 1 + (q - 1) = pre.length + q by omega, List.mem_append]
      have hpl : (ks.places (pre.length + 1)).length = ks.cnt := places_len _ _
      have hil := idx_lt ks (q - 1) (by omega)
      have hkid := kids_at hT2 ⟨h.1, h.2.1, trivial⟩
      have hkey : ∀ kk kp, (ks.places (pre.length + 1))[kk]? = some kp → ((kp ≤ pre.length + q ∧ pre.length + q < behind T (kp : Int)) ↔ kk = ks.idx (q - 1)) := fun kk kp hk => by
        have := places_idx (T := T) ks (pre ++ [x]) (r.flat ++ post) (q - 1) kk kp (by rw [hT2]; simp) h.2.1 (by omega)
        simp only [List.length_append, List.length_singleton] at this
        rw [show pre.length + 1 + (q - 1) = pre.length + q by omega] at this
        exact this hk
      constructor
      · rintro ((h2 | h2) | ⟨i, h2, h3, h4⟩)
        · exact .inl h2
        · refine .inr ⟨pre.length, Nat.le_refl _, by omega, x, hx, by omega, ks.idx (q - 1), (ks.places (pre.length + 1))[ks.idx (q - 1)]'(by omega), by rw [hkid]; exact List.getElem?_eq_getElem _, ?_⟩
          have := (hkey (ks.idx (q - 1)) _ (List.getElem?_eq_getElem (by omega))).2 rfl
          exact ⟨this.1, this.2, h2⟩
        · exact .inr ⟨i, by omega, h3, h4⟩
      · rintro (h2 | ⟨i, h2, h3, h4⟩)
        · exact .inl (.inl h2)
        · by_cases hi : i = pre.length
          · subst hi
            obtain ⟨y, hy, _, kk, kp, h5, h6, h7, h8⟩ := h4
            rw [hx] at hy
            injection hy with hy
            subst hy
            rw [hkid] at h5
            have := (hkey kk kp h5).1 ⟨h6, h7⟩
            subst this
            exact .inl (.inr h8)
          · exact .inr ⟨i, by omega, h3, h4⟩
    · rw [if_neg q1, if_neg q1, mem_bset (T := T) r (pre ++ x :: ks.flat) post g (k + 1) (q - 1 - ks.flat.length) (by rw [hT2]; simp) h.2.2 (by omega)]
      simp only [List.length_append, List.length_cons]
      rw [show pre.length + (ks.flat.length + 1) + (q - 1 - ks.flat.length) = pre.length + q by omega, show k + 1 + r.idx (q - 1 - ks.flat.length) = k + (r.idx (q - 1 - ks.flat.length) + 1) by omega]
      constructor
      · rintro (h2 | ⟨i, h2, h3, h4⟩)
        · exact .inl h2
        · exact .inr ⟨i, by omega, h3, h4⟩
      · rintro (h2 | ⟨i, h2, h3, h4⟩)
        · exact .inl h2
        · by_cases hi : i < pre.length + (ks.flat.length + 1)
          · obtain ⟨y, _, h5, _⟩ := h4
            have := inner_end (T := T) (pre := pre) (post := r.flat ++ post) (f := cons x ks nil) (by rw [hT2]; simp [flat]) ⟨h.1, h.2.1, trivial⟩ h2 (by simp only [flat, List.append_nil, List.length_cons]; omega)
            simp only [flat, List.append_nil, List.length_cons] at this
            omega
          · exact .inr ⟨i, by omega, h3, h4⟩
/-- What is bound at a place of a tree. -/
def bound (x : Nd) (ks : F) (q : Nat) : List ByteArray := (cons x ks nil).bset (fun _ => []) 0 q
theorem mem_bound {x : Nd} {ks : F} (h : (cons x ks nil).Ok) {q : Nat} (hq : q < (x :: ks.flat).length) {s : ByteArray} : s ∈ bound x ks q ↔ ∃ i, i < q ∧ Bnd (x :: ks.flat) i q s := by
  have := mem_bset (T := x :: ks.flat) (s := s) (cons x ks nil) [] [] (fun _ => []) 0 q (by simp [flat]) h (by simpa [flat] using hq)
  unfold bound
  rw [this]
  simp only [List.not_mem_nil, false_or, List.length_nil, Nat.zero_le, true_and, Nat.zero_add]
/-- The names that stand free ahead of a place. -/
def upto (x : Nd) (ks : F) (n : Nat) : List ByteArray := (List.range n).flatMap fun q => match (x :: ks.flat)[q]? with | some y => varAt y (bound x ks q) | none => []
theorem upto_zero (x : Nd) (ks : F) : upto x ks 0 = [] := rfl
theorem upto_succ {x y : Nd} {ks : F} {n : Nat} (h : (x :: ks.flat)[n]? = some y) : upto x ks (n + 1) = upto x ks n ++ varAt y (bound x ks n) := by
  unfold upto
  rw [List.range_succ, List.flatMap_append, List.flatMap_cons, List.flatMap_nil, List.append_nil, h]
theorem upto_all {x : Nd} {ks : F} (h : (cons x ks nil).Leafy) : addAll [] (upto x ks (x :: ks.flat).length) = free x ks := by
  unfold free upto
  rw [vars_gather _ _ _ h]
  simp only [flat, List.append_nil]
  rfl
end F
end Culp.Tr

/- Rows that lie apart: an append leaves the others as they were. No program in sight. -/
namespace Culp
set_option linter.unusedSimpArgs false
set_option linter.unusedVariables false
open Go Go.RowKit

/-- One more element onto a row of the call's own: where the row lies then, and what stays of those that lie in the same block. -/
theorem append_held {P : Program} {w : World} {ops : Array Oper} {rest : List Oper} {o : Oper} {a : Act} {Q : Exit → Act → World → Prop} (hgd : o.guard = none) (s x : Operand) (t e : TypeId)
    (ho : o.op = .call { callee := .builtin .append, args := #[s, x], argTypes := #[t, t] })
    (base : Nat) (z : Value) (size bytes : Nat) (ht : P.underlying t = some (.slice e)) (hi : (P.info? e).map (fun i => (i.zero, i.size, i.bytes)) = some (some z, size, bytes))
    (hzs : z.cells.size = size) (h0 : 0 < size)
    (v : Value) (n : Nat) (xs : List Value) (hs : a.eval s = v) (hown : w.ownsRow base e size v n xs) (us : List Value) (hus : us.length = size)
    (g : Nat) (hx : a.eval x = .slice (some ⟨g, 0, none⟩) 1 1) (hgg : w.heap.size = g) (h1 : ∀ u ∈ us, u.oneCell' = true)
    (h63 : n + 1 ≤ 1000000000000000) (hbytes : (n + 1) * bytes ≤ 140737488355328) (hbase : base ≤ w.heap.size)
    (h : ∀ v' w', w'.ownsRow base e size v' (n + 1) (xs ++ us) → w.grownBy w' v.ownBlock → Below base w w' → (v'.ownBlock = v.ownBlock ∨ ∃ b, v'.ownBlock = some b ∧ w.heap.size < b) →
      (∀ X b m ys, w.ownsRow b e size X m ys → (∀ k, X.ownBlock = some k → v.ownBlock = some k → m ≤ n ∧ ys = xs.take (m * size)) → w'.ownsRow b e size X m ys) → wpList P ops Q rest (a.put o.dst v') w') :
    wpList P ops Q (o :: rest) a (w.alloc (.cells us.toArray e)) := by
  have hun : (∀ j u, us[j]? = some u → (w.alloc (.cells us.toArray e)).cell? ((⟨w.heap.size, 0, none⟩ : Addr).add j) = some u) := by
    intro j u hj
    have e1 : (⟨w.heap.size, 0, none⟩ : Addr).add j = ⟨w.heap.size, j, none⟩ := by
      unfold Addr.add
      split
      · rename_i h0; subst h0; rfl
      · simp
    rw [e1, World.cell?_alloc_at _ _ _ _ rfl]
    simpa using hj
  rcases hown.2 with ⟨rfl, rfl⟩ | ⟨gv, cap, cur, rfl, hbg, hg, hnc, hcm, hcs, htake⟩
  · refine append_agg_at hgd s x t e ho base z size bytes ht hi hzs h0 _ 0 xs hs hown us hus g hx hgg h1 h63 hbytes hbase ?_
    intro v' w' a1 a2 a3 a4
    refine h v' w' a1 a2 a3 ?_ ?_
    · rcases a4 with a4 | a4
      · exact .inl a4
      · exact .inr ⟨_, a4, Nat.lt_succ_self _⟩
    · intro X b m ys hX _
      refine ⟨hX.1, ?_⟩
      rcases hX.2 with h2 | ⟨g', cap', cur', rfl, hb', hh', h3⟩
      · exact .inl h2
      · exact .inr ⟨g', cap', cur', rfl, hb', (by rw [a2.block g' (hX.lt g' rfl).2 (fun e => by cases e)]; exact hh'), h3⟩
  · obtain ⟨i, hi, hz, hz1, hz2⟩ := info_parts hi
    subst hgg
    by_cases hroom : n + 1 ≤ cap
    · refine wpList_append_fits _ hgd s x t ho base e i size ht hi hz1 gv n cap xs hs (hown.alloc _) ⟨w.heap.size, 0, none⟩ 1 1 us hx (by omega) hun h1 hroom ?_
      intro w' hown' hgr
      have hg' : w.grownBy w' (some gv) :=
        { os := hgr.os, tape := hgr.tape, output := hgr.output,
          size := by have := hgr.size; simp at this; omega,
          block := fun k hk hne => by
            rw [hgr.block k (by simp; omega) hne]
            exact Below.heap_alloc _ _ _ hk }
      refine h _ w' hown' hg' ((Below.refl base w).grown hg' hbase fun k hk => ?_) (.inl rfl) ?_
      · injection hk with hk; omega
      · intro X b m ys hX hq
        refine ⟨hX.1, ?_⟩
        rcases hX.2 with h2 | ⟨g', cap', cur', rfl, hb', hh', h3⟩
        · exact .inl h2
        · by_cases he : g' = gv
          · subst he
            obtain ⟨hm, rfl⟩ := hq g' rfl rfl
            rw [hg] at hh'
            simp only [Option.some.injEq, Obj.cells.injEq] at hh'
            obtain ⟨rfl, _, _⟩ := hh'
            rcases hown'.2 with ⟨hh1, _⟩ | ⟨g2, cap2, cur2, h1', hb2, hh2, hc2, hm2, hsz2, htk2⟩
            · cases hh1
            · simp only [Value.slice.injEq, Option.some.injEq, Addr.mk.injEq] at h1'
              obtain ⟨⟨rfl, _⟩, _, rfl⟩ := h1'
              refine .inr ⟨g', cap', cur2, rfl, hb', hh2, h3.1, h3.2.1, ?_, ?_⟩
              · rw [hsz2, ← hcs, h3.2.2.1]
              · have := congrArg (List.take (m * size)) htk2
                rw [List.take_take, Nat.min_eq_left (Nat.mul_le_mul_right _ (by omega)), List.take_append_of_le_length (by rw [hown.1]; exact Nat.mul_le_mul_right _ hm)] at this
                exact this
          · exact .inr ⟨g', cap', cur', rfl, hb', (by rw [hg'.block g' (hX.lt g' rfl).2 (fun e => he (by injection e with e))]; exact hh'), h3⟩
    · refine wpList_append_grows _ hgd s x t ho e i z size bytes ht hi hz hz1 hz2 hzs h0 (some ⟨gv, 0, none⟩) n cap xs hs (fun h => by cases h) hown.1 (fun b hb => ?_) ⟨w.heap.size, 0, none⟩ 1 1 us hx (by omega) hun h1 (by omega) (by unfold maxLen; omega) hbytes ?_
      · injection hb with hb
        subst hb
        exact (hown.alloc (.cells us.toArray e)).cells (g := gv) rfl
      · intro v' w' hown' hgr
        have hg' : ∀ row, w.grownBy w' row := fun row =>
          { os := hgr.os, tape := hgr.tape, output := hgr.output,
            size := by have := hgr.size; simp at this; omega,
            block := fun k hk hne => by
              rw [hgr.block k (by simp; omega) (fun e => by cases e)]
              exact Below.heap_alloc _ _ _ hk }
        have hs0 : (w.alloc (.cells us.toArray e)).heap.size = w.heap.size + 1 := by simp
        have hown2 : w'.ownsRow base e size v' (n + 1) (xs ++ us) := by
          refine ⟨hown'.1, ?_⟩
          rcases hown'.2 with h2 | ⟨g', cap', cur', rfl, hb', h3⟩
          · exact .inl h2
          · exact .inr ⟨g', cap', cur', rfl, by omega, h3⟩
        refine h v' w' hown2 (hg' _) ((Below.refl base w).grown (hg' none) hbase fun k hk => by cases hk) ?_ ?_
        · rcases hown'.2 with ⟨_, h2⟩ | ⟨g', cap', cur', rfl, hb', h3⟩
          · omega
          · exact .inr ⟨g', rfl, by omega⟩
        · intro X b m ys hX _
          refine ⟨hX.1, ?_⟩
          rcases hX.2 with h2 | ⟨g', cap', cur', rfl, hb', hh', h3⟩
          · exact .inl h2
          · exact .inr ⟨g', cap', cur', rfl, hb', (by rw [(hg' none).block g' (hX.lt g' rfl).2 (fun e => by cases e)]; exact hh'), h3⟩
section
variable {w w' : World} {base base2 size size2 n m : Nat} {e e2 : TypeId} {a a' b : Value} {xs ys : List Value}
theorem Apart.grow' (hA : Apart a b) (h : w.ownsRow base e size b n xs) (hat : a'.ownBlock = a.ownBlock ∨ ∃ k, a'.ownBlock = some k ∧ w.heap.size < k) : Apart a' b := by
  intro k hk hb
  rcases hat with h1 | ⟨j, h1, h2⟩
  · exact hA k (h1 ▸ hk) hb
  · rw [h1] at hk
    have := (h.lt k hb).2
    injection hk with hk
    omega
theorem own_apart_type (h : w.ownsRow base e size a n xs) (k : w.ownsRow base2 e2 size2 b m ys) (hne : e ≠ e2) : Apart a b := by
  intro g ha hb
  rcases h.2 with ⟨rfl, _⟩ | ⟨g1, cap1, cur1, rfl, _, hh1, _⟩
  · cases ha
  rcases k.2 with ⟨rfl, _⟩ | ⟨g2, cap2, cur2, rfl, _, hh2, _⟩
  · cases hb
  injection ha with ha
  injection hb with hb
  obtain rfl : g1 = g := ha
  obtain rfl : g2 = g1 := hb
  rw [hh1] at hh2
  simp only [Option.some.injEq, Obj.cells.injEq] at hh2
  exact hne hh2.2.1
/-- What lies apart stays, whatever its elements are. -/
theorem own_other (h : w.ownsRow base2 e2 size2 b m ys) (hg : w.grownBy w' a.ownBlock) (hA : Apart a b) : w'.ownsRow base2 e2 size2 b m ys := own_apart_grown h hg hA
theorem own_base (h : w.ownsRow base e size a n xs) (hb : base2 ≤ base) : w.ownsRow base2 e size a n xs := by
  refine ⟨h.1, ?_⟩
  rcases h.2 with h2 | ⟨g, cap, cur, rfl, h3, h4⟩
  · exact .inl h2
  · exact .inr ⟨g, cap, cur, rfl, by omega, h4⟩
theorem apart_base (h : w.ownsRow base e size a n xs) (k : ∀ g, b.ownBlock = some g → g < base) : Apart a b := by
  intro g ha hb
  have := (h.lt g ha).1
  have := k g hb
  omega
theorem below_cell {B : Nat} {w w' : World} (h : Below B w w') {a : Addr} {v : Value} (hv : w.cell? a = some v) (hg : a.block < B) : w'.cell? a = some v := by
  rw [World.cell?_of_block (w := w) (h.block a.block hg)]
  exact hv
end
end Culp

/- Names that are gathered in a cell: what stays meanwhile. No program in sight. -/
namespace Go.Proofs.YtnhdbjhdmdefmaaDoor
set_option linter.unusedSimpArgs false
set_option linter.unusedVariables false
open Go.RowKit Go.Maps Culp

/-- All that was there stays, but for one cell's block, and the row that it names. -/
structure KeepN (a : Nat) (o : Option Nat) (w w' : World) : Prop where
  os : w'.os = w.os
  tape : w'.tape = w.tape
  output : w'.output = w.output
  size : w.heap.size ≤ w'.heap.size
  block : ∀ k, k < w.heap.size → k ≠ a → o ≠ some k → w'.heap[k]? = w.heap[k]?
section
variable {a B : Nat} {o o1 : Option Nat} {w w1 w2 W : World} {v bv : Value} {n base size : Nat} {e : TypeId} {xs : List Value}
theorem KeepN.refl (a : Nat) (o : Option Nat) (w : World) : KeepN a o w w := ⟨rfl, rfl, rfl, Nat.le_refl _, fun _ _ _ _ => rfl⟩
theorem KeepN.trans (h : KeepN a o w w1) (k : KeepN a o1 w1 w2) (ho : o1 = o ∨ ∃ b, o1 = some b ∧ w.heap.size ≤ b) : KeepN a o w w2 :=
  ⟨k.os.trans h.os, k.tape.trans h.tape, k.output.trans h.output, Nat.le_trans h.size k.size, fun i hi ha hoi => by
    refine (k.block i (Nat.lt_of_lt_of_le hi h.size) ha ?_).trans (h.block i hi ha hoi)
    rcases ho with rfl | ⟨b, rfl, hb⟩
    · exact hoi
    · intro he
      injection he with he
      omega⟩
theorem KeepN.of (a : Nat) (o : Option Nat) (h : Below w.heap.size w w1) : KeepN a o w w1 := ⟨h.os, h.tape, h.output, h.size, fun k hk _ _ => h.block k hk⟩
theorem KeepN.cell (h : KeepN a o w w1) {p : Addr} (hv : w.cell? p = some v) (ha : p.block ≠ a) (ho : o ≠ some p.block) : w1.cell? p = some v := by
  have hlt := World.block_lt_of_cell? w p hv
  rw [World.cell?_of_block (w := w) (h.block p.block hlt ha ho)]
  exact hv
theorem KeepN.own (h : KeepN a o w w1) (hr : w.ownsRow base e size v n xs) (ha : v.ownBlock ≠ some a) (ho : ∀ k, v.ownBlock = some k → o ≠ some k) : w1.ownsRow base e size v n xs := by
  refine ⟨hr.1, ?_⟩
  rcases hr.2 with h2 | ⟨g, cap, cur, rfl, hb, hh, h3⟩
  · exact .inl h2
  · refine .inr ⟨g, cap, cur, rfl, hb, ?_, h3⟩
    rw [h.block g (hr.lt g rfl).2 (fun e => ha (by rw [e]; rfl)) (ho g rfl)]; exact hh
theorem KeepN.below (h : KeepN a o w w1) (hb : Below B W w) (hB : B ≤ w.heap.size) (ha : B ≤ a) (ho : ∀ k, o = some k → B ≤ k) : Below B W w1 :=
  ⟨h.os.trans hb.os, h.tape.trans hb.tape, h.output.trans hb.output, Nat.le_trans hb.size h.size, fun k hk => (h.block k (by omega) (by omega) (fun e => by have := ho k e; omega)).trans (hb.block k hk)⟩
/-- A cell that holds the names gathered so far. -/
structure NamesAt (ts te : TypeId) (a B : Nat) (L : List ByteArray) (v : Value) (w : World) : Prop where
  one : One a ts v w
  own : w.ownsRow B te 1 v L.length (L.map Value.string)
theorem NamesAt.later {ts te : TypeId} {L : List ByteArray} (h : NamesAt ts te a B L v w) (hb : Below w.heap.size w w1) : NamesAt ts te a B L v w1 :=
  ⟨(hb.block a (Array.getElem?_eq_some_iff.1 h.one).1).trans h.one, own_later h.own hb⟩
theorem NamesAt.ne {ts te : TypeId} {L : List ByteArray} (h : NamesAt ts te a B L v w) (hne : ts ≠ te) : v.ownBlock ≠ some a := by
  intro he
  rcases h.own.2 with ⟨rfl, _⟩ | ⟨g, cap, cur, rfl, _, hh, _⟩
  · cases he
  · simp only [Value.ownBlock, Option.some.injEq] at he
    subst he
    have h1 := h.one
    unfold One at h1
    rw [hh] at h1
    simp only [Option.some.injEq, Obj.cells.injEq] at h1
    exact hne h1.2.1.symm
/-- What goes on with the names answers. -/
def NamesRes (ts te : TypeId) (a B : Nat) (L : List ByteArray) (o : Option Nat) (w : World) (e : Ending) (w' : World) : Prop :=
  e = .returned (.tuple #[]) ∧ ∃ v', NamesAt ts te a B L v' w' ∧ KeepN a o w w' ∧ (v'.ownBlock = o ∨ ∃ b, v'.ownBlock = some b ∧ w.heap.size ≤ b)
theorem NamesRes.after {ts te : TypeId} {L : List ByteArray} {v : Value} {e : Ending} (k : KeepN a o w w1) (hv : v.ownBlock = o ∨ ∃ b, v.ownBlock = some b ∧ w.heap.size ≤ b) (h : NamesRes ts te a B L v.ownBlock w1 e w2) : NamesRes ts te a B L o w e w2 := by
  obtain ⟨h1, v', h2, h3, h4⟩ := h
  refine ⟨h1, v', h2, k.trans h3 hv, ?_⟩
  have hs := k.size
  rcases h4 with h4 | ⟨b, h4, hb⟩
  · rw [h4]; exact hv
  · exact .inr ⟨b, h4, by omega⟩
/-- One more name, and the cell told of it. -/
theorem NamesAt.add {ts te : TypeId} {L : List ByteArray} {w5 : World} {v' : Value} {s : ByteArray} (h : NamesAt ts te a B L v w) (hne : ts ≠ te)
    (hown : w5.ownsRow B te 1 v' (L.length + 1) (L.map Value.string ++ [.string s])) (hg : w.grownBy w5 v.ownBlock) (hat : v'.ownBlock = v.ownBlock ∨ v'.ownBlock = some (w.heap.size + 1)) (hs : s ∉ L) :
    NamesRes ts te a B (Tr.add1 L s) v.ownBlock w (.returned (.tuple #[])) (w5.setCell ⟨a, 0, none⟩ v') := by
  have hal : a < w.heap.size := (Array.getElem?_eq_some_iff.1 h.one).1
  have hva := h.ne hne
  have h5 : One a ts v w5 := (hg.block a hal (fun e => hva e.symm)).trans h.one
  have hv' : v'.ownBlock ≠ some a := by
    rcases hat with e | e
    · rw [e]; exact hva
    · rw [e]; intro he; injection he with he; omega
  have hk : Keep a w5 (w5.setCell ⟨a, 0, none⟩ v') := (Keep.refl a w5).setCell 0 _
  refine ⟨rfl, v', ⟨h5.put v', ?_⟩, ⟨hk.os.trans hg.os, hk.tape.trans hg.tape, hk.output.trans hg.output, Nat.le_trans hg.size hk.size, fun k hk1 hk2 hk3 => (hk.block k (Nat.lt_of_lt_of_le hk1 hg.size) hk2).trans (hg.block k hk1 (fun e => hk3 e.symm))⟩, ?_⟩
  · have e : Tr.add1 L s = L ++ [s] := by unfold Tr.add1; rw [if_neg hs]
    rw [e, List.length_append, List.map_append]
    exact own_apart_keep hown hk hv'
  · rcases hat with e | e
    · exact .inl e
    · exact .inr ⟨_, e, Nat.le_succ _⟩
theorem NamesAt.had {ts te : TypeId} {L : List ByteArray} {s : ByteArray} (h : NamesAt ts te a B L v w) (hs : s ∈ L) : NamesRes ts te a B (Tr.add1 L s) v.ownBlock w (.returned (.tuple #[])) w := by
  have e : Tr.add1 L s = L := by unfold Tr.add1; rw [if_pos hs]
  rw [e]
  exact ⟨rfl, v, h, KeepN.refl _ _ _, .inl rfl⟩
/-- A slice of texts, as a call finds it. -/
def Nms (w : World) (v : Value) (L : List ByteArray) : Prop := ∃ A c, v = .slice A L.length c ∧ L.length ≤ c ∧ (A = none → L = [] ∧ c = 0) ∧ ∀ b, A = some b → ∃ g, b = ⟨g, 0, none⟩ ∧ g < w.heap.size ∧ ∀ (j : Nat) (s : ByteArray), L[j]? = some s → w.cell? ⟨g, j, none⟩ = some (.string s)
section
variable {L : List ByteArray} {ts : TypeId} {bv : Value}
theorem Nms.nil (w : World) : Nms w (.slice none 0 0) [] := ⟨none, 0, rfl, Nat.le_refl _, fun _ => ⟨rfl, rfl⟩, fun b h => by cases h⟩
theorem Nms.keep {x : Value} (h : Nms w bv L) (k : KeepN a o w w1) (h1 : One a ts x w) (hx : ∀ s, x ≠ .string s) (hap : ∀ g, bv.ownBlock = some g → o ≠ some g) : Nms w1 bv L := by
  obtain ⟨A, c, rfl, h2, h3, h4⟩ := h
  refine ⟨A, c, rfl, h2, h3, fun b hb => ?_⟩
  obtain ⟨g, rfl, hlt, hc⟩ := h4 b hb
  subst hb
  refine ⟨g, rfl, Nat.lt_of_lt_of_le hlt k.size, fun j s hj => k.cell (hc j s hj) ?_ (hap g rfl)⟩
  intro hg
  have hg : g = a := hg
  subst hg
  have := hc j s hj
  unfold One at h1
  simp only [World.cell?, h1] at this
  match j, this with
  | 0, this => simp at this; exact hx s this
  | j + 1, this => simp at this
theorem Nms.later (h : Nms w bv L) (hb : Below w.heap.size w w1) : Nms w1 bv L := by
  obtain ⟨A, c, rfl, h2, h3, h4⟩ := h
  refine ⟨A, c, rfl, h2, h3, fun b hb' => ?_⟩
  obtain ⟨g, rfl, hlt, hc⟩ := h4 b hb'
  exact ⟨g, rfl, Nat.lt_of_lt_of_le hlt hb.size, fun j s hj => cell_later hb (hc j s hj)⟩
theorem Nms.own (h : w.ownsRow base e 1 bv n (L.map Value.string)) : Nms w bv L := by
  have hn : n = L.length := by have := h.1; simp at this; omega
  subst hn
  rcases h.2 with ⟨rfl, h0⟩ | ⟨g, cap, cur, rfl, hb, hh, hc, _⟩
  · have : L = [] := List.eq_nil_of_length_eq_zero h0
    subst this
    exact Nms.nil w
  · refine ⟨_, cap, rfl, hc, (fun h => by cases h), fun b hb => ⟨g, (by injection hb with hb; exact hb.symm), (h.lt g rfl).2, fun j s hj => (own_get h (by rw [List.getElem?_map, hj]; rfl)).1⟩⟩
theorem Nms.apart {v' : Value} (h : Nms w bv L) (hA : Culp.Apart bv v) (hv : v'.ownBlock = v.ownBlock ∨ ∃ b, v'.ownBlock = some b ∧ w.heap.size ≤ b) : Culp.Apart bv v' := by
  obtain ⟨A, c, rfl, _, _, h4⟩ := h
  intro g hg hv'
  rcases hv with e | ⟨b, e, hb⟩
  · rw [e] at hv'; exact hA g hg hv'
  · rw [e] at hv'
    injection hv' with hv'
    cases A with
    | none => cases hg
    | some x =>
      obtain ⟨g', rfl, hlt, _⟩ := h4 x rfl
      injection hg with hg
      have hg : g' = g := hg
      omega
theorem exec_append {P : Program} {o : Oper} {a : Act} {s x : Operand} {t ty : TypeId} {sv xv v' : Value} {w' : World} (hop : o.op = .call { callee := .builtin .append, args := #[s, x], argTypes := #[t, t] }) (hty : o.type = ty) (hs : a.eval s = sv) (hx : a.eval x = xv)
    (hrun : (Builtin.append_ #[t, t] ty #[sv, xv]).run P w = .ok v' w') : (execOp a.eval o).run P w = .ok (.value v') w' := by
  subst hty
  simp [execOp, hop, resolve, invoke, builtin, hs, hx, hrun, Result.andThen]
/-- More names behind those of a slice that has no spare room: a new row. -/
theorem run_append_strs {P : Program} {t ty e : TypeId} {A : Option Addr} {n c : Nat} {bytes : Nat} {z : Value} (ht : P.underlying t = some (.slice e)) (hi : (P.info? e).map (fun i => (i.zero, i.size, i.bytes)) = some (some z, 1, bytes)) (hz : z.cells.size = 1)
    (h : Nms w (.slice A n c) L) (g m c2 : Nat) (M : List ByteArray) (hM : M.length = m) (hm : 0 < m) (hnews : ∀ (j : Nat) (s : ByteArray), M[j]? = some s → w.cell? ⟨g, j, none⟩ = some (.string s)) (h63 : n + m ≤ 1000000000000000) (hby : (n + m) * bytes ≤ 140737488355328) :
    ∃ v' w', (Builtin.append_ #[t, t] ty #[.slice A n n, .slice (some ⟨g, 0, none⟩) m c2]).run P w = .ok v' w' ∧ w'.ownsRow w.heap.size e 1 v' (n + m) ((L ++ M).map Value.string) ∧ w.grownBy w' none := by
  obtain ⟨i, hi, hz0, hz1, hz2⟩ := info_parts hi
  obtain ⟨A', c', e1, h2, h3, h4⟩ := h
  simp only [Value.slice.injEq] at e1
  obtain ⟨rfl, rfl, rfl⟩ := e1
  have hn2 : ∀ (j : Nat) (u : Value), (M.map Value.string)[j]? = some u → w.cell? ((⟨g, 0, none⟩ : Addr).add j) = some u := fun j u hu => by
    rw [List.getElem?_map, Option.map_eq_some_iff] at hu
    obtain ⟨s, hs, rfl⟩ := hu
    rw [Addr.add_lit, Nat.zero_add]
    exact hnews j s hs
  rw [List.map_append]
  cases A with
  | some b =>
    obtain ⟨g', rfl, _, hc⟩ := h4 b rfl
    exact run_append_arg_grows w t ty e i z 1 bytes ht hi hz0 hz1 hz2 hz (by decide) ⟨g', 0, none⟩ L.length L.length (L.map Value.string) (by simp) (fun j u hu => by
      rw [List.getElem?_map, Option.map_eq_some_iff] at hu
      obtain ⟨s, hs, rfl⟩ := hu
      rw [Addr.add_lit, Nat.zero_add]
      exact hc j s hs) ⟨g, 0, none⟩ m c2 (M.map Value.string) (by simp [hM]) hn2 (by omega) (by unfold maxLen; omega) hby
  | none =>
    obtain ⟨rfl, rfl⟩ := h3 rfl
    obtain ⟨v', w', hrun, r1, r2, _⟩ := run_append_own (P := P) w w.heap.size t ty e i z 1 bytes ht hi hz0 hz1 hz2 hz (by decide) (.slice none 0 0) 0 [] (World.ownsRow_nil w _ e 1) ⟨g, 0, none⟩ m c2 (M.map Value.string) (by simp [hM]) hn2 (by
      intro u hu
      rw [List.mem_map] at hu
      obtain ⟨s, _, rfl⟩ := hu
      rfl) (by unfold maxLen; simp only [List.length_nil] at h63; omega) (by simpa using hby) (Nat.le_refl _)
    exact ⟨v', w', hrun, by simpa using r1, r2⟩
end
end
end Go.Proofs.YtnhdbjhdmdefmaaDoor

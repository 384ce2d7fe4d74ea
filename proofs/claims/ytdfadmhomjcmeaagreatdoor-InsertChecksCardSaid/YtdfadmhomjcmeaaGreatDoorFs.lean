
/- Plain: a list of nodes that is whole parts, one behind the other, as a forest. -/
import Derived.Test.YtdfadmhomjcmeaaGreatDoorTrW
import Derived.ArgAppend
namespace Culp.Tr
set_option linter.unusedSimpArgs false
set_option linter.unusedVariables false

/-- Parts one behind the other: the first one's node, its kids, the parts behind it. -/
inductive F where
  | nil
  | cons (x : Nd) (ks r : F)
namespace F
set_option linter.unusedSimpArgs false
set_option linter.unusedVariables false
def flat : F → List Nd
  | nil => []
  | cons x ks r => x :: (ks.flat ++ r.flat)
def cnt : F → Nat
  | nil => 0
  | cons _ _ r => r.cnt + 1
def Ok : F → Prop
  | nil => True
  | cons x ks r => (ks.cnt : Int) = x.kids ∧ ks.Ok ∧ r.Ok
def hgt : F → Nat
  | nil => 0
  | cons _ ks r => max (ks.hgt + 1) r.hgt
/-- The depths of the nodes. -/
def dps : F → Nat → List Nat
  | nil, _ => []
  | cons _ ks r, d => d :: (ks.dps (d + 1) ++ r.dps d)
/-- Where the parts begin. -/
def places : F → Nat → List Nat
  | nil, _ => []
  | cons _ ks r, p => p :: r.places (p + 1 + ks.flat.length)
theorem cnt_le : ∀ f : F, f.cnt ≤ f.flat.length
  | nil => Nat.le_refl _
  | cons x ks r => by
    have := cnt_le r
    simp only [cnt, flat, List.length_cons, List.length_append]; omega
theorem places_len : ∀ (f : F) (p : Nat), (f.places p).length = f.cnt
  | nil, _ => rfl
  | cons x ks r, p => by simp only [places, cnt, List.length_cons, places_len r]
theorem dps_len : ∀ (f : F) (d : Nat), (f.dps d).length = f.flat.length
  | nil, _ => rfl
  | cons x ks r, d => by simp only [dps, flat, List.length_cons, List.length_append, dps_len ks, dps_len r]
theorem beh_flat (N : Nat) : ∀ (f : F) (l : List Nd) (m : Int), f.Ok → f.flat.length ≤ N → 0 ≤ m → beh N (f.flat ++ l) (f.cnt + m) = (beh N l m).map (· + f.flat.length)
  | nil, l, m, _, _, _ => by
    simp only [flat, cnt, List.nil_append, List.length_nil, Nat.add_zero]
    rw [show ((0 : Nat) : Int) + m = m by omega]
    cases beh N l m <;> rfl
  | cons x ks r, l, m, h, hN, hm => by
    simp only [flat, List.length_cons, List.length_append] at hN
    have hc := cnt_le ks
    have h1 := h.1
    simp only [flat, cnt, List.cons_append]
    rw [beh_cons, if_neg (by omega), if_neg (by omega), List.append_assoc, show ((r.cnt + 1 : Nat) : Int) + m - 1 + x.kids = ks.cnt + ((r.cnt : Int) + m) by omega,
      beh_flat N ks _ _ h.2.1 (by omega) (by omega), beh_flat N r _ _ h.2.2 (by omega) hm]
    cases beh N l m with
    | none => rfl
    | some j => simp only [Option.map_some, List.length_cons, List.length_append]; congr 1; omega
/-- What ends is a forest. -/
theorem of_beh (N : Nat) : ∀ (n : Nat) (l : List Nd) (left : Int) (k : Nat), l.length ≤ n → 0 ≤ left → beh N l left = some k → ∃ f : F, f.Ok ∧ (f.cnt : Int) = left ∧ f.flat = l.take k ∧ k ≤ l.length := by
  intro n
  induction n with
  | zero =>
    intro l left k hl h0 h
    obtain rfl : l = [] := List.length_eq_zero_iff.1 (by omega)
    rw [beh_nil] at h
    split at h
    · injection h with h; subst h
      exact ⟨nil, trivial, by show (0 : Int) = left; omega, rfl, Nat.le_refl _⟩
    · cases h
  | succ n ih =>
    intro l left k hl h0 h
    by_cases hz : left = 0
    · subst hz
      rw [beh_zero] at h
      injection h with h; subst h
      exact ⟨nil, trivial, rfl, by rw [List.take_zero]; rfl, Nat.zero_le _⟩
    · cases l with
      | nil => rw [beh_nil, if_neg (by omega)] at h; cases h
      | cons x l =>
        rw [beh_cons, if_neg (by omega)] at h
        split at h
        · cases h
        · rename_i hx
          simp only [Option.map_eq_some_iff] at h
          obtain ⟨k', hk', rfl⟩ := h
          rw [List.length_cons] at hl
          obtain ⟨j, h1, h2, h3, h4⟩ := beh_add N l x.kids (left - 1) k' (by omega) (by omega) (by rw [← hk']; congr 1; omega)
          obtain ⟨fk, a1, a2, a3, a4⟩ := ih l x.kids j (by omega) (by omega) h1
          obtain ⟨fr, b1, b2, b3, b4⟩ := ih (l.drop j) (left - 1) (k' - j) (by rw [List.length_drop]; omega) (by omega) h4
          rw [List.length_drop] at b4
          refine ⟨cons x fk fr, ⟨a2, a1, b1⟩, by simp only [cnt]; omega, ?_, by rw [List.length_cons]; omega⟩
          rw [List.take_succ_cons]
          simp only [flat]
          rw [a3, b3]
          congr 1
          have := List.take_add (l := l) (i := j) (j := k' - j)
          rw [show j + (k' - j) = k' by omega] at this
          exact this.symm
theorem deps_zero : ∀ (l : List Nd) (S : List Int), deps l (0 :: S) = deps l S
  | [], S => by rw [deps_nil, deps_nil]
  | x :: l, S => by
    have hp : pop (0 :: S) = pop S := by unfold pop; rw [List.dropWhile_cons]; rfl
    rw [deps, deps, hp]
theorem deps_flat : ∀ (f : F) (l : List Nd) (m : Int) (S : List Int), f.Ok → 0 ≤ m → deps (f.flat ++ l) (((f.cnt : Int) + m) :: S) = f.dps (S.length + 1) ++ deps l (m :: S)
  | nil, l, m, S, _, _ => by
    simp only [flat, cnt, dps, List.nil_append]
    rw [show ((0 : Nat) : Int) + m = m by omega]
  | cons x ks r, l, m, S, h, hm => by
    have h1 := h.1
    have hp : pop ((((r.cnt + 1 : Nat) : Int) + m) :: S) = (((r.cnt + 1 : Nat) : Int) + m) :: S := by
      unfold pop
      rw [List.dropWhile_cons, if_neg (by simp; omega)]
    simp only [flat, cnt, dps, List.cons_append]
    rw [deps, hp]
    simp only
    rw [show max x.kids 0 = (ks.cnt : Int) + 0 by omega, List.append_assoc, deps_flat ks _ 0 _ h.2.1 (Int.le_refl 0), deps_zero,
      show ((r.cnt + 1 : Nat) : Int) + m - 1 = (r.cnt : Int) + m by omega, deps_flat r _ m S h.2.2 hm, List.length_cons, List.append_assoc]
theorem dps_max : ∀ (f : F) (d m : Nat), 0 < d → (f.dps d).foldl max m = if f.hgt = 0 then m else max m (d - 1 + f.hgt)
  | nil, d, m, _ => rfl
  | cons x ks r, d, m, hd => by
    have e : (cons x ks r).hgt = max (ks.hgt + 1) r.hgt := rfl
    rw [e]
    show (d :: (ks.dps (d + 1) ++ r.dps d)).foldl max m = _
    rw [List.foldl_cons, List.foldl_append, dps_max ks (d + 1) _ (by omega), dps_max r d _ hd]
    split <;> split <;> split <;> omega
theorem hgt_one (x : Nd) (ks : F) : (cons x ks nil).hgt = ks.hgt + 1 := Nat.max_eq_left (Nat.zero_le _)
/-- One part by itself. -/
theorem one_behind {x : Nd} {ks : F} (h : (cons x ks nil).Ok) : behind (x :: ks.flat) 0 = (x :: ks.flat).length := by
  have := beh_flat (x :: ks.flat).length (cons x ks nil) [] 0 h (by simp only [flat, List.append_nil]; exact Nat.le_refl _) (Int.le_refl 0)
  simp only [flat, List.append_nil, cnt] at this
  unfold behind
  rw [if_neg (by simp)]
  show (match beh (x :: ks.flat).length (x :: ks.flat) 1 with | some k => 0 + k | none => 0) = _
  have e : ((0 + 1 : Nat) : Int) + 0 = 1 := rfl
  rw [e] at this
  rw [this, beh_zero]
  simp only [Option.map_some, Nat.zero_add]
theorem one_deps {x : Nd} {ks : F} (h : (cons x ks nil).Ok) : deps (x :: ks.flat) [1] = (cons x ks nil).dps 1 := by
  have := deps_flat (cons x ks nil) [] 0 [] h (Int.le_refl 0)
  simp only [flat, List.append_nil, cnt, deps_nil] at this
  exact this
theorem firstBad_none (n : Nat) : ∀ (l : List Nd) (i : Nat), firstBad n l i = none ↔ (∀ x ∈ l, may x = true) ∧ (l = [] ∨ i + l.length ≤ n)
  | [], i => by simp [firstBad]
  | x :: l, i => by
    rw [firstBad]
    by_cases h : may x = true ∧ i < n
    · rw [if_pos h, firstBad_none n l (i + 1)]
      constructor
      · rintro ⟨h1, h2⟩
        refine ⟨fun y hy => ?_, .inr ?_⟩
        · rcases List.mem_cons.1 hy with rfl | hy
          · exact h.1
          · exact h1 y hy
        · rcases h2 with rfl | h2
          · simp; omega
          · rw [List.length_cons]; omega
      · rintro ⟨h1, h2⟩
        refine ⟨fun y hy => h1 y (List.mem_cons_of_mem _ hy), .inr ?_⟩
        rcases h2 with h2 | h2
        · cases h2
        · rw [List.length_cons] at h2; omega
    · rw [if_neg h]
      constructor
      · intro h1; cases h1
      · rintro ⟨h1, h2⟩
        refine absurd ⟨h1 x List.mem_cons_self, ?_⟩ h
        rcases h2 with h2 | h2
        · cases h2
        · rw [List.length_cons] at h2; omega
theorem firstDeep_none : ∀ (l : List Nat) (i : Nat), firstDeep l i = none ↔ ∀ d ∈ l, d ≤ 64
  | [], i => by simp [firstDeep]
  | d :: l, i => by
    rw [firstDeep]
    by_cases h : 64 < d
    · rw [if_pos h]
      constructor
      · intro h1; cases h1
      · intro h1; have := h1 d List.mem_cons_self; omega
    · rw [if_neg h, firstDeep_none l (i + 1)]
      constructor
      · intro h1 y hy
        rcases List.mem_cons.1 hy with rfl | hy
        · omega
        · exact h1 y hy
      · intro h1 y hy
        exact h1 y (List.mem_cons_of_mem _ hy)
theorem le_fold : ∀ (D : List Nat) (m : Nat), m ≤ D.foldl max m ∧ ∀ y ∈ D, y ≤ D.foldl max m
  | [], m => ⟨Nat.le_refl _, fun y hy => by cases hy⟩
  | d :: D, m => by
    have := le_fold D (max m d)
    rw [List.foldl_cons]
    refine ⟨by omega, fun y hy => ?_⟩
    rcases List.mem_cons.1 hy with rfl | hy
    · omega
    · exact this.2 y hy
/-- A list that may be a source's tree is one part. -/
theorem of_check {T : List Nd} (h : (check T).1 = 0) : T.length ≤ 4096 ∧ ∃ x ks, T = x :: ks.flat ∧ (cons x ks nil).Ok ∧ (∀ y ∈ T, may y = true) ∧ ks.hgt + 1 ≤ 64 := by
  rw [← check_eq] at h
  unfold refCheck at h
  split at h
  · cases h
  rename_i hT
  split at h
  · cases h
  rename_i hB
  split at h
  · rename_i hb
    split at h
    · cases h
    rename_i hD
    have h0 : T.length ≠ 0 := by omega
    have hw := whole hb h0
    rw [List.drop_zero] at hw
    obtain ⟨f, f1, f2, f3, _⟩ := of_beh T.length T.length T 1 _ (Nat.le_refl _) (by decide) hw
    rw [Nat.sub_zero, List.take_length] at f3
    cases f with
    | nil => simp only [flat] at f3; rw [← f3] at h0; exact absurd rfl h0
    | cons x ks r =>
      have hr : r = nil := by
        cases r with
        | nil => rfl
        | cons y k2 r2 => simp only [cnt] at f2; omega
      subst hr
      simp only [flat, List.append_nil] at f3
      have hle := (firstDeep_none _ _).1 hD
      rw [← f3, one_deps f1] at hle
      refine ⟨by omega, x, ks, f3.symm, f1, ((firstBad_none _ _ _).1 hB).1, ?_⟩
      have hf := fold_le (n := 64) ((cons x ks nil).dps 1) 0 (by decide) hle
      rw [dps_max _ _ _ (by decide), hgt_one, if_neg (by omega)] at hf
      omega
  · cases h
theorem check_one {x : Nd} {ks : F} (hl : (x :: ks.flat).length ≤ 4096) (h : (cons x ks nil).Ok) (hm : ∀ y ∈ x :: ks.flat, may y = true) (hh : ks.hgt + 1 ≤ 64) : check (x :: ks.flat) = (0, 0) := by
  have hd := one_deps h
  rw [← check_eq]
  unfold refCheck
  rw [if_neg (by rw [List.length_cons] at hl ⊢; omega), hd]
  have e1 : firstBad ((cons x ks nil).dps 1).length (x :: ks.flat) 0 = none := (firstBad_none _ _ _).2 ⟨hm, .inr (by rw [dps_len]; simp only [flat, List.append_nil]; omega)⟩
  have e2 : firstDeep ((cons x ks nil).dps 1) 0 = none := (firstDeep_none _ _).2 fun d hdm => by
    have := (le_fold ((cons x ks nil).dps 1) 0).2 d hdm
    rw [dps_max _ _ _ (by decide), hgt_one, if_neg (by omega)] at this
    omega
  rw [e1, e2]
  simp only
  rw [if_pos (one_behind h)]
/-- Where a node's part ends. -/
theorem behind_at {T pre post : List Nd} {x : Nd} {ks : F} (hT : T = pre ++ x :: (ks.flat ++ post)) (h : (cons x ks nil).Ok) : behind T (pre.length : Int) = pre.length + 1 + ks.flat.length := by
  have hl : T.length = pre.length + (1 + (ks.flat.length + post.length)) := by rw [hT]; simp; omega
  have hd : T.drop pre.length = (cons x ks nil).flat ++ post := by rw [hT, List.drop_left]; simp [flat]
  have := beh_flat T.length (cons x ks nil) post 0 h (by simp only [flat, List.append_nil, List.length_cons]; omega) (Int.le_refl 0)
  rw [← hd, beh_zero] at this
  have e : ((cons x ks nil).cnt : Int) + 0 = 1 := rfl
  rw [e] at this
  unfold behind
  rw [if_neg (by omega), show (pre.length : Int).toNat = pre.length from Int.toNat_natCast _, this]
  simp only [Option.map_some, flat, List.append_nil, List.length_cons]
  omega
theorem kids_from {T : List Nd} : ∀ (f : F) (pre post : List Nd), T = pre ++ (f.flat ++ post) → f.Ok → kidsFrom T f.cnt pre.length = f.places pre.length
  | nil, pre, post, _, _ => rfl
  | cons x ks r, pre, post, hT, h => by
    have h1 := behind_at (T := T) (pre := pre) (x := x) (ks := ks) (post := r.flat ++ post) (by rw [hT]; simp [flat]) ⟨h.1, h.2.1, trivial⟩
    have h2 := kids_from (T := T) r (pre ++ x :: ks.flat) post (by rw [hT]; simp [flat]) h.2.2
    simp only [List.length_append, List.length_cons] at h2
    rw [cnt, kidsFrom, h1, places]
    rw [show pre.length + (ks.flat.length + 1) = pre.length + 1 + ks.flat.length by omega] at h2
    rw [h2]
/-- Where a node's kids begin. -/
theorem kids_at {T pre post : List Nd} {x : Nd} {ks : F} (hT : T = pre ++ x :: (ks.flat ++ post)) (h : (cons x ks nil).Ok) : kidsOf T (pre.length : Int) = ks.places (pre.length + 1) := by
  unfold kidsOf
  rw [behind_at hT h, if_neg (by omega), show (pre.length : Int).toNat = pre.length from Int.toNat_natCast _]
  have hx : T[pre.length]? = some x := by rw [hT]; simp
  rw [hx]
  simp only [Option.map_some, Option.getD_some]
  have hk : x.kids.toNat = ks.cnt := by have := h.1; omega
  rw [hk]
  have := kids_from (T := T) ks (pre ++ [x]) post (by rw [hT]; simp) h.2.1
  simp only [List.length_append, List.length_singleton] at this
  exact this
end F
end Culp.Tr

/- Plain: the free names of a forest. -/
namespace Culp.Tr
set_option linter.unusedSimpArgs false
set_option linter.unusedVariables false
theorem bytes_beq (a b : ByteArray) : (a == b) = decide (a = b) := by
  rcases a with ⟨a⟩
  rcases b with ⟨b⟩
  show (a == b) = _
  rw [Bool.eq_iff_iff, beq_iff_eq, decide_eq_true_eq, ByteArray.mk.injEq]
instance bytesLawful : LawfulBEq ByteArray where
  eq_of_beq {a b} h := by rw [bytes_beq] at h; exact of_decide_eq_true h
  rfl {a} := by rw [bytes_beq]; exact decide_eq_true rfl
/-- The names that a node binds in its kid number k. -/
def binds (x : Nd) (k : Nat) : List ByteArray :=
  if x.kind = 5 then [x.s]
  else if x.kind = 6 then (match two x.s.data.toList with | some (a, b) => [⟨a.toArray⟩, ⟨b.toArray⟩] | none => [])
  else if x.kind = 8 ∧ k = 1 then [x.s]
  else []
def add1 (out : List ByteArray) (s : ByteArray) : List ByteArray := if s ∈ out then out else out ++ [s]
/-- Names, those that are not yet there. -/
def addAll (out l : List ByteArray) : List ByteArray := l.foldl add1 out
namespace F
set_option linter.unusedSimpArgs false
set_option linter.unusedVariables false
/-- The names that stand free, from left to right; those that are bound in the k-th part are told. -/
def vars : F → (Nat → List ByteArray) → Nat → List ByteArray
  | nil, _, _ => []
  | cons x ks r, f, k => (if x.kind = 4 then (if x.s ∈ f k then [] else [x.s]) else ks.vars (fun j => f k ++ binds x j) 0) ++ r.vars f (k + 1)
/-- The free names of one part. -/
def free (x : Nd) (ks : F) : List ByteArray := addAll [] ((cons x ks nil).vars (fun _ => []) 0)
end F
end Culp.Tr

/- Plain: the free names as the document tells them: each Var is asked for a binder above it. -/
namespace Culp.Tr
set_option linter.unusedSimpArgs false
set_option linter.unusedVariables false
namespace F
set_option linter.unusedSimpArgs false
set_option linter.unusedVariables false
/-- What is bound at a place. -/
def bset : F → (Nat → List ByteArray) → Nat → Nat → List ByteArray
  | nil, _, _, _ => []
  | cons x ks r, g, k, q => if q = 0 then g k else if q < 1 + ks.flat.length then ks.bset (fun j => g k ++ binds x j) 0 (q - 1) else r.bset g (k + 1) (q - 1 - ks.flat.length)
theorem cnt_zero {f : F} (h : f.cnt = 0) : f = nil := by
  cases f with
  | nil => rfl
  | cons x ks r => simp [cnt] at h
theorem places_ge : ∀ (f : F) (p : Nat), ∀ y ∈ f.places p, p ≤ y
  | nil, p, y, hy => by simp [places] at hy
  | cons x ks r, p, y, hy => by
    simp only [places, List.mem_cons] at hy
    rcases hy with rfl | hy
    · exact Nat.le_refl _
    · have := places_ge r _ y hy
      omega
/-- What is bound at a place of a tree. -/
def bound (x : Nd) (ks : F) (q : Nat) : List ByteArray := (cons x ks nil).bset (fun _ => []) 0 q
end F
end Culp.Tr

/- Rows that lie apart: an append leaves the others as they were. No program in sight. -/
namespace Culp
set_option linter.unusedSimpArgs false
set_option linter.unusedVariables false
open Go Go.RowKit

section
variable {w w' : World} {base base2 size size2 n m : Nat} {e e2 : TypeId} {a a' b : Value} {xs ys : List Value}
theorem own_apart_type (h : w.ownsRow base e size a n xs) (k : w.ownsRow base2 e2 size2 b m ys) (hne : e ≠ e2) : Apart a b := by
  intro g ha hb
  rcases h.2 with ⟨rfl, _⟩ | ⟨g1, cap1, cur1, rfl, _, hh1, _⟩
  · cases ha
  rcases k.2 with ⟨rfl, _⟩ | ⟨g2, cap2, cur2, rfl, _, hh2, _⟩
  · cases hb
  injection ha with ha
  injection hb with hb
  obtain rfl : g1 = g := ha
  obtain rfl : g2 = g1 := hb
  rw [hh1] at hh2
  simp only [Option.some.injEq, Obj.cells.injEq] at hh2
  exact hne hh2.2.1
theorem own_base (h : w.ownsRow base e size a n xs) (hb : base2 ≤ base) : w.ownsRow base2 e size a n xs := by
  refine ⟨h.1, ?_⟩
  rcases h.2 with h2 | ⟨g, cap, cur, rfl, h3, h4⟩
  · exact .inl h2
  · exact .inr ⟨g, cap, cur, rfl, by omega, h4⟩
end
end Culp

/- Names that are gathered in a cell: what stays meanwhile. No program in sight. -/
namespace Go.Proofs.YtdfadmhomjcmeaaGreatDoor
set_option linter.unusedSimpArgs false
set_option linter.unusedVariables false
open Go.RowKit Go.Maps Culp

/-- All that was there stays, but for one cell's block, and the row that it names. -/
structure KeepN (a : Nat) (o : Option Nat) (w w' : World) : Prop where
  os : w'.os = w.os
  tape : w'.tape = w.tape
  output : w'.output = w.output
  size : w.heap.size ≤ w'.heap.size
  block : ∀ k, k < w.heap.size → k ≠ a → o ≠ some k → w'.heap[k]? = w.heap[k]?
section
variable {a B : Nat} {o o1 : Option Nat} {w w1 w2 W : World} {v bv : Value} {n base size : Nat} {e : TypeId} {xs : List Value}
theorem KeepN.refl (a : Nat) (o : Option Nat) (w : World) : KeepN a o w w := ⟨rfl, rfl, rfl, Nat.le_refl _, fun _ _ _ _ => rfl⟩
theorem KeepN.trans (h : KeepN a o w w1) (k : KeepN a o1 w1 w2) (ho : o1 = o ∨ ∃ b, o1 = some b ∧ w.heap.size ≤ b) : KeepN a o w w2 :=
  ⟨k.os.trans h.os, k.tape.trans h.tape, k.output.trans h.output, Nat.le_trans h.size k.size, fun i hi ha hoi => by
    refine (k.block i (Nat.lt_of_lt_of_le hi h.size) ha ?_).trans (h.block i hi ha hoi)
    rcases ho with rfl | ⟨b, rfl, hb⟩
    · exact hoi
    · intro he
      injection he with he
      omega⟩
theorem KeepN.of (a : Nat) (o : Option Nat) (h : Below w.heap.size w w1) : KeepN a o w w1 := ⟨h.os, h.tape, h.output, h.size, fun k hk _ _ => h.block k hk⟩
theorem KeepN.cell (h : KeepN a o w w1) {p : Addr} (hv : w.cell? p = some v) (ha : p.block ≠ a) (ho : o ≠ some p.block) : w1.cell? p = some v := by
  have hlt := World.block_lt_of_cell? w p hv
  rw [World.cell?_of_block (w := w) (h.block p.block hlt ha ho)]
  exact hv
theorem KeepN.own (h : KeepN a o w w1) (hr : w.ownsRow base e size v n xs) (ha : v.ownBlock ≠ some a) (ho : ∀ k, v.ownBlock = some k → o ≠ some k) : w1.ownsRow base e size v n xs := by
  refine ⟨hr.1, ?_⟩
  rcases hr.2 with h2 | ⟨g, cap, cur, rfl, hb, hh, h3⟩
  · exact .inl h2
  · refine .inr ⟨g, cap, cur, rfl, hb, ?_, h3⟩
    rw [h.block g (hr.lt g rfl).2 (fun e => ha (by rw [e]; rfl)) (ho g rfl)]; exact hh
theorem KeepN.below (h : KeepN a o w w1) (hb : Below B W w) (hB : B ≤ w.heap.size) (ha : B ≤ a) (ho : ∀ k, o = some k → B ≤ k) : Below B W w1 :=
  ⟨h.os.trans hb.os, h.tape.trans hb.tape, h.output.trans hb.output, Nat.le_trans hb.size h.size, fun k hk => (h.block k (by omega) (by omega) (fun e => by have := ho k e; omega)).trans (hb.block k hk)⟩
/-- A cell that holds the names gathered so far. -/
structure NamesAt (ts te : TypeId) (a B : Nat) (L : List ByteArray) (v : Value) (w : World) : Prop where
  one : One a ts v w
  own : w.ownsRow B te 1 v L.length (L.map Value.string)
theorem NamesAt.later {ts te : TypeId} {L : List ByteArray} (h : NamesAt ts te a B L v w) (hb : Below w.heap.size w w1) : NamesAt ts te a B L v w1 :=
  ⟨(hb.block a (Array.getElem?_eq_some_iff.1 h.one).1).trans h.one, own_later h.own hb⟩
theorem NamesAt.ne {ts te : TypeId} {L : List ByteArray} (h : NamesAt ts te a B L v w) (hne : ts ≠ te) : v.ownBlock ≠ some a := by
  intro he
  rcases h.own.2 with ⟨rfl, _⟩ | ⟨g, cap, cur, rfl, _, hh, _⟩
  · cases he
  · simp only [Value.ownBlock, Option.some.injEq] at he
    subst he
    have h1 := h.one
    unfold One at h1
    rw [hh] at h1
    simp only [Option.some.injEq, Obj.cells.injEq] at h1
    exact hne h1.2.1.symm
/-- What goes on with the names answers. -/
def NamesRes (ts te : TypeId) (a B : Nat) (L : List ByteArray) (o : Option Nat) (w : World) (e : Ending) (w' : World) : Prop :=
  e = .returned (.tuple #[]) ∧ ∃ v', NamesAt ts te a B L v' w' ∧ KeepN a o w w' ∧ (v'.ownBlock = o ∨ ∃ b, v'.ownBlock = some b ∧ w.heap.size ≤ b)
theorem NamesRes.after {ts te : TypeId} {L : List ByteArray} {v : Value} {e : Ending} (k : KeepN a o w w1) (hv : v.ownBlock = o ∨ ∃ b, v.ownBlock = some b ∧ w.heap.size ≤ b) (h : NamesRes ts te a B L v.ownBlock w1 e w2) : NamesRes ts te a B L o w e w2 := by
  obtain ⟨h1, v', h2, h3, h4⟩ := h
  refine ⟨h1, v', h2, k.trans h3 hv, ?_⟩
  have hs := k.size
  rcases h4 with h4 | ⟨b, h4, hb⟩
  · rw [h4]; exact hv
  · exact .inr ⟨b, h4, by omega⟩
/-- One more name, and the cell told of it. -/
theorem NamesAt.add {ts te : TypeId} {L : List ByteArray} {w5 : World} {v' : Value} {s : ByteArray} (h : NamesAt ts te a B L v w) (hne : ts ≠ te)
    (hown : w5.ownsRow B te 1 v' (L.length + 1) (L.map Value.string ++ [.string s])) (hg : w.grownBy w5 v.ownBlock) (hat : v'.ownBlock = v.ownBlock ∨ v'.ownBlock = some (w.heap.size + 1)) (hs : s ∉ L) :
    NamesRes ts te a B (Tr.add1 L s) v.ownBlock w (.returned (.tuple #[])) (w5.setCell ⟨a, 0, none⟩ v') := by
  have hal : a < w.heap.size := (Array.getElem?_eq_some_iff.1 h.one).1
  have hva := h.ne hne
  have h5 : One a ts v w5 := (hg.block a hal (fun e => hva e.symm)).trans h.one
  have hv' : v'.ownBlock ≠ some a := by
    rcases hat with e | e
    · rw [e]; exact hva
    · rw [e]; intro he; injection he with he; omega
  have hk : Keep a w5 (w5.setCell ⟨a, 0, none⟩ v') := (Keep.refl a w5).setCell 0 _
  refine ⟨rfl, v', ⟨h5.put v', ?_⟩, ⟨hk.os.trans hg.os, hk.tape.trans hg.tape, hk.output.trans hg.output, Nat.le_trans hg.size hk.size, fun k hk1 hk2 hk3 => (hk.block k (Nat.lt_of_lt_of_le hk1 hg.size) hk2).trans (hg.block k hk1 (fun e => hk3 e.symm))⟩, ?_⟩
  · have e : Tr.add1 L s = L ++ [s] := by unfold Tr.add1; rw [if_neg hs]
    rw [e, List.length_append, List.map_append]
    exact own_apart_keep hown hk hv'
  · rcases hat with e | e
    · exact .inl e
    · exact .inr ⟨_, e, Nat.le_succ _⟩
theorem NamesAt.had {ts te : TypeId} {L : List ByteArray} {s : ByteArray} (h : NamesAt ts te a B L v w) (hs : s ∈ L) : NamesRes ts te a B (Tr.add1 L s) v.ownBlock w (.returned (.tuple #[])) w := by
  have e : Tr.add1 L s = L := by unfold Tr.add1; rw [if_pos hs]
  rw [e]
  exact ⟨rfl, v, h, KeepN.refl _ _ _, .inl rfl⟩
/-- A slice of texts, as a call finds it. -/
def Nms (w : World) (v : Value) (L : List ByteArray) : Prop := ∃ A c, v = .slice A L.length c ∧ L.length ≤ c ∧ (A = none → L = [] ∧ c = 0) ∧ ∀ b, A = some b → ∃ g, b = ⟨g, 0, none⟩ ∧ g < w.heap.size ∧ ∀ (j : Nat) (s : ByteArray), L[j]? = some s → w.cell? ⟨g, j, none⟩ = some (.string s)
section
variable {L : List ByteArray} {ts : TypeId} {bv : Value}
theorem Nms.nil (w : World) : Nms w (.slice none 0 0) [] := ⟨none, 0, rfl, Nat.le_refl _, fun _ => ⟨rfl, rfl⟩, fun b h => by cases h⟩
theorem Nms.keep {x : Value} (h : Nms w bv L) (k : KeepN a o w w1) (h1 : One a ts x w) (hx : ∀ s, x ≠ .string s) (hap : ∀ g, bv.ownBlock = some g → o ≠ some g) : Nms w1 bv L := by
  obtain ⟨A, c, rfl, h2, h3, h4⟩ := h
  refine ⟨A, c, rfl, h2, h3, fun b hb => ?_⟩
  obtain ⟨g, rfl, hlt, hc⟩ := h4 b hb
  subst hb
  refine ⟨g, rfl, Nat.lt_of_lt_of_le hlt k.size, fun j s hj => k.cell (hc j s hj) ?_ (hap g rfl)⟩
  intro hg
  have hg : g = a := hg
  subst hg
  have := hc j s hj
  unfold One at h1
  simp only [World.cell?, h1] at this
  match j, this with
  | 0, this => simp at this; exact hx s this
  | j + 1, this => simp at this
theorem Nms.later (h : Nms w bv L) (hb : Below w.heap.size w w1) : Nms w1 bv L := by
  obtain ⟨A, c, rfl, h2, h3, h4⟩ := h
  refine ⟨A, c, rfl, h2, h3, fun b hb' => ?_⟩
  obtain ⟨g, rfl, hlt, hc⟩ := h4 b hb'
  exact ⟨g, rfl, Nat.lt_of_lt_of_le hlt hb.size, fun j s hj => cell_later hb (hc j s hj)⟩
theorem Nms.own (h : w.ownsRow base e 1 bv n (L.map Value.string)) : Nms w bv L := by
  have hn : n = L.length := by have := h.1; simp at this; omega
  subst hn
  rcases h.2 with ⟨rfl, h0⟩ | ⟨g, cap, cur, rfl, hb, hh, hc, _⟩
  · have : L = [] := List.eq_nil_of_length_eq_zero h0
    subst this
    exact Nms.nil w
  · refine ⟨_, cap, rfl, hc, (fun h => by cases h), fun b hb => ⟨g, (by injection hb with hb; exact hb.symm), (h.lt g rfl).2, fun j s hj => (own_get h (by rw [List.getElem?_map, hj]; rfl)).1⟩⟩
theorem Nms.apart {v' : Value} (h : Nms w bv L) (hA : Culp.Apart bv v) (hv : v'.ownBlock = v.ownBlock ∨ ∃ b, v'.ownBlock = some b ∧ w.heap.size ≤ b) : Culp.Apart bv v' := by
  obtain ⟨A, c, rfl, _, _, h4⟩ := h
  intro g hg hv'
  rcases hv with e | ⟨b, e, hb⟩
  · rw [e] at hv'; exact hA g hg hv'
  · rw [e] at hv'
    injection hv' with hv'
    cases A with
    | none => cases hg
    | some x =>
      obtain ⟨g', rfl, hlt, _⟩ := h4 x rfl
      injection hg with hg
      have hg : g' = g := hg
      omega
theorem exec_append {P : Program} {o : Oper} {a : Act} {s x : Operand} {t ty : TypeId} {sv xv v' : Value} {w' : World} (hop : o.op = .call { callee := .builtin .append, args := #[s, x], argTypes := #[t, t] }) (hty : o.type = ty) (hs : a.eval s = sv) (hx : a.eval x = xv)
    (hrun : (Builtin.append_ #[t, t] ty #[sv, xv]).run P w = .ok v' w') : (execOp a.eval o).run P w = .ok (.value v') w' := by
  subst hty
  simp [execOp, hop, resolve, invoke, builtin, hs, hx, hrun, Result.andThen]
end
end
end Go.Proofs.YtdfadmhomjcmeaaGreatDoor

/- Walks of trees: the free names. -/
namespace Culp.Tr
set_option linter.unusedSimpArgs false
set_option linter.unusedVariables false
open Go
theorem inner_sp {c : UInt8} (h : Tx.inner c = true) : Lib.isSp c = false ∧ c.toNat < 128 := by
  unfold Tx.inner Tx.letter Tx.digit at h
  simp only [Bool.or_eq_true, decide_eq_true_eq] at h
  refine ⟨?_, by omega⟩
  unfold Lib.isSp
  have hk : ∀ n : UInt8, n.toNat ≤ 32 → (c == n) = false := fun n hn => by
    rw [beq_eq_false_iff_ne]
    intro he
    subst he
    omega
  rw [hk 9 (by decide), hk 10 (by decide), hk 11 (by decide), hk 12 (by decide), hk 13 (by decide), hk 32 (by decide)]
  rfl
theorem name_inner {s : List UInt8} (h : Tx.isName s = true) : s ≠ [] ∧ s.length ≤ 32 ∧ ∀ c ∈ s, Tx.inner c = true := by
  unfold Tx.isName at h
  simp only [Bool.and_eq_true, decide_eq_true_eq, List.all_eq_true] at h
  exact ⟨h.1.1.1.1, h.1.1.1.2, h.2⟩
theorem fieldsGo_word : ∀ (l cur rest : List UInt8), (∀ c ∈ l, Lib.isSp c = false) → Lib.fieldsGo cur (l ++ rest) = Lib.fieldsGo (cur ++ l) rest
  | [], cur, rest, _ => by simp
  | c :: l, cur, rest, h => by
    rw [List.cons_append, Lib.fieldsGo_more _ _ _ (h c List.mem_cons_self), fieldsGo_word l (cur ++ [c]) rest (fun d hd => h d (List.mem_cons_of_mem _ hd))]
    simp
theorem fields_name {s : List UInt8} (h : Tx.isName s = true) : Lib.fields s = [s] := by
  obtain ⟨h1, _, h2⟩ := name_inner h
  unfold Lib.fields
  have := fieldsGo_word s [] [] (fun c hc => (inner_sp (h2 c hc)).1)
  rw [List.append_nil, List.nil_append] at this
  rw [this]
  cases s with
  | nil => exact absurd rfl h1
  | cons c s => rfl
theorem two_split : ∀ {l a b : List UInt8}, two l = some (a, b) → l = a ++ 32 :: b
  | [], a, b, h => by simp [two] at h
  | c :: l, a, b, h => by
    unfold two at h
    split at h
    · rename_i hc
      simp only [Option.some.injEq, Prod.mk.injEq] at h
      obtain ⟨rfl, rfl⟩ := h
      have : c = 32 := UInt8.toNat_inj.1 hc
      rw [this]; rfl
    · simp only [Option.map_eq_some_iff, Prod.exists, Prod.mk.injEq] at h
      obtain ⟨x, y, h1, rfl, rfl⟩ := h
      rw [two_split h1]; rfl
theorem fields_two {s a b : List UInt8} (h : two s = some (a, b)) (ha : Tx.isName a = true) (hb : Tx.isName b = true) : Lib.fields s = [a, b] := by
  obtain ⟨h1, _, h2⟩ := name_inner ha
  have h3 := fields_name hb
  unfold Lib.fields at h3 ⊢
  rw [two_split h, fieldsGo_word a [] _ (fun c hc => (inner_sp (h2 c hc)).1), List.nil_append, Lib.fieldsGo_end _ _ _ (by decide) h1, h3]
/-- What a node that binds says, in the library's words. -/
structure Fld (x : Nd) : Prop where
  eq : (Lib.fields x.s.data.toList).map (fun l => (⟨l.toArray⟩ : ByteArray)) = binds x 0
  len : 0 < (Lib.fields x.s.data.toList).length ∧ (Lib.fields x.s.data.toList).length ≤ 2
  size : x.s.size < 100
  ascii : ∀ (j : Nat) b, x.s.data.toList[j]? = some b → b.toNat < 128
theorem fld_of {x : Nd} (h : may x = true) (hk : x.kind = 5 ∨ x.kind = 6) : Fld x := by
  have hs : sOk x.kind x.s.data.toList = true := by
    unfold may at h
    simp only [Bool.and_eq_true] at h
    exact h.1.1.2
  rcases hk with hk | hk
  · rw [hk] at hs
    have hn : Tx.isName x.s.data.toList = true := hs
    obtain ⟨h1, h2, h3⟩ := name_inner hn
    refine ⟨?_, ?_, ?_, ?_⟩
    · rw [fields_name hn]
      unfold binds
      rw [if_pos hk]
      rfl
    · rw [fields_name hn]; exact ⟨Nat.succ_pos _, by simp⟩
    · have : x.s.size = x.s.data.toList.length := by rw [Array.length_toList]; rfl
      omega
    · intro j b hb
      exact (inner_sp (h3 b (List.mem_of_getElem? hb))).2
  · rw [hk] at hs
    have hn : twoOk x.s.data.toList = true := hs
    unfold twoOk at hn
    split at hn
    · cases hn
    · rename_i a b hab
      simp only [Bool.and_eq_true] at hn
      obtain ⟨ha, hb⟩ := hn
      have hf := fields_two hab ha hb
      obtain ⟨_, a2, a3⟩ := name_inner ha
      obtain ⟨_, b2, b3⟩ := name_inner hb
      have hsp := two_split hab
      refine ⟨?_, ?_, ?_, ?_⟩
      · rw [hf]
        unfold binds
        rw [if_neg (by omega), if_pos hk, hab]
        rfl
      · rw [hf]; exact ⟨Nat.succ_pos _, by simp⟩
      · have h4 : x.s.size = x.s.data.toList.length := by rw [Array.length_toList]; rfl
        rw [hsp, List.length_append, List.length_cons] at h4
        omega
      · intro j c hc
        have hm := List.mem_of_getElem? hc
        rw [hsp, List.mem_append, List.mem_cons] at hm
        rcases hm with hm | rfl | hm
        · exact (inner_sp (a3 c hm)).2
        · decide
        · exact (inner_sp (b3 c hm)).2
namespace F
set_option linter.unusedSimpArgs false
set_option linter.unusedVariables false
variable {x y : Nd} {ks ky r : F} {bd : List ByteArray} {g : Nat → List ByteArray} {k : Nat}
end F
end Culp.Tr
namespace Go.Proofs.YtdfadmhomjcmeaaGreatDoor
set_option linter.unusedSimpArgs false
set_option linter.unusedVariables false
open Go.RowKit Go.Maps Culp

end Go.Proofs.YtdfadmhomjcmeaaGreatDoor

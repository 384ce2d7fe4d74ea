
/- Plain: trees: which lists may be, what the program and the document answer of them. -/
import Derived.Test.YtdobaililmkkcaaGreatDoorCore
import Derived.Test.YtdobaililmkkcaaGreatDoorTx
namespace Culp.Tr
set_option linter.unusedSimpArgs false
set_option linter.unusedVariables false
open Culp

/-- How many kids a kind has: -1: any number; -2: it is none. -/
def arit (k : Int) : Int :=
  if k = 1 ∨ k = 2 ∨ k = 3 ∨ k = 4 then 0
  else if k = 5 ∨ k = 6 ∨ k = 29 ∨ k = 30 ∨ k = 16 ∨ k = 17 ∨ k = 19 ∨ k = 20 ∨ k = 22 ∨ k = 23 ∨ k = 24 ∨ k = 26 ∨ k = 27 then 1
  else if k = 8 ∨ k = 7 ∨ k = 10 ∨ k = 11 ∨ k = 12 ∨ k = 13 ∨ k = 14 ∨ k = 15 ∨ k = 18 ∨ k = 25 ∨ k = 28 then 2
  else if k = 9 then 3
  else if k = 21 then -1
  else -2
theorem arit_bounds (k : Int) : -2 ≤ arit k ∧ arit k ≤ 3 := by
  unfold arit
  split
  · omega
  split
  · omega
  split
  · omega
  split
  · omega
  split <;> omega
/-- An annotation, or none. -/
def note (t : List UInt8) : Bool := decide (t = []) || isTy t
/-- A text parted at its first blank. -/
def two : List UInt8 → Option (List UInt8 × List UInt8)
  | [] => none
  | c :: l => if c.toNat = 32 then some ([], l) else (two l).map fun x => (c :: x.1, x.2)
def twoOk (s : List UInt8) : Bool := match two s with
  | none => false
  | some (a, b) => Tx.isName a && Tx.isName b
/-- What a node's kind lets it bear. -/
def nOk (x : Nd) : Bool := if x.kind = 1 then decide (0 ≤ x.n) else if x.kind = 3 then decide (x.n = 0) || decide (x.n = 1) else decide (x.n = 0)
def sOk (k : Int) (s : List UInt8) : Bool := if k = 2 then (Tx.quote s).isSome else if k = 4 ∨ k = 5 ∨ k = 8 then Tx.isName s else if k = 6 then twoOk s else decide (s = [])
def tOk (k : Int) (t : List UInt8) : Bool := if k = 5 ∨ k = 6 ∨ k = 8 then note t else if k = 29 then isTy t else decide (t = [])
def uOk (k : Int) (u : List UInt8) : Bool := if k = 5 ∨ k = 6 then note u else decide (u = [])
def kOk (x : Nd) : Bool := decide (x.kind ≠ 30) && decide (0 ≤ x.kids) && (decide (arit x.kind = -1) || decide (arit x.kind = x.kids))
/-- May a node stand in a source's tree? -/
def may (x : Nd) : Bool := kOk x && nOk x && sOk x.kind x.s.data.toList && tOk x.kind x.t.data.toList && uOk x.kind x.u.data.toList
theorem may_kids {x : Nd} (h : may x = true) : 0 ≤ x.kids := by
  unfold may kOk at h
  simp only [Bool.and_eq_true, decide_eq_true_eq] at h
  exact h.1.1.1.1.1.2

/-- The open parts, the innermost first: those that are full are left. -/
def pop (S : List Int) : List Int := S.dropWhile (· == 0)
theorem pop_sum : ∀ S : List Int, (pop S).sum = S.sum
  | [] => rfl
  | c :: S => by
    unfold pop
    rw [List.dropWhile_cons]
    split
    · rename_i h
      have hc : c = 0 := by simpa using h
      have := pop_sum S
      unfold pop at this
      rw [this, hc]; simp
    · rfl
theorem pop_head {S : List Int} {c : Int} {r : List Int} (h : pop S = c :: r) : c ≠ 0 := by
  intro hc
  have := List.head_dropWhile_not (p := (· == (0 : Int))) (l := S) (by unfold pop at h; rw [h]; simp)
  unfold pop at h
  simp [h, hc] at this
theorem pop_mem {S : List Int} {n : Int} (h : n ∈ pop S) : n ∈ S := (List.dropWhile_sublist _).subset h
theorem sum_nonneg : ∀ S : List Int, (∀ n ∈ S, 0 ≤ n) → 0 ≤ S.sum
  | [], _ => by simp
  | c :: S, h => by
    have h1 := h c List.mem_cons_self
    have h2 := sum_nonneg S fun n hn => h n (List.mem_cons_of_mem _ hn)
    rw [List.sum_cons]; omega
theorem pop_nil {S : List Int} (h0 : ∀ n ∈ S, 0 ≤ n) : pop S = [] ↔ S.sum = 0 := by
  constructor
  · intro h
    rw [← pop_sum, h]; rfl
  · intro h
    cases hp : pop S with
    | nil => rfl
    | cons c r =>
      have h1 := pop_head hp
      have h2 := h0 c (pop_mem (by rw [hp]; exact List.mem_cons_self))
      have h3 := sum_nonneg r fun n hn => h0 n (pop_mem (by rw [hp]; exact List.mem_cons_of_mem _ hn))
      have h4 := pop_sum S
      rw [hp, List.sum_cons] at h4
      omega
theorem any_pos {S : List Int} (h0 : ∀ n ∈ S, 0 ≤ n) : S.any (fun n => decide (0 < n)) = decide (0 < S.sum) := by
  induction S with
  | nil => rfl
  | cons c S ih =>
    have h1 := h0 c List.mem_cons_self
    have h2 := sum_nonneg S fun n hn => h0 n (List.mem_cons_of_mem _ hn)
    rw [List.any_cons, ih fun n hn => h0 n (List.mem_cons_of_mem _ hn), List.sum_cons, Bool.eq_iff_iff]
    simp only [Bool.or_eq_true, decide_eq_true_eq]
    omega
/-- The rest of a list, as the program looks at it. -/
def scan : List Nd → List Int → Nat → Option Nat → Nat × Nat
  | [], S, i, d => if S.any (fun n => decide (0 < n)) = true then (18, i) else match d with | some j => (16, j) | none => (0, 0)
  | x :: l, S, i, d => match pop S with
    | [] => (18, i)
    | c :: r => if may x = true then scan l (x.kids :: (c - 1) :: r) (i + 1) (if d.isNone = true ∧ 64 < r.length + 1 then some i else d) else (18, i)
theorem scan_nil (S : List Int) (i : Nat) (d : Option Nat) : scan [] S i d = if S.any (fun n => decide (0 < n)) = true then (18, i) else match d with | some j => (16, j) | none => (0, 0) := rfl
theorem scan_cons (x : Nd) (l : List Nd) (S : List Int) (i : Nat) (d : Option Nat) : scan (x :: l) S i d = match pop S with
    | [] => (18, i)
    | c :: r => if may x = true then scan l (x.kids :: (c - 1) :: r) (i + 1) (if d.isNone = true ∧ 64 < r.length + 1 then some i else d) else (18, i) := rfl
/-- What the checker answers: the fault, and the node. -/
def check (T : List Nd) : Nat × Nat := if T.length = 0 ∨ 4096 < T.length then (17, 0) else scan T [1] 0 none
/-- The depths of the nodes, as far as parts are open. -/
def deps : List Nd → List Int → List Nat
  | [], _ => []
  | x :: l, S => match pop S with
    | [] => []
    | c :: r => (r.length + 1) :: deps l (max x.kids 0 :: (c - 1) :: r)
/-- How many nodes so many parts have. -/
def beh (N : Nat) : List Nd → Int → Option Nat
  | [], left => if left ≤ 0 then some 0 else none
  | x :: l, left => if left ≤ 0 then some 0 else if x.kids < 0 ∨ (N : Int) < x.kids then none else (beh N l (left - 1 + x.kids)).map (· + 1)
def behind (T : List Nd) (a : Int) : Nat := if a < 0 ∨ (T.length : Int) ≤ a then 0 else match beh T.length (T.drop a.toNat) 1 with
  | some k => a.toNat + k
  | none => 0
def firstBad (n : Nat) : List Nd → Nat → Option Nat
  | [], _ => none
  | x :: l, i => if may x = true ∧ i < n then firstBad n l (i + 1) else some i
def firstDeep : List Nat → Nat → Option Nat
  | [], _ => none
  | d :: l, i => if 64 < d then some i else firstDeep l (i + 1)
theorem beh_left (N : Nat) : ∀ (l : List Nd) (left : Int), beh N l left = some l.length → left ≤ l.length
  | [], left, h => by
    unfold beh at h
    split at h
    · simpa using (by assumption)
    · cases h
  | x :: l, left, h => by
    unfold beh at h
    split at h
    · rw [List.length_cons]; omega
    split at h
    · cases h
    · rename_i h1 h2
      simp only [Option.map_eq_some_iff] at h
      obtain ⟨k, hk, he⟩ := h
      rw [List.length_cons] at he ⊢
      have hkl : k = l.length := by omega
      subst hkl
      have := beh_left N l _ hk
      omega
theorem scan_eq (N : Nat) : ∀ (l : List Nd) (S : List Int) (i : Nat) (d : Option Nat), (∀ n ∈ S, 0 ≤ n) → l.length ≤ N →
    scan l S i d = match firstBad (i + (deps l S).length) l i with
      | some j => (18, j)
      | none => if beh N l S.sum = some l.length then (match d.or (firstDeep (deps l S) i) with | some j => (16, j) | none => (0, 0)) else (18, i + l.length)
  | [], S, i, d, h0, _ => by
    have hs := sum_nonneg S h0
    rw [scan_nil, any_pos h0]
    simp only [beh, deps, firstDeep, firstBad, List.length_nil, decide_eq_true_eq]
    by_cases h : 0 < S.sum
    · rw [if_pos h, if_neg (by rw [if_neg (by omega)]; simp)]; simp
    · rw [if_neg h, if_pos (by rw [if_pos (by omega)])]
      cases d <;> rfl
  | x :: l, S, i, d, h0, hN => by
    rw [scan_cons, deps, firstBad]
    cases hp : pop S with
    | nil => simp
    | cons c r =>
      simp only
      by_cases hm : may x = true
      · have hk := may_kids hm
        have h1 := pop_head hp
        have h2 := h0 c (pop_mem (by rw [hp]; exact List.mem_cons_self))
        have hr : ∀ n ∈ r, 0 ≤ n := fun n hn => h0 n (pop_mem (by rw [hp]; exact List.mem_cons_of_mem _ hn))
        have h3 := sum_nonneg r hr
        have h4 := pop_sum S
        rw [hp, List.sum_cons] at h4
        have hmax : max x.kids 0 = x.kids := by omega
        rw [List.length_cons] at hN
        have ih := scan_eq N l (x.kids :: (c - 1) :: r) (i + 1) (if d.isNone = true ∧ 64 < r.length + 1 then some i else d) (by
          intro n hn
          rcases List.mem_cons.1 hn with rfl | hn
          · exact hk
          rcases List.mem_cons.1 hn with rfl | hn
          · omega
          · exact hr n hn) (by omega)
        rw [if_pos hm, ih, hmax]
        have e1 : i + ((r.length + 1) :: deps l (x.kids :: (c - 1) :: r)).length = i + 1 + (deps l (x.kids :: (c - 1) :: r)).length := by rw [List.length_cons]; omega
        rw [e1, if_pos (show may x = true ∧ i < i + 1 + (deps l (x.kids :: (c - 1) :: r)).length from ⟨hm, by omega⟩)]
        cases firstBad (i + 1 + (deps l (x.kids :: (c - 1) :: r)).length) l (i + 1) with
        | some j => rfl
        | none =>
          simp only
          have e2 : (x.kids :: (c - 1) :: r).sum = S.sum - 1 + x.kids := by rw [List.sum_cons, List.sum_cons]; omega
          have e3 : beh N (x :: l) S.sum = some (x :: l).length ↔ beh N l (S.sum - 1 + x.kids) = some l.length := by
            rw [beh, if_neg (by omega)]
            by_cases hkN : (N : Int) < x.kids
            · rw [if_pos (.inr hkN)]
              constructor
              · intro h; cases h
              · intro h
                have := beh_left N l _ h
                omega
            · rw [if_neg (by omega), List.length_cons]
              simp
          have e4 : i + 1 + l.length = i + (x :: l).length := by rw [List.length_cons]; omega
          rw [e2, e4]
          simp only [e3]
          split
          · rw [firstDeep]
            cases d with
            | some j => simp
            | none =>
              by_cases hd : 64 < r.length + 1
              · rw [if_pos ⟨rfl, hd⟩, if_pos hd]; rfl
              · rw [if_neg (by simp [hd]), if_neg hd]
          · rfl
      · rw [if_neg hm, if_neg (by simp [hm])]
/-- What the document answers. -/
def refCheck (T : List Nd) : Nat × Nat := if T.length = 0 ∨ 4096 < T.length then (17, 0) else match firstBad (deps T [1]).length T 0 with
  | some j => (18, j)
  | none => if behind T 0 = T.length then (match firstDeep (deps T [1]) 0 with | some j => (16, j) | none => (0, 0)) else (18, T.length)
theorem check_eq (T : List Nd) : refCheck T = check T := by
  unfold refCheck check
  split
  · rfl
  · rename_i h
    rw [scan_eq T.length T [1] 0 none (by simp) (Nat.le_refl _), Nat.zero_add]
    cases firstBad (deps T [1]).length T 0 with
    | some j => rfl
    | none =>
      simp only
      have e : behind T 0 = T.length ↔ beh T.length T [1].sum = some T.length := by
        unfold behind
        rw [if_neg (by omega)]
        show (match beh T.length T 1 with | some k => 0 + k | none => 0) = T.length ↔ beh T.length T 1 = some T.length
        cases beh T.length T 1 with
        | none => simp; omega
        | some k => simp
      simp only [e, Nat.zero_add]
      rfl
end Culp.Tr

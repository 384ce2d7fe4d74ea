
/- Plain facts on sources and their tokens: no program in sight. -/
import Derived.Below
namespace Culp.Tx
set_option linter.unusedSimpArgs false
set_option linter.unusedVariables false

def letter (c : UInt8) : Bool := decide (97 ≤ c.toNat ∧ c.toNat ≤ 122 ∨ 65 ≤ c.toNat ∧ c.toNat ≤ 90)
def digit (c : UInt8) : Bool := decide (48 ≤ c.toNat ∧ c.toNat ≤ 57)
def inner (c : UInt8) : Bool := letter c || digit c || decide (c.toNat = 95)
def blank (c : UInt8) : Bool := decide (c.toNat = 32 ∨ c.toNat = 9 ∨ c.toNat = 13 ∨ c.toNat = 10)

/-- How many bytes of blanks and remarks stand first; the first argument: are we in a remark? -/
def behind : Bool → List UInt8 → Nat
  | _, [] => 0
  | true, c :: l => 1 + behind (decide (c.toNat ≠ 10)) l
  | false, c :: l => if c.toNat = 35 then 1 + behind true l else if blank c = true then 1 + behind false l else 0

/-- A place: line and column. -/
def step (p : Nat × Nat) (c : UInt8) : Nat × Nat := if c.toNat = 10 then (p.1 + 1, 1) else (p.1, p.2 + 1)
def further (p : Nat × Nat) (l : List UInt8) : Nat × Nat := l.foldl step p

/-- A token: its kind, its number, its text. -/
structure Tk where
  kind : Nat
  n : Nat
  s : List UInt8
deriving DecidableEq

def words : List (List UInt8) := [[109,111,100,117,108,101], [105,109,112,111,114,116], [101,120,112,111,114,116], [108,101,116], [114,101,99], [105,110], [105,102], [116,104,101,110], [101,108,115,101], [102,110],
  [116,114,117,101], [102,97,108,115,101], [105,110,116], [98,111,111,108], [116,101,120,116], [98,111,120], [102,105,114,115,116], [115,101,99,111,110,100], [104,101,97,100], [116,97,105,108], [101,109,112,116,121], [99,111,110,115], [115,105,122,101]]
def isWord (s : List UInt8) : Bool := decide (s ∈ words)
def isName (s : List UInt8) : Bool := decide (s ≠ []) && decide (s.length ≤ 32) && (s.head?.map letter).getD false && !isWord s && s.all inner

def run (l : List UInt8) : List UInt8 := l.takeWhile inner
def value (l : List UInt8) : Nat := l.foldl (fun n c => 10 * n + (c.toNat - 48)) 0
def worth (l : List UInt8) : Option Nat := if l.head? = some 48 ∧ 1 < l.length then none else if l.all digit = true then (if value l ≤ 9223372036854775807 then some (value l) else none) else none

/-- A text's token, behind its first quote: what it stands for, how many bytes it takes. -/
def unq : List UInt8 → Option (List UInt8 × Nat)
  | [] => none
  | [c] => if c.toNat = 34 then some ([], 1) else none
  | c :: d :: l => if c.toNat = 34 then some ([], 1)
      else if c.toNat = 92 then (if d.toNat = 34 ∨ d.toNat = 92 then (unq l).map (fun p => (d :: p.1, p.2 + 2)) else if d.toNat = 110 then (unq l).map (fun p => (10 :: p.1, p.2 + 2)) else none)
      else if c.toNat < 32 ∨ 126 < c.toNat then none else (unq (d :: l)).map (fun p => (c :: p.1, p.2 + 1))

def marks2 : List (List UInt8) := [[45, 62], [61, 62], [58, 61], [61, 61], [43, 43]]
def marks1 : List UInt8 := [40, 41, 91, 93, 123, 125, 44, 58, 59, 46, 61, 60, 43, 45, 42, 63, 33]
def mark : List UInt8 → List UInt8
  | [] => []
  | [c] => if c ∈ marks1 then [c] else []
  | c :: d :: _ => if [c, d] ∈ marks2 then [c, d] else if c ∈ marks1 then [c] else []

/-- The token that stands first, and how many bytes it takes; or what is wrong. -/
def one : List UInt8 → Except Nat (Tk × Nat)
  | [] => .error 11
  | c :: l =>
    if letter c = true then
      if (run (c :: l)).length ≤ 32 then .ok (⟨if isWord (run (c :: l)) = true then 1 else 2, 0, run (c :: l)⟩, (run (c :: l)).length) else .error 12
    else if digit c = true then
      match worth (run (c :: l)) with | some n => .ok (⟨3, n, []⟩, (run (c :: l)).length) | none => .error 13
    else if c.toNat = 34 then
      match unq l with | some (s, k) => if s.length ≤ 64 then .ok (⟨4, 0, s⟩, k + 1) else .error 14 | none => .error 14
    else if mark (c :: l) = [] then .error 11 else .ok (⟨5, 0, mark (c :: l)⟩, (mark (c :: l)).length)

theorem unq_bounds : ∀ (l : List UInt8) (s : List UInt8) (k : Nat), unq l = some (s, k) → 1 ≤ k ∧ k ≤ l.length ∧ s.length + 1 ≤ k
  | [], s, k, h => by simp [unq] at h
  | [c], s, k, h => by
    unfold unq at h
    split at h
    · simp at h; obtain ⟨rfl, rfl⟩ := h; simp
    · cases h
  | c :: d :: l, s, k, h => by
    unfold unq at h
    split at h
    · simp at h; obtain ⟨rfl, rfl⟩ := h; simp
    split at h
    · split at h
      · simp only [Option.map_eq_some_iff, Prod.exists, Prod.mk.injEq] at h
        obtain ⟨a, b, h1, rfl, rfl⟩ := h
        have := unq_bounds l a b h1
        simp; omega
      · split at h
        · simp only [Option.map_eq_some_iff, Prod.exists, Prod.mk.injEq] at h
          obtain ⟨a, b, h1, rfl, rfl⟩ := h
          have := unq_bounds l a b h1
          simp; omega
        · cases h
    · split at h
      · cases h
      · simp only [Option.map_eq_some_iff, Prod.exists, Prod.mk.injEq] at h
        obtain ⟨a, b, h1, rfl, rfl⟩ := h
        have := unq_bounds (d :: l) a b h1
        simp at this ⊢; omega

theorem mark_len : ∀ l : List UInt8, (mark l).length ≤ l.length ∧ (mark l).length ≤ 2
  | [] => by simp [mark]
  | [c] => by rw [mark]; split <;> simp
  | c :: d :: l => by
    rw [mark]
    split
    · simp
    · split <;> simp

theorem run_len (l : List UInt8) : (run l).length ≤ l.length := (List.takeWhile_sublist _).length_le

theorem one_bounds {l : List UInt8} {t : Tk} {k : Nat} (h : one l = .ok (t, k)) : 1 ≤ k ∧ k ≤ l.length := by
  cases l with
  | nil => simp [one] at h
  | cons c l =>
    rw [one] at h
    have hr := run_len (c :: l)
    have hm := mark_len (c :: l)
    have ht : ∀ c : UInt8, ∀ l, inner c = true → 1 ≤ (run (c :: l)).length := fun c l hc => by unfold run; rw [List.takeWhile_cons, if_pos hc]; simp
    split at h
    · rename_i hl
      split at h
      · injection h with h; injection h with h1 h2; subst h2
        exact ⟨ht _ _ (by unfold inner; rw [hl]; rfl), hr⟩
      · cases h
    split at h
    · rename_i hl hd
      split at h
      · injection h with h; injection h with h1 h2; subst h2
        exact ⟨ht _ _ (by unfold inner; rw [hd]; simp), hr⟩
      · cases h
    split at h
    · split at h
      · rename_i s k' hu
        split at h
        · injection h with h; injection h with h1 h2; subst h2
          have := unq_bounds _ _ _ hu
          simp; omega
        · cases h
      · cases h
    · split at h
      · cases h
      · rename_i hn
        injection h with h; injection h with h1 h2; subst h2
        refine ⟨?_, hm.1⟩
        have := List.length_pos_iff.2 hn
        omega

theorem behind_le : ∀ (b : Bool) (l : List UInt8), behind b l ≤ l.length
  | _, [] => by simp [behind]
  | true, c :: l => by unfold behind; have := behind_le (decide (c.toNat ≠ 10)) l; simp at this ⊢; omega
  | false, c :: l => by
    unfold behind
    have h1 := behind_le true l
    have h2 := behind_le false l
    split
    · simp; omega
    split <;> (simp; try omega)

/-- The tokens behind a place, or the fault and where it stands. -/
def toksF : Nat → Nat × Nat → List UInt8 → Except (Nat × (Nat × Nat)) (List (Tk × (Nat × Nat)))
  | 0, _, _ => .ok []
  | f + 1, p, l =>
    if behind false l = l.length then .ok []
    else match one (l.drop (behind false l)) with
      | .error e => .error (e, further p (l.take (behind false l)))
      | .ok (t, n) => match toksF f (further p (l.take (behind false l + n))) (l.drop (behind false l + n)) with
        | .error e => .error e
        | .ok r => .ok ((t, further p (l.take (behind false l))) :: r)
theorem toksF_more : ∀ (f g : Nat) (p : Nat × Nat) (l : List UInt8), l.length < f → l.length < g → toksF f p l = toksF g p l
  | 0, _, _, _, h, _ => by omega
  | _, 0, _, _, _, h => by omega
  | f + 1, g + 1, p, l, hf, hg => by
    unfold toksF
    split
    · rfl
    · split
      · rfl
      · rename_i t n h1
        have hb := one_bounds h1
        have hl := behind_le false l
        have : (l.drop (behind false l + n)).length < f ∧ (l.drop (behind false l + n)).length < g := by
          simp at hb ⊢; omega
        rw [toksF_more f g _ _ this.1 this.2]
def toksAt (p : Nat × Nat) (l : List UInt8) := toksF (l.length + 1) p l
theorem toksAt_eq (p : Nat × Nat) (l : List UInt8) : toksAt p l =
    if behind false l = l.length then .ok []
    else match one (l.drop (behind false l)) with
      | .error e => .error (e, further p (l.take (behind false l)))
      | .ok (t, n) => match toksAt (further p (l.take (behind false l + n))) (l.drop (behind false l + n)) with
        | .error e => .error e
        | .ok r => .ok ((t, further p (l.take (behind false l))) :: r) := by
  unfold toksAt
  rw [toksF]
  split
  · rfl
  · split
    · rfl
    · rename_i t n h1
      have hb := one_bounds h1
      have hl := behind_le false l
      rw [toksF_more l.length ((l.drop (behind false l + n)).length + 1) _ _ (by simp at hb ⊢; omega) (by omega)]
/-- All tokens of a source. -/
def toks (l : List UInt8) : Except (Nat × (Nat × Nat)) (List (Tk × (Nat × Nat))) := if 65536 < l.length then .error (10, (0, 0)) else toksAt (1, 1) l

/-- A text's token written. -/
def esc (c : UInt8) : Option (List UInt8) := if c.toNat = 10 then some [92, 110] else if c.toNat < 32 ∨ 126 < c.toNat then none else if c.toNat = 34 ∨ c.toNat = 92 then some [92, c] else some [c]
def escs : List UInt8 → Option (List UInt8)
  | [] => some []
  | c :: l => match esc c, escs l with | some a, some b => some (a ++ b) | _, _ => none
def quote (s : List UInt8) : Option (List UInt8) := if 64 < s.length then none else (escs s).map (fun m => 34 :: m ++ [34])
end Culp.Tx

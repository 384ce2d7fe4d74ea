
/- Plain: core terms, checked: what package core answers, and the document's answer. -/
import Derived.Test.YtdobaililmkkcaaGreatDoorRel
namespace Culp
set_option linter.unusedSimpArgs false
set_option linter.unusedVariables false
open Go

/-- A node. -/
structure Nd where
  kind : Int
  kids : Int
  n : Int
  s : ByteArray
  t : ByteArray
  u : ByteArray
  line : Int
  col : Int

/-- How many kids a kind has: none: it is no kind; -1: any number. -/
def arM (k : Int) : Option Int :=
  if k = 1 ∨ k = 2 ∨ k = 3 ∨ k = 4 then some 0
  else if k = 5 ∨ k = 6 ∨ k = 16 ∨ k = 17 ∨ k = 19 ∨ k = 20 ∨ k = 22 ∨ k = 23 ∨ k = 24 ∨ k = 26 ∨ k = 27 ∨ k = 30 then some 1
  else if k = 7 ∨ k = 8 ∨ k = 10 ∨ k = 11 ∨ k = 12 ∨ k = 13 ∨ k = 14 ∨ k = 15 ∨ k = 18 ∨ k = 25 ∨ k = 28 then some 2
  else if k = 9 then some 3
  else if k = 21 then some (-1)
  else none

/-- A fault: which, and at which node. -/
abbrev Flt := Int × Nat

/-- Does a node's number of kids fit its kind? -/
def kidsOk (x : Nd) : Bool := match arM x.kind with
  | none => false
  | some k => decide (0 ≤ x.kids) && (decide (k = -1) || decide (k = x.kids))

/-- So many times. -/
def timesM (g : Nat → Except Flt Nat) : Nat → Nat → Except Flt Nat
  | 0, p => .ok p
  | n + 1, p => match g p with | .error e => .error e | .ok q => timesM g n q

/-- One node and its kids; the fuel is how deep it may still be. -/
def shapeM (T : List Nd) : Nat → Nat → Except Flt Nat
  | f, p => match T[p]? with
    | none => .error (18, p)
    | some x => if kidsOk x then (match f with
        | 0 => .error (16, p)
        | f + 1 => timesM (shapeM T f) x.kids.toNat (p + 1)) else .error (18, p)

theorem timesM_le {g : Nat → Except Flt Nat} {m : Nat} (hg : ∀ p q, p ≤ m → g p = .ok q → q ≤ m) : ∀ (n p q : Nat), p ≤ m → timesM g n p = .ok q → q ≤ m := by
  intro n
  induction n with
  | zero => intro p q hp h; simp [timesM] at h; omega
  | succ n ih =>
    intro p q hp h
    simp only [timesM] at h
    split at h
    · cases h
    · rename_i q' hq; exact ih _ _ (hg _ _ hp hq) h
theorem shapeM_le (T : List Nd) : ∀ (f p q : Nat), shapeM T f p = .ok q → q ≤ T.length := by
  intro f
  induction f with
  | zero =>
    intro p q h
    rw [shapeM] at h
    split at h
    · cases h
    · split at h <;> cases h
  | succ f ih =>
    intro p q h
    rw [shapeM] at h
    split at h
    · cases h
    · rename_i x hx
      have hp : p < T.length := (List.getElem?_eq_some_iff.1 hx).1
      split at h
      · exact timesM_le (m := T.length) (fun a b _ hab => ih a b hab) _ _ _ (by omega) h
      · cases h

theorem timesM_ge {g : Nat → Except Flt Nat} (hg : ∀ p q, g p = .ok q → p < q) : ∀ (n p q : Nat), timesM g n p = .ok q → p ≤ q := by
  intro n
  induction n with
  | zero => intro p q h; simp [timesM] at h; omega
  | succ n ih =>
    intro p q h
    simp only [timesM] at h
    split at h
    · cases h
    · rename_i q' hq; have := hg _ _ hq; have := ih _ _ h; omega
theorem shapeM_lt (T : List Nd) : ∀ (f p q : Nat), shapeM T f p = .ok q → p < q := by
  intro f
  induction f with
  | zero =>
    intro p q h
    rw [shapeM] at h
    split at h
    · cases h
    · split at h <;> cases h
  | succ f ih =>
    intro p q h
    rw [shapeM] at h
    split at h
    · cases h
    · split at h
      · have := timesM_ge (fun a b hab => ih a b hab) _ _ _ h; omega
      · cases h

/-- Is a text a type, and which? -/
def tyOf (s : ByteArray) : Option Ty := if isTy s.data.toList then (tyRead s.data.toList) else none
where
  /-- The type that a text is. -/
  tyRead (l : List UInt8) : Option Ty := (rd l.length l).map (·.1)
  rd : Nat → List UInt8 → Option (Ty × List UInt8)
    | 0, _ => none
    | _ + 1, [] => none
    | f + 1, c :: l =>
      if c = 105 then some (.int, l) else if c = 98 then some (.bool, l) else if c = 116 then some (.text, l) else if c = 63 then some (.dyn, l)
      else if c = 108 then (rd f l).map fun x => (.list x.1, x.2)
      else if c = 120 then (rd f l).map fun x => (.box x.1, x.2)
      else if c = 62 then (rd f l).bind fun x => (rd f x.2).map fun y => (.fn x.1 y.1, y.2)
      else if c = 44 then (rd f l).bind fun x => (rd f x.2).map fun y => (.pair x.1 y.1, y.2)
      else none
theorem rd_enc (t : Ty) : ∀ (f : Nat) (r : List UInt8), t.enc.length ≤ f → tyOf.rd f (t.enc ++ r) = some (t, r) := by
  induction t with
  | int | bool | text | dyn =>
    intro f r h
    obtain ⟨f, rfl⟩ : ∃ k, f = k + 1 := ⟨f - 1, by simp [Ty.enc] at h; omega⟩
    simp [Ty.enc, tyOf.rd]
  | fn a b iha ihb | pair a b iha ihb =>
    intro f r h
    obtain ⟨f, rfl⟩ : ∃ k, f = k + 1 := ⟨f - 1, by simp [Ty.enc] at h; omega⟩
    simp [Ty.enc] at h
    simp [Ty.enc, tyOf.rd, iha f (b.enc ++ r) (by omega), ihb f r (by omega)]
  | list a iha | box a iha =>
    intro f r h
    obtain ⟨f, rfl⟩ : ∃ k, f = k + 1 := ⟨f - 1, by simp [Ty.enc] at h; omega⟩
    simp [Ty.enc] at h
    simp [Ty.enc, tyOf.rd, iha f r (by omega)]
theorem tyOf_str (t : Ty) (h : t.enc.length ≤ 64) : tyOf t.str = some t := by
  unfold tyOf
  rw [str_list, isTy_enc t h, if_pos rfl]
  unfold tyOf.tyRead
  have := rd_enc t t.enc.length [] (Nat.le_refl _)
  simp at this
  rw [this]; rfl

/-- What is asked of a node ahead of its kids: the fault's number, if one. -/
def wordsM (x : Nd) (binders : Nat) : Option Int :=
  if x.kind = 2 then (if x.s.size ≤ 64 then none else some 10)
  else if x.kind = 3 then (if x.n = 0 ∨ x.n = 1 then none else some 13)
  else if x.kind = 4 then (if 0 ≤ x.n ∧ x.n < (binders : Int) then none else some 22)
  else if x.kind = 21 then (match tyOf x.t with | some _ => none | none => some 20)
  else if x.kind = 5 ∨ x.kind = 6 then (match tyOf x.t, tyOf x.u with | some _, some _ => none | _, _ => some 20)
  else if x.kind = 30 then (match tyOf x.t, tyOf x.u with
    | some a, some b => if cons a b then (if 1 ≤ x.n ∧ x.n ≤ 2147483647 then none else some 13) else some 23
    | _, _ => some 20)
  else none

/-- A type that is made, if it is not too long. -/
def madeM (t : Ty) : Except Int Ty := if t.enc.length ≤ 64 then .ok t else .error 21
/-- Must be. -/
def needM (b : Bool) (e : Int) (t : Ty) : Except Int Ty := if b then .ok t else .error e

/-- The type of a node by those of its kids. -/
def ruleM (x : Nd) (ks : List Ty) : Except Int Ty :=
  if x.kind = 1 then .ok .int
  else if x.kind = 2 then .ok .text
  else if x.kind = 3 then .ok .bool
  else if x.kind = 30 then (match ks, tyOf x.t, tyOf x.u with | [a], some s, some t => needM (a == s) 23 t | _, _, _ => .error 0)
  else if x.kind = 7 then (match ks with | [.fn a b, c] => needM (a == c) 23 b | _ => .error 23)
  else if x.kind = 9 then (match ks with | [a, b, c] => needM (a == .bool && b == c) 23 b | _ => .error 23)
  else if x.kind = 10 ∨ x.kind = 11 ∨ x.kind = 12 ∨ x.kind = 16 then needM (ks.all (· == .int)) 23 .int
  else if x.kind = 14 ∨ x.kind = 15 then needM (ks.all (· == .int)) 23 .bool
  else if x.kind = 13 then needM (ks.all (· == .text)) 23 .text
  else if x.kind = 17 then needM (ks.all (· == .text)) 23 .int
  else if x.kind = 18 then (match ks with | [a, b] => madeM (.pair a b) | _ => .error 0)
  else if x.kind = 19 then (match ks with | [.pair a _] => .ok a | _ => .error 23)
  else if x.kind = 20 then (match ks with | [.pair _ b] => .ok b | _ => .error 23)
  else if x.kind = 21 then (match tyOf x.t with | some s => if ks.all (· == s) then madeM (.list s) else .error 23 | none => .error 0)
  else if x.kind = 22 then (match ks with | [.list a] => .ok a | _ => .error 23)
  else if x.kind = 23 then (match ks with | [.list a] => .ok (.list a) | _ => .error 23)
  else if x.kind = 24 then (match ks with | [.list _] => .ok .bool | _ => .error 23)
  else if x.kind = 25 then (match ks with | [a, b] => needM (b == .list a) 23 b | _ => .error 0)
  else if x.kind = 26 then (match ks with | [a] => madeM (.box a) | _ => .error 0)
  else if x.kind = 27 then (match ks with | [.box a] => .ok a | _ => .error 23)
  else if x.kind = 28 then (match ks with | [a, b] => needM (a == .box b) 23 b | _ => .error 0)
  else .error 0

/-- So many kids' types. -/
def kidsM (g : Nat → Except Flt (Ty × Nat)) : Nat → Nat → Except Flt (List Ty × Nat)
  | 0, p => .ok ([], p)
  | n + 1, p => match g p with
    | .error e => .error e
    | .ok (t, q) => match kidsM g n q with
      | .error e => .error e
      | .ok (ts, r) => .ok (t :: ts, r)

/-- A fault of a node. -/
def atM {α : Type} (p : Nat) : Except Int α → Except Flt α
  | .ok a => .ok a
  | .error e => .error (e, p)

/-- The body of a function, under its binders: its type must be the one that was told. -/
def bodyM (p : Nat) (f u : Ty) : Except Flt (Ty × Nat) → Except Flt (Ty × Nat)
  | .error e => .error e
  | .ok (a, q) => if a = u then .ok (f, q) else .error (23, p)

/-- The type of the node at a place, under binders; the fuel is how deep it may still be. -/
def typedM (T : List Nd) : Nat → List Ty → Nat → Except Flt (Ty × Nat)
  | 0, _, p => .error (0, p)
  | f + 1, env, p => match T[p]? with
    | none => .error (0, p)
    | some x => match wordsM x env.length with
      | some e => .error (e, p)
      | none =>
        if x.kind = 4 then (match env[x.n.toNat]? with | some t => .ok (t, p + 1) | none => .error (0, p))
        else if x.kind = 5 then (match tyOf x.t, tyOf x.u with
          | some a, some u => (match atM p (madeM (.fn a u)) with | .error e => .error e | .ok g => bodyM p g u (typedM T f (a :: env) (p + 1)))
          | _, _ => .error (0, p))
        else if x.kind = 6 then (match tyOf x.t, tyOf x.u with
          | some a, some u => (match atM p (madeM (.fn a u)) with | .error e => .error e | .ok g => bodyM p g u (typedM T f (a :: g :: env) (p + 1)))
          | _, _ => .error (0, p))
        else if x.kind = 8 then (match typedM T f env (p + 1) with
          | .error e => .error e
          | .ok (a, q) => typedM T f (a :: env) q)
        else match kidsM (typedM T f env) x.kids.toNat (p + 1) with
          | .error e => .error e
          | .ok (ks, q) => (match ruleM x ks with | .error e => .error (e, p) | .ok t => .ok (t, q))

/-- P10.1: the type, or the fault and its place. -/
def checkM (T : List Nd) : Except Flt Ty :=
  if 16384 < T.length then .error (17, 0)
  else match shapeM T 1024 0 with
    | .error e => .error e
    | .ok q => if q = T.length then (match typedM T 1024 [] 0 with | .error e => .error e | .ok (t, _) => .ok t) else .error (18, q)
end Culp


/- Plain: the types of a tree's nodes, or the first refusal. -/
import Derived.Test.YtacihffkjadbbaaGreatDoorFq
import Derived.Test.YtacihffkjadbbaaGreatDoorR4W
namespace Culp
set_option linter.unusedSimpArgs false
set_option linter.unusedVariables false
/-- The most general type that is at least as precise as two consistent ones. -/
def meet : Ty → Ty → Ty
  | .dyn, t => t
  | s, .dyn => s
  | .fn a b, .fn c d => .fn (meet a c) (meet b d)
  | .pair a b, .pair c d => .pair (meet a c) (meet b d)
  | .list a, .list c => .list (meet a c)
  | .box a, .box c => .box (meet a c)
  | s, _ => s
theorem cons_comm : ∀ s t : Ty, cons s t = cons t s := by
  intro s
  induction s with
  | dyn => intro t; simp
  | int => intro t; cases t <;> rfl
  | bool => intro t; cases t <;> rfl
  | text => intro t; cases t <;> rfl
  | fn a b ha hb => intro t; cases t <;> simp [cons, ha, hb]
  | pair a b ha hb => intro t; cases t <;> simp [cons, ha, hb]
  | list a ha => intro t; cases t <;> simp [cons, ha]
  | box a ha => intro t; cases t <;> simp [cons, ha]
@[simp] theorem meet_dyn (s : Ty) : meet s .dyn = s := by cases s <;> rfl
@[simp] theorem dyn_meet (s : Ty) : meet .dyn s = s := rfl
end Culp
namespace Culp.Tr
set_option linter.unusedSimpArgs false
set_option linter.unusedVariables false
/-- Names with their types, the innermost first. -/
abbrev Env := List (ByteArray × Ty)
abbrev Bad := Int × Nat
/-- An annotation, read. -/
def noteT (s : ByteArray) : Ty := if s.size = 0 then .dyn else (tyOf s).getD .dyn
/-- The parts of a type of a head; of the unknown one as many unknown ones. -/
def matchT (t : Ty) (h : UInt8) : Option (List Ty) :=
  if t = .dyn then (if h = 62 ∨ h = 44 then some [.dyn, .dyn] else some [.dyn])
  else if t.hd = h then some t.kids else none
def partT (p : Nat) (t : Ty) (h : UInt8) (k : Nat) : Except Bad Ty := match matchT t h with
  | none => .error (24, p)
  | some l => .ok (l.getD k .dyn)
/-- Two types that must be consistent; the same, if it is asked for. -/
def fitT (same : Bool) (s t : Ty) (e : Int) (p : Nat) : Except Bad Unit := if (!same || decide (s = t)) && cons s t then .ok () else .error (e, p)
def eachT (same : Bool) (t : Ty) : List (Nat × Ty) → Except Bad Unit
  | [] => .ok ()
  | (p, s) :: l => match fitT same s t 23 p with
    | .error b => .error b
    | .ok _ => eachT same t l
/-- The meet of some types with one that stands first. -/
def meetsT (same : Bool) (at_ : Nat) : Ty → List (Nat × Ty) → Except Bad Ty
  | m, [] => .ok m
  | m, (p, s) :: l => match fitT same m s 25 p with
    | .error b => .error b
    | .ok _ => if (meet m s).enc.length ≤ 64 then meetsT same at_ (meet m s) l else .error (21, at_)
def lookT : Env → ByteArray → Option Ty
  | [], _ => none
  | (n, t) :: l, s => if n = s then some t else lookT l s
/-- What a node's kid number k finds bound. -/
def innerT (x : Nd) (k : Nat) (env : Env) : Env :=
  if x.kind = 5 then (x.s, noteT x.t) :: env
  else if x.kind = 6 then (match two x.s.data.toList with | some (a, b) => (⟨b.toArray⟩, noteT x.t) :: (⟨a.toArray⟩, .fn (noteT x.t) (noteT x.u)) :: env | none => env)
  else if x.kind = 8 ∧ k = 1 then (x.s, noteT x.t) :: env
  else env
/-- A node's type out of its kids'. -/
def nodeT (same : Bool) (x : Nd) (env : Env) (p : Nat) (K : List (Nat × Ty)) : Except Bad Ty :=
  if x.kind = 1 then .ok .int
  else if x.kind = 2 then .ok .text
  else if x.kind = 3 then .ok .bool
  else if x.kind = 4 then (match lookT env x.s with | some t => .ok t | none => .error (22, p))
  else if x.kind = 10 ∨ x.kind = 11 ∨ x.kind = 12 ∨ x.kind = 16 then (eachT same .int K).map fun _ => .int
  else if x.kind = 14 ∨ x.kind = 15 then (eachT same .int K).map fun _ => .bool
  else if x.kind = 13 then (eachT same .text K).map fun _ => .text
  else if x.kind = 17 then (eachT same .text K).map fun _ => .int
  else match K with
    | [] => .ok (.list .dyn)
    | (p0, t0) :: K' =>
      if x.kind = 5 ∨ x.kind = 6 then (fitT same t0 (noteT x.u) 23 p0).map fun _ => .fn (noteT x.t) (noteT x.u)
      else if x.kind = 19 then partT p0 t0 44 0
      else if x.kind = 20 then partT p0 t0 44 1
      else if x.kind = 29 then (fitT same t0 (noteT x.t) 23 p).map fun _ => noteT x.t
      else if x.kind = 26 then .ok (.box t0)
      else if x.kind = 27 then partT p0 t0 120 0
      else if x.kind = 22 then partT p0 t0 108 0
      else if x.kind = 23 then (partT p0 t0 108 0).map .list
      else if x.kind = 24 then (partT p0 t0 108 0).map fun _ => .bool
      else if x.kind = 21 then (meetsT same p t0 K').map .list
      else match K' with
        | [] => .ok .dyn
        | (p1, t1) :: K'' =>
          if x.kind = 8 then (fitT same t0 (noteT x.t) 23 p0).map fun _ => t1
          else if x.kind = 7 then (match matchT t0 62 with
            | none => .error (24, p0)
            | some l => (fitT same t1 (l.getD 0 .dyn) 23 p1).map fun _ => l.getD 1 .dyn)
          else if x.kind = 9 then (match fitT same t0 .bool 23 p0 with
            | .error b => .error b
            | .ok _ => meetsT same p t1 K'')
          else if x.kind = 18 then .ok (.pair t0 t1)
          else if x.kind = 25 then (match matchT t1 108 with
            | none => .error (24, p1)
            | some l => (fitT same t0 (l.getD 0 .dyn) 23 p0).map fun _ => .list (l.getD 0 .dyn))
          else (match matchT t0 120 with
            | none => .error (24, p0)
            | some l => (fitT same t1 (l.getD 0 .dyn) 23 p1).map fun _ => l.getD 0 .dyn)
/-- A type that must not be too large. -/
def sizeT (p : Nat) (t : Ty) : Except Bad Ty := if t.enc.length ≤ 64 then .ok t else .error (21, p)
/-- The parts of a forest, each with its place and its nodes' types: its own first. -/
def chk (same : Bool) : F → (Nat → Env) → Nat → Nat → Except Bad (List (Nat × List Ty))
  | .nil, _, _, _ => .ok []
  | .cons x ks r, env, k, p =>
    match (if x.kind = 5 ∨ x.kind = 6 then (sizeT p (.fn (noteT x.t) (noteT x.u))).map fun _ => () else .ok ()) with
    | .error b => .error b
    | .ok _ => match chk same ks (fun j => innerT x j (env k)) 0 (p + 1) with
      | .error b => .error b
      | .ok K => match nodeT same x (env k) p (K.map fun a => (a.1, a.2.headD .dyn)) with
        | .error b => .error b
        | .ok t => match sizeT p t with
          | .error b => .error b
          | .ok t => match chk same r env (k + 1) (p + 1 + ks.flat.length) with
            | .error b => .error b
            | .ok R => .ok ((p, t :: (K.map Prod.snd).flatten) :: R)
/-- One part by itself. -/
def chk1 (same : Bool) (x : Nd) (ks : F) (env : Env) (p : Nat) : Except Bad (List Ty) := match chk same (.cons x ks .nil) (fun _ => env) 0 p with
  | .error b => .error b
  | .ok K => .ok (K.map Prod.snd).flatten
end Culp.Tr

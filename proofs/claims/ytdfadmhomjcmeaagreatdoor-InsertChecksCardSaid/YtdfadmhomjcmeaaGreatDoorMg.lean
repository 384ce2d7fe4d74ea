
/- Walks of the document's chapter 8: types: their parts, consistent, the meet, heads, annotations. -/
import Derived.Test.YtdfadmhomjcmeaaGreatDoorKj
import Derived.Test.YtdfadmhomjcmeaaGreatDoorTrW
import Derived.Test.YtdfadmhomjcmeaaGreatDoorKk
import Derived.Test.YtdfadmhomjcmeaaGreatDoorKp
import Derived.Test.YtdfadmhomjcmeaaGreatDoorKr
import Derived.Test.YtdfadmhomjcmeaaGreatDoorKu
import Derived.Laws.CopyRow
import Derived.OwnWalk
namespace Go.Proofs.YtdfadmhomjcmeaaGreatDoor
set_option linter.unusedSimpArgs false
set_option linter.unusedVariables false
open Go.RowKit Culp

end Go.Proofs.YtdfadmhomjcmeaaGreatDoor

/- Walks of the document's checker: its state; refusals; types that must fit; heads. -/
namespace Culp.Tr
set_option linter.unusedSimpArgs false
set_option linter.unusedVariables false
/-- Two types must fit, after what came before. -/
def fitG {α : Type} (same : Bool) (R : Except Bad α) (s t : Ty) (n : Int) (p : Nat) : Except Bad α := match R with
  | .error b => .error b
  | .ok x => (fitT same s t n p).map fun _ => x
def tyQ : Except Bad Ty → Ty | .ok t => t | .error _ => .dyn
theorem fitG_ok {α : Type} {same : Bool} {R : Except Bad α} {s t : Ty} {n : Int} {p : Nat} {v : α} (h : fitG same R s t n p = .ok v) : R = .ok v := by
  cases R with
  | error b => cases h
  | ok x =>
    unfold fitG at h
    dsimp only at h
    cases hf : fitT same s t n p with
    | error b => rw [hf] at h; cases h
    | ok u => rw [hf] at h; exact h
end Culp.Tr
namespace Go.Proofs.YtdfadmhomjcmeaaGreatDoor
set_option linter.unusedSimpArgs false
set_option linter.unusedVariables false
open Go.RowKit Culp
/-- The document's checker in its block. -/
structure RkAt (c B : Nat) (sm : Bool) (tv yv : Value) (ys : List ByteArray) (e : Int) (a : Nat) (w : World) : Prop where
  box : w.heap[c]? = some (.cells #[tv, yv, .int .i64 e, .int .i64 (a : Int), .bool sm] 197 (0, 0))
  own : w.ownsRow B 9 1 yv ys.length (ys.map Value.string)
section
variable {c B a a' : Nat} {sm : Bool} {tv yv : Value} {ys : List ByteArray} {e e' : Int} {w w' : World}
theorem RkAt.lt (h : RkAt c B sm tv yv ys e a w) : c < w.heap.size := (Array.getElem?_eq_some_iff.1 h.box).1
theorem RkAt.c0 (h : RkAt c B sm tv yv ys e a w) : w.cell? ⟨c, 0, none⟩ = some tv := by simp [World.cell?, h.box]
theorem RkAt.c1 (h : RkAt c B sm tv yv ys e a w) : w.cell? ⟨c, 1, none⟩ = some yv := by simp [World.cell?, h.box]
theorem RkAt.c2 (h : RkAt c B sm tv yv ys e a w) : w.cell? ⟨c, 2, none⟩ = some (.int .i64 e) := by simp [World.cell?, h.box]
theorem RkAt.c3 (h : RkAt c B sm tv yv ys e a w) : w.cell? ⟨c, 3, none⟩ = some (.int .i64 (a : Int)) := by simp [World.cell?, h.box]
theorem RkAt.c4 (h : RkAt c B sm tv yv ys e a w) : w.cell? ⟨c, 4, none⟩ = some (.bool sm) := by simp [World.cell?, h.box]
theorem RkAt.free (h : RkAt c B sm tv yv ys e a w) (i : Nat) (hi : i < 4) : w.frozen? ⟨c, i, none⟩ = false := by
  match i, hi with
  | 0, _ => simp [World.frozen?, h.box]
  | 1, _ => simp [World.frozen?, h.box]
  | 2, _ => simp [World.frozen?, h.box]
  | 3, _ => simp [World.frozen?, h.box]
theorem RkAt.later (h : RkAt c B sm tv yv ys e a w) (hb : Below w.heap.size w w') : RkAt c B sm tv yv ys e a w' := ⟨(hb.block c h.lt).trans h.box, own_later h.own hb⟩
theorem RkAt.ne (h : RkAt c B sm tv yv ys e a w) : yv.ownBlock ≠ some c := own_ne h.own fun cur hc => by
  have := h.box
  rw [hc] at this
  simp only [Option.some.injEq, Obj.cells.injEq] at this
  exact absurd this.2.1 (by decide)
theorem RkAt.put (h : RkAt c B sm tv yv ys e a w) : RkAt c B sm tv yv ys e' a' ((w.setCell ⟨c, 2, none⟩ (.int .i64 e')).setCell ⟨c, 3, none⟩ (.int .i64 (a' : Int))) := by
  have hb := h.box
  refine ⟨by simp [World.setCell, Array.getElem?_modify, hb], own_apart_keep h.own (((Keep.refl c w).setCell 2 _).setCell 3 _) h.ne⟩
theorem RkAt.read (h : RkAt c B sm tv yv ys e a w) {k : Nat} {s : ByteArray} (hk : ys[k]? = some s) :
    ∃ g C, yv = .slice (some ⟨g, 0, none⟩) ys.length C ∧ w.cell? ⟨g, k, none⟩ = some (.string s) ∧ k < ys.length ∧ w.frozen? ⟨g, k, none⟩ = false := by
  have hlt : k < ys.length := (List.getElem?_eq_some_iff.1 hk).1
  obtain ⟨A, C, rfl⟩ := own_shape h.own
  obtain ⟨g, _, e1, _, _, _, _, _⟩ := own_read h.own (by omega)
  simp only [Value.slice.injEq] at e1
  obtain ⟨rfl, _, rfl⟩ := e1
  have h2 := own_get h.own (i := k) (v := .string s) (by rw [List.getElem?_map, hk]; rfl)
  exact ⟨g, _, rfl, h2.1, hlt, h2.2⟩
end
/-- A call of the checker that writes no type. -/
def RkRes (v : Value) (c B : Nat) (sm : Bool) (tv yv : Value) (ys : List ByteArray) (e : Int) (a : Nat) (w : World) (E : Ending) (w' : World) : Prop := E = .returned v ∧ RkAt c B sm tv yv ys e a w' ∧ Keep c w w'
section
variable (c B : Nat) (sm : Bool) (tv yv : Value) (ys : List ByteArray) (a : Nat) (w : World)
end
end Go.Proofs.YtdfadmhomjcmeaaGreatDoor

/- Walks of the document's checker: heads of kids; what each kid must be; the meet of kids. -/
namespace Culp.Tr
set_option linter.unusedSimpArgs false
set_option linter.unusedVariables false
end Culp.Tr
namespace Go.Proofs.YtdfadmhomjcmeaaGreatDoor
set_option linter.unusedSimpArgs false
set_option linter.unusedVariables false
open Go.RowKit Culp
theorem RkAt.cell {c B a : Nat} {sm : Bool} {tv : Value} {ys : List ByteArray} {e : Int} {w : World} {g n C : Nat} (h : RkAt c B sm tv (.slice (some ⟨g, 0, none⟩) n C) ys e a w) {k : Nat} {s : ByteArray} (hk : ys[k]? = some s) : w.cell? ⟨g, k, none⟩ = some (.string s) := by
  obtain ⟨g', C', e1, h2, _, _⟩ := h.read hk
  simp only [Value.slice.injEq, Option.some.injEq, Addr.mk.injEq] at e1
  obtain ⟨⟨rfl, _, _⟩, _, rfl⟩ := e1
  exact h2
section
variable (c B : Nat) (sm : Bool) (tv yv : Value) (ys : List ByteArray) (a : Nat) (w : World)
end
end Go.Proofs.YtdfadmhomjcmeaaGreatDoor

/- Walks of the document's checker: the meet of kids; the table's rows of pairs, lists, boxes and As. -/
namespace Culp.Tr
set_option linter.unusedSimpArgs false
set_option linter.unusedVariables false
end Culp.Tr
namespace Go.Proofs.YtdfadmhomjcmeaaGreatDoor
set_option linter.unusedSimpArgs false
set_option linter.unusedVariables false
open Go.RowKit Culp
/-- What a rule answers. -/
def RkRule (c B : Nat) (sm : Bool) (tv yv : Value) (ys : List ByteArray) (a : Nat) (r : Except Tr.Bad Ty) (w : World) (E : Ending) (w' : World) : Prop := ∃ X : ByteArray, RkRes (.string X) c B sm tv yv ys (Tr.stE r) (Tr.stA a r) w E w' ∧ Tr.Good r ∧ ∀ t, r = .ok t → X = t.str
theorem RkRule.mk {c B a : Nat} {sm : Bool} {tv yv : Value} {ys : List ByteArray} {r : Except Tr.Bad Ty} {X : ByteArray} {w w' : World} (hG : Tr.Good r) (hX : ∀ t, r = .ok t → X = t.str) (hK : Keep c w w') (h : RkAt c B sm tv yv ys (Tr.stE r) (Tr.stA a r) w') : RkRule c B sm tv yv ys a r w (.returned (.string X)) w' := ⟨X, ⟨rfl, h, hK⟩, hG, hX⟩
theorem RkRule.after {c B a : Nat} {sm : Bool} {tv yv : Value} {ys : List ByteArray} {r : Except Tr.Bad Ty} {w w1 w' : World} {E : Ending} (k : Keep c w w1) (h : RkRule c B sm tv yv ys a r w1 E w') : RkRule c B sm tv yv ys a r w E w' := by
  obtain ⟨X, h1, h2⟩ := h
  exact ⟨X, ⟨h1.1, h1.2.1, k.trans h1.2.2⟩, h2⟩
section
variable (c B : Nat) (sm : Bool) (tv yv : Value) (ys : List ByteArray) (a : Nat) (w : World)
end
section
variable (c B : Nat) (sm : Bool) (tv yv : Value) (ys : List ByteArray) (a : Nat) (w : World)
variable (p : Nat) (x : Nd) (p0 p1 p2 : Nat) (t0 t1 t2 : Ty) (K : List (Nat × Ty)) (kv : Value)
end
end Go.Proofs.YtdfadmhomjcmeaaGreatDoor

/- Walks of the document's checker: the table's rows that ask what must fit; the table. -/
namespace Culp.Tr
set_option linter.unusedSimpArgs false
set_option linter.unusedVariables false
def ifG (same : Bool) (p p0 : Nat) (t0 t1 : Ty) (K : List (Nat × Ty)) : Except Bad Ty := match fitT same t0 .bool 23 p0 with
  | .error b => .error b
  | .ok _ => meetsT same p t1 K
def callG (same : Bool) (p0 : Nat) (t0 : Ty) (p1 : Nat) (t1 : Ty) : Except Bad Ty := fitG same (thenPart (partT p0 t0 62 0) p0 t0 62 1) t1 (tyQ (partT p0 t0 62 0)) 23 p1
end Culp.Tr
namespace Go.Proofs.YtdfadmhomjcmeaaGreatDoor
set_option linter.unusedSimpArgs false
set_option linter.unusedVariables false
open Go.RowKit Culp
section
variable (c B : Nat) (sm : Bool) (tv yv : Value) (ys : List ByteArray) (a : Nat) (w : World)
variable (p : Nat) (x : Nd) (p0 p1 p2 : Nat) (t0 t1 t2 : Ty) (K : List (Nat × Ty)) (kv : Value)
variable (iv : Value)
end
end Go.Proofs.YtdfadmhomjcmeaaGreatDoor

/- Walks of the document's checker: environments; the table, whole. -/
namespace Culp.Tr
set_option linter.unusedSimpArgs false
set_option linter.unusedVariables false
section
variable {same : Bool} {x : Nd} {env : Env} {p p0 p1 p2 : Nat} {t0 t1 t2 : Ty} {K : List (Nat × Ty)}
theorem nodeG_19 (h : x.kind = 19) : nodeT same x env p ((p0, t0) :: K) = partT p0 t0 44 0 := by simp [nodeT, h]
theorem nodeG_20 (h : x.kind = 20) : nodeT same x env p ((p0, t0) :: K) = partT p0 t0 44 1 := by simp [nodeT, h]
theorem nodeG_26 (h : x.kind = 26) : nodeT same x env p ((p0, t0) :: K) = .ok (.box t0) := by simp [nodeT, h]
theorem nodeG_27 (h : x.kind = 27) : nodeT same x env p ((p0, t0) :: K) = partT p0 t0 120 0 := by simp [nodeT, h]
theorem nodeG_22 (h : x.kind = 22) : nodeT same x env p ((p0, t0) :: K) = partT p0 t0 108 0 := by simp [nodeT, h]
theorem nodeG_23 (h : x.kind = 23) : nodeT same x env p ((p0, t0) :: K) = (partT p0 t0 108 0).map .list := by simp [nodeT, h]
theorem nodeG_24 (h : x.kind = 24) : nodeT same x env p ((p0, t0) :: K) = (partT p0 t0 108 0).map fun _ => .bool := by simp [nodeT, h]
theorem nodeG_21 (h : x.kind = 21) : nodeT same x env p ((p0, t0) :: K) = (meetsT same p t0 K).map .list := by simp [nodeT, h]
theorem nodeG_18 (h : x.kind = 18) : nodeT same x env p ([(p0, t0), (p1, t1)]) = .ok (.pair t0 t1) := by simp [nodeT, h]
theorem nodeG_21e (h : x.kind = 21) : nodeT same x env p [] = .ok (.list .dyn) := by simp [nodeT, h]
theorem nodeG_29 (h : x.kind = 29) : nodeT same x env p ((p0, t0) :: K) = fitG same (.ok (noteT x.t)) t0 (noteT x.t) 23 p := by simp [nodeT, h, fitG]
theorem nodeG_5 (h : x.kind = 5) : nodeT same x env p ((p0, t0) :: K) = fitG same (.ok (.fn (noteT x.t) (noteT x.u))) t0 (noteT x.u) 23 p0 := by simp [nodeT, h, fitG]
theorem nodeG_6 (h : x.kind = 6) : nodeT same x env p ((p0, t0) :: K) = fitG same (.ok (.fn (noteT x.t) (noteT x.u))) t0 (noteT x.u) 23 p0 := by simp [nodeT, h, fitG]
theorem nodeG_8 (h : x.kind = 8) : nodeT same x env p [(p0, t0), (p1, t1)] = fitG same (.ok t1) t0 (noteT x.t) 23 p0 := by simp [nodeT, h, fitG]
theorem nodeG_28 (h : x.kind = 28) : nodeT same x env p [(p0, t0), (p1, t1)] = fitG same (partT p0 t0 120 0) t1 (tyQ (partT p0 t0 120 0)) 23 p1 := by
  simp only [nodeT, h]
  simp
  unfold fitG partT
  cases matchT t0 120 <;> simp [tyQ]
theorem nodeG_7 (h : x.kind = 7) : nodeT same x env p [(p0, t0), (p1, t1)] = callG same p0 t0 p1 t1 := by
  simp only [nodeT, h]
  simp
  unfold callG fitG thenPart partT
  cases matchT t0 62 <;> simp [tyQ]
theorem nodeG_25 (h : x.kind = 25) : nodeT same x env p [(p0, t0), (p1, t1)] = (fitG same (partT p1 t1 108 0) t0 (tyQ (partT p1 t1 108 0)) 23 p0).map .list := by
  simp only [nodeT, h]
  simp
  unfold fitG partT
  cases matchT t1 108 with
  | none => simp [tyQ]; rfl
  | some l =>
    simp only [List.getD_eq_getElem?_getD, tyQ]
    generalize fitT same t0 (l[0]?.getD .dyn) 23 p0 = r
    cases r <;> rfl
theorem nodeG_9 (h : x.kind = 9) : nodeT same x env p [(p0, t0), (p1, t1), (p2, t2)] = ifG same p p0 t0 t1 [(p2, t2)] := by
  simp only [nodeT, h]
  simp
  unfold ifG
  rfl
theorem nodeG_1 (h : x.kind = 1) : nodeT same x env p K = .ok .int := by simp [nodeT, h]
theorem nodeG_2 (h : x.kind = 2) : nodeT same x env p K = .ok .text := by simp [nodeT, h]
theorem nodeG_3 (h : x.kind = 3) : nodeT same x env p K = .ok .bool := by simp [nodeT, h]
theorem nodeG_4 (h : x.kind = 4) : nodeT same x env p K = Go.Proofs.YtdfadmhomjcmeaaGreatDoor.lookR env x.s p := by
  simp only [nodeT, h, Go.Proofs.YtdfadmhomjcmeaaGreatDoor.lookR]
  simp
  cases lookT env x.s <;> rfl
end
end Culp.Tr
namespace Go.Proofs.YtdfadmhomjcmeaaGreatDoor
set_option linter.unusedSimpArgs false
set_option linter.unusedVariables false
open Go.RowKit Culp
def bcells (b : ByteArray × Ty) : List Value := [.string b.1, .string b.2.str]
theorem flat_bind : ∀ (L : List (ByteArray × Ty)) (k : Nat) (b : ByteArray × Ty), L[k]? = some b → (L.flatMap bcells)[k * 2]? = some (.string b.1) ∧ (L.flatMap bcells)[k * 2 + 1]? = some (.string b.2.str)
  | [], k, b, h => by simp at h
  | c :: L, 0, b, h => by
    simp only [List.getElem?_cons_zero, Option.some.injEq] at h
    subst h
    exact ⟨rfl, rfl⟩
  | c :: L, k + 1, b, h => by
    rw [List.getElem?_cons_succ] at h
    have := flat_bind L k b h
    rw [List.flatMap_cons, show (k + 1) * 2 = (k * 2) + 2 by omega, show k * 2 + 2 + 1 = (k * 2 + 1) + 2 by omega]
    exact this
/-- An environment in memory: a row of its own, the innermost name last. -/
def RkEnv (B : Nat) (w : World) (v : Value) (l : Tr.Env) : Prop := w.ownsRow B 194 2 v l.length (l.reverse.flatMap bcells)
theorem RkEnv.read {B : Nat} {w : World} {A : Option Addr} {n C : Nat} {l : Tr.Env} (h : RkEnv B w (.slice A n C) l) {k m : Nat} {b : ByteArray × Ty} (hkm : k + m + 1 = l.length) (hb : l[m]? = some b) : ∃ g, A = some ⟨g, 0, none⟩ ∧ w.cell? ⟨g, k * 2, none⟩ = some (.string b.1) ∧ w.cell? ⟨g, k * 2 + 1, none⟩ = some (.string b.2.str) := by
  have hr : l.reverse[k]? = some b := by
    rw [List.getElem?_reverse (by omega)]
    rw [show l.length - 1 - k = m by omega]
    exact hb
  obtain ⟨f1, f2⟩ := flat_bind _ _ _ hr
  rcases h.2 with ⟨_, h0⟩ | ⟨g, cap, cur, e, hB, hh, hc, hm, hsz, htk⟩
  · omega
  · simp only [Value.slice.injEq] at e
    obtain ⟨rfl, rfl, rfl⟩ := e
    rw [← htk] at f1 f2
    rw [List.getElem?_take] at f1 f2
    refine ⟨g, rfl, ?_, ?_⟩
    · split at f1
      · simp only [World.cell?, hh]; simpa using f1
      · cases f1
    · split at f2
      · simp only [World.cell?, hh]; simpa using f2
      · cases f2
theorem RkEnv.len {B : Nat} {w : World} {v : Value} {l : Tr.Env} (h : RkEnv B w v l) : (l.length : Int) ≤ 9223372036854775807 := by
  rcases h.2 with ⟨_, h0⟩ | ⟨g, cap, cur, e, hB, hh, hc, hm, hsz, htk⟩
  · omega
  · unfold maxLen at hm; omega
section
variable (c B : Nat) (sm : Bool) (tv yv : Value) (ys : List ByteArray) (a : Nat) (w : World)
variable (p : Nat) (x : Nd) (kv : Value) (iv : Value) (Be : Nat) (env : Tr.Env)
end
section
variable (c B : Nat) (sm : Bool) (tv yv : Value) (ys : List ByteArray) (a : Nat) (w : World)
variable (p : Nat) (x : Nd) (env : Tr.Env) (K : List (Nat × Ty)) (kv iv : Value) (Be : Nat)
end
end Go.Proofs.YtdfadmhomjcmeaaGreatDoor

/- Walks of the document's checker: what a kid finds bound. -/
namespace Culp
set_option linter.unusedSimpArgs false
set_option linter.unusedVariables false
open Go Go.RowKit
end Culp
namespace Go.Proofs.YtdfadmhomjcmeaaGreatDoor
set_option linter.unusedSimpArgs false
set_option linter.unusedVariables false
open Go.RowKit Culp
theorem RkEnv.cells {B : Nat} {w : World} {A : Option Addr} {n C : Nat} {l : Tr.Env} (h : RkEnv B w (.slice A n C) l) (hl : n = l.length) (h0 : 0 < l.length) : ∃ ad, A = some ad ∧ ∀ j v, (l.reverse.flatMap bcells)[j]? = some v → w.cell? (ad.add j) = some v := by
  rcases h.2 with ⟨_, h1⟩ | ⟨g, cap, cur, e, hB, hh, hc, hm, hsz, htk⟩
  · omega
  · simp only [Value.slice.injEq] at e
    obtain ⟨rfl, _, rfl⟩ := e
    refine ⟨_, rfl, fun j v hj => ?_⟩
    rw [← htk, List.getElem?_take] at hj
    have e1 : (⟨g, 0, none⟩ : Addr).add j = ⟨g, j, none⟩ := by
      unfold Addr.add
      split
      · rename_i h0; subst h0; rfl
      · simp
    rw [e1]
    split at hj
    · simp only [World.cell?, hh]; simpa using hj
    · cases hj
section
variable (c : Nat) (w : World) (x : Nd) (k : Nat) (env : Tr.Env) (iv : Value) (Be : Nat)
end
end Go.Proofs.YtdfadmhomjcmeaaGreatDoor

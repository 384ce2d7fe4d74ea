
/- A statement that leaves its order open, walked in one order: what only looks is done as soon as it may come up, what acts comes up alone. No program in sight. -/
import Derived.Calls
import Derived.Laws.Sem
import Derived.OrdersHeld
import Derived.Deep.RegionHeld
import Derived.Below
namespace Culp
set_option linter.unusedSimpArgs false
set_option linter.unusedVariables false
open Go

/-- Is this a fair order? 'true': it only looks; 'false': it acts, and nothing else may come up then. -/
def planOk (ops : Array Oper) : Array Bool → List (Nat × Bool) → Bool
  | listed, [] => (Region.ready .any ops listed).isEmpty
  | listed, (i, true) :: l => Region.free .any ops listed i && (Region.ready .any ops listed).contains i && planOk ops (listed.setIfInBounds i true) l
  | listed, (i, false) :: l => (Region.ready .any ops listed == [i]) && planOk ops (listed.setIfInBounds i true) l

section
variable {P : Program} {ops : Array Oper} {Q : Exit → Act → World → Prop} {S : World → Prop}

/-- The walk in that order: what looks yields its value in every world that meets S; behind what acts S holds again. -/
def wpPlan (P : Program) (ops : Array Oper) (Q : Exit → Act → World → Prop) (S : World → Prop) : List (Nat × Bool) → Act → World → Prop
  | [], a, w => Q .normal a w
  | (i, true) :: l, a, w => ∃ o v, ops[i]? = some o ∧ YieldsIf P ops S o v a ∧ wpPlan P ops Q S l (a.put o.dst v) w
  | (i, false) :: l, a, w => wpOp P ops Q i (fun a' w' => ∃ S' : World → Prop, (∀ v, S' v → S v) ∧ S' w' ∧ wpPlan P ops Q S' l a' w') a w

theorem wpAnyH_weak {md : Region.Mode} {S' : World → Prop} (h : ∀ v, S' v → S v) : ∀ (fuel : Nat) (listed : Array Bool) (a : Act) (w : World), wpAnyH P md ops Q S' fuel listed a w → wpAnyH P md ops Q S fuel listed a w
  | 0, _, _, _, hh => hh
  | fuel + 1, _, _, _, hh => ⟨hh.1, fun i hi => wpOp_mono (fun a' w' h' => ⟨h w' h'.1, wpAnyH_weak h fuel _ a' w' h'.2⟩) (hh.2 i hi)⟩

theorem wpPlan_any (hs : Region.noSelect ops = true) (hQ : ∀ c a d v w, Q (.panic c) (a.put (some d) v) w → Q (.panic c) a w) :
    ∀ (l : List (Nat × Bool)) (S : World → Prop) (listed : Array Bool) (a : Act) (w : World), planOk ops listed l = true → S w → wpPlan P ops Q S l a w → wpAnyH P .any ops Q S l.length listed a w := by
  intro l
  induction l with
  | nil =>
    intro S listed a w hp _ h
    exact wpAnyH_done (by simpa [planOk] using hp) h 0
  | cons x l ih =>
    intro S listed a w hp hS h
    obtain ⟨i, b⟩ := x
    cases b with
    | true =>
      simp only [planOk, Bool.and_eq_true] at hp
      obtain ⟨o, v, ho, hy, h⟩ := h
      exact wpAnyH_take ho hs hp.1.1 hp.1.2 (fun c a w hq => by
        cases hd : o.dst with
        | none => rw [hd] at hq; exact hq
        | some d => rw [hd] at hq; exact hQ c a d v w hq) hy hS (ih _ _ _ _ hp.2 hS h)
    | false =>
      simp only [planOk, Bool.and_eq_true] at hp
      have hr : Region.ready .any ops listed = [i] := by simpa using hp.1
      refine wpAnyH_all hr (by simp) (fun j hj => ?_)
      have : j = i := by simpa using hj
      subst this
      exact wpOp_mono (fun a' w' ⟨S', h1, h2, h3⟩ => ⟨h1 _ h2, wpAnyH_weak h1 _ _ _ _ (ih S' _ _ _ hp.2 h2 h3)⟩) h

/-- **The rule.** -/
theorem wp_region_plan {id : Nat} {a : Act} {w : World} (l : List (Nat × Bool)) (hm : P.follows .mixedOrders = true) (hs : Region.noSelect ops = true)
    (hp : (planOk ops (Array.replicate ops.size false) l && l.length == ops.size) = true) (hQ : ∀ c a d v w, Q (.panic c) (a.put (some d) v) w → Q (.panic c) a w)
    (hS : S w.drew) (h : S w.drew → wpPlan P ops Q S l a w.drew) : (Code.region id ops true).wp P Q a w := by
  simp only [Bool.and_eq_true, beq_iff_eq] at hp
  refine wp_region_held_drew hm hS (fun _ => ?_)
  have := wpPlan_any hs hQ l S _ a _ hp.1 hS (h hS)
  rw [hp.2] at this
  exact this

/-- The steps; the operations stand as a list, so that the one at hand comes out written. -/
theorem at_list {L : List Oper} {i : Nat} {o : Oper} (h : L[i]? = some o) : L.toArray[i]? = some o := by simpa using h
theorem wpPlan_look {L : List Oper} {i : Nat} {o : Oper} {v : Value} {l : List (Nat × Bool)} {a : Act} {w : World} (ho : L[i]? = some o) (hw : Region.wanted o (yielded L.toArray a.tmps) = true)
    (hv : ∀ w, S w → (execOp a.eval o).run P w = .ok (.value v) w) (h : wpPlan P L.toArray Q S l (a.put o.dst v) w) : wpPlan P L.toArray Q S ((i, true) :: l) a w :=
  ⟨o, v, at_list ho, .inl ⟨hw, hv⟩, h⟩
theorem wpPlan_skip {L : List Oper} {i : Nat} {o : Oper} {l : List (Nat × Bool)} {a : Act} {w : World} (ho : L[i]? = some o) (hw : Region.wanted o (yielded L.toArray a.tmps) = false)
    (h : wpPlan P L.toArray Q S l (a.put o.dst undef) w) : wpPlan P L.toArray Q S ((i, true) :: l) a w :=
  ⟨o, undef, at_list ho, .inr ⟨hw, rfl⟩, h⟩
theorem wpPlan_act {L : List Oper} {i : Nat} {o : Oper} {l : List (Nat × Bool)} {a : Act} {w : World} (ho : L[i]? = some o) (hw : Region.wanted o (yielded L.toArray a.tmps) = true)
    (h : ∀ K : Act → World → Prop, (∀ a w, S w ∧ wpPlan P L.toArray Q S l a w → K a w) → o.wp P a w K Q) : wpPlan P L.toArray Q S ((i, false) :: l) a w := by
  simp only [wpPlan, wpOp, at_list ho, hw, if_true]
  exact .inl (h _ (fun _ _ h => ⟨S, fun _ h => h, h.1, h.2⟩))
/-- An act behind which more is known. -/
theorem wpPlan_actS {L : List Oper} {i : Nat} {o : Oper} {l : List (Nat × Bool)} {a : Act} {w : World} (ho : L[i]? = some o) (hw : Region.wanted o (yielded L.toArray a.tmps) = true)
    (h : ∀ K : Act → World → Prop, (∀ a w, (∃ S' : World → Prop, (∀ v, S' v → S v) ∧ S' w ∧ wpPlan P L.toArray Q S' l a w) → K a w) → o.wp P a w K Q) : wpPlan P L.toArray Q S ((i, false) :: l) a w := by
  simp only [wpPlan, wpOp, at_list ho, hw, if_true]
  exact .inl (h _ (fun _ _ h => h))
theorem wpPlan_pass {L : List Oper} {i : Nat} {o : Oper} {l : List (Nat × Bool)} {a : Act} {w : World} (ho : L[i]? = some o) (hw : Region.wanted o (yielded L.toArray a.tmps) = false)
    (hS : S w) (h : wpPlan P L.toArray Q S l (a.put o.dst undef) w) : wpPlan P L.toArray Q S ((i, false) :: l) a w := by
  simp only [wpPlan, wpOp, at_list ho, hw]
  exact ⟨S, fun _ h => h, hS, h⟩
theorem as_S {A B : Prop} (ha : A) (h : A → B) : A ∧ B := ⟨ha, h ha⟩
theorem wpPlan_done {a : Act} {w : World} (h : Q .normal a w) : wpPlan P ops Q S [] a w := h

/-- What is called is a function of the text. -/
def bodied (P : Program) (f : FuncId) : Bool := ((P.funcs[f]?).map fun fn => fn.name != "runtime.NumGoroutine" && fn.body.isSome).getD false
theorem run_enter {f : FuncId} {args : Array Value} {w : World} (h : bodied P f = true) : (callFunc f args).run P w = .ok (.enter f args) w := by
  unfold bodied at h
  cases hf : P.funcs[f]? with
  | none => rw [hf] at h; simp at h
  | some fn =>
    rw [hf] at h
    simp only [Option.map_some, Option.getD_some, Bool.and_eq_true, bne_iff_ne] at h
    obtain ⟨h1, h2⟩ := h
    have h2' : ¬ fn.body = none := by intro hb; rw [hb] at h2; cases h2
    simp [callFunc, Sem.run, hf, Go.program, h1, h2']
theorem exec_call {a : Act} {o : Oper} {x : Operand} {xs : Array Operand} {ats : Array TypeId} {f : FuncId} {fs caps : Array Value} (ho : o.op = .call { callee := .value x, args := xs, argTypes := ats })
    (hx : a.eval x = .func (.func f) fs caps) : execOp a.eval o = callFunc f (fs ++ xs.map a.eval ++ caps) := by
  unfold execOp
  rw [ho]
  simp only [resolve, hx]
  rfl
theorem wp_call {o : Oper} {x : Operand} {xs : List Operand} {ats : Array TypeId} {f : FuncId} {fs caps args : List Value} {a : Act} {w : World} {K : Act → World → Prop} {R : Ending → World → Prop}
    (hop : o.op = .call { callee := .value x, args := xs.toArray, argTypes := ats }) (hx : a.eval x = .func (.func f) fs.toArray caps.toArray) (hb : bodied P f = true) (hargs : fs ++ xs.map a.eval ++ caps = args)
    (hc : Calls P f args.toArray w R) (h : ∀ e w', R e w' → match e with | .returned v => K (a.put o.dst v) w' | .panicked c => Q (.panic c) a w' | .outgrown => LetsOut Q) : o.wp P a w K Q := by
  unfold Oper.wp
  rw [exec_call hop hx, run_enter hb, Oper.upon_enter]
  rw [List.map_toArray, List.append_toArray, List.append_toArray, hargs]
  exact hc.mono fun e w' r => by
    have := h e w' r
    cases e <;> exact this
/-- A call in such a statement. -/
theorem wpPlan_call {L : List Oper} {i : Nat} {o : Oper} {x : Operand} {xs : List Operand} {ats : Array TypeId} {f : FuncId} {fs caps args : List Value} {l : List (Nat × Bool)} {a : Act} {w : World} {R : Ending → World → Prop}
    (ho : L[i]? = some o) (hop : o.op = .call { callee := .value x, args := xs.toArray, argTypes := ats }) (hw : Region.wanted o (yielded L.toArray a.tmps) = true) (hx : a.eval x = .func (.func f) fs.toArray caps.toArray)
    (hb : bodied P f = true) (hc : Calls P f args.toArray w R) (hargs : fs ++ xs.map a.eval ++ caps = args)
    (h : ∀ e w', R e w' → ∃ v, e = .returned v ∧ (S w' ∧ wpPlan P L.toArray Q S l (a.put o.dst v) w')) : wpPlan P L.toArray Q S ((i, false) :: l) a w :=
  wpPlan_act ho hw fun _ hK => wp_call hop hx hb hargs hc fun e w' r => by
    obtain ⟨v, rfl, hh⟩ := h e w' r
    exact hK _ _ hh
/-- A call that may panic. -/
theorem wpPlan_call2 {L : List Oper} {i : Nat} {o : Oper} {x : Operand} {xs : List Operand} {ats : Array TypeId} {f : FuncId} {fs caps args : List Value} {l : List (Nat × Bool)} {a : Act} {w : World} {R : Ending → World → Prop}
    (ho : L[i]? = some o) (hop : o.op = .call { callee := .value x, args := xs.toArray, argTypes := ats }) (hw : Region.wanted o (yielded L.toArray a.tmps) = true) (hx : a.eval x = .func (.func f) fs.toArray caps.toArray)
    (hb : bodied P f = true) (hc : Calls P f args.toArray w R) (hargs : fs ++ xs.map a.eval ++ caps = args)
    (h : ∀ e w', R e w' → (∃ v, e = .returned v ∧ (S w' ∧ wpPlan P L.toArray Q S l (a.put o.dst v) w')) ∨ (∃ c, e = .panicked c ∧ Q (.panic c) a w')) : wpPlan P L.toArray Q S ((i, false) :: l) a w :=
  wpPlan_act ho hw fun _ hK => wp_call hop hx hb hargs hc fun e w' r => by
    rcases h e w' r with ⟨v, rfl, hh⟩ | ⟨c, rfl, hh⟩
    · exact hK _ _ hh
    · exact hh
/-- A call behind which more is known. -/
theorem wpPlan_callS {L : List Oper} {i : Nat} {o : Oper} {x : Operand} {xs : List Operand} {ats : Array TypeId} {f : FuncId} {fs caps args : List Value} {l : List (Nat × Bool)} {a : Act} {w : World} {R : Ending → World → Prop}
    (ho : L[i]? = some o) (hop : o.op = .call { callee := .value x, args := xs.toArray, argTypes := ats }) (hw : Region.wanted o (yielded L.toArray a.tmps) = true) (hx : a.eval x = .func (.func f) fs.toArray caps.toArray)
    (hb : bodied P f = true) (hc : Calls P f args.toArray w R) (hargs : fs ++ xs.map a.eval ++ caps = args)
    (h : ∀ e w', R e w' → (∃ v, e = .returned v ∧ ∃ S' : World → Prop, (∀ u, S' u → S u) ∧ S' w' ∧ wpPlan P L.toArray Q S' l (a.put o.dst v) w') ∨ (∃ c, e = .panicked c ∧ Q (.panic c) a w')) : wpPlan P L.toArray Q S ((i, false) :: l) a w :=
  wpPlan_actS ho hw fun _ hK => wp_call hop hx hb hargs hc fun e w' r => by
    rcases h e w' r with ⟨v, rfl, hh⟩ | ⟨c, rfl, hh⟩
    · exact hK _ _ hh
    · exact hh
end

/-- An act that gives a value, or none. -/
theorem wpPlan_run {P : Program} {Q : Exit → Act → World → Prop} {S : World → Prop} {L : List Oper} {i : Nat} {o : Oper} {l : List (Nat × Bool)} {a : Act} {w w' : World} {v : Value} (ho : L[i]? = some o) (hw : Region.wanted o (yielded L.toArray a.tmps) = true)
    (hr : (execOp a.eval o).run P w = .ok (.value v) w') (S' : World → Prop) (hS : ∀ v, S' v → S v) (hS' : S' w') (h : wpPlan P L.toArray Q S' l (a.put o.dst v) w') : wpPlan P L.toArray Q S ((i, false) :: l) a w :=
  wpPlan_actS ho hw fun _ hK => by
    unfold Oper.wp
    rw [hr, Oper.upon_value]
    exact hK _ _ ⟨S', hS, hS', h⟩
theorem wpPlan_run0 {P : Program} {Q : Exit → Act → World → Prop} {S : World → Prop} {L : List Oper} {i : Nat} {o : Oper} {l : List (Nat × Bool)} {a : Act} {w w' : World} (ho : L[i]? = some o) (hw : Region.wanted o (yielded L.toArray a.tmps) = true)
    (hr : (execOp a.eval o).run P w = .ok .skip w') (S' : World → Prop) (hS : ∀ v, S' v → S v) (hS' : S' w') (h : wpPlan P L.toArray Q S' l (a.put o.dst undef) w') : wpPlan P L.toArray Q S ((i, false) :: l) a w :=
  wpPlan_actS ho hw fun _ hK => by
    unfold Oper.wp
    rw [hr, Oper.upon_skip]
    exact hK _ _ ⟨S', hS, hS', h⟩
theorem below_later {W x y : World} (hb : Go.RowKit.Below x.heap.size x y) (h : Go.RowKit.Below W.heap.size W x) : Go.RowKit.Below W.heap.size W y := h.trans (hb.mono h.size)
end Culp


/- The steps of such a walk. No program in sight. -/
import Derived.Test.YtidholghbjljaaaDoorWp
namespace Culp.Er
set_option linter.unusedSimpArgs false
set_option linter.unusedVariables false
open Go
section
variable {F : Fence} {n : Nat} {P : Program} {Q : Exit → Act → World → Prop} {S : World → Prop}
theorem walkB_look {L : List Oper} {i c : Nat} {o : Oper} {v : Value} {l A : List Nat} {a : Act} {w : World} (ho : L[i]? = some o) (hw : Region.wanted o (yielded L.toArray a.tmps) = true) (hb : ∀ w, o.about P w a.eval = none)
    (hv : ∀ w, S w → (execOp a.eval o).run P w = .ok (.value v) w) (h : walkB F n P L.toArray Q S c A l (a.put o.dst v) w) : walkB F n P L.toArray Q S c A (i :: l) a w :=
  ⟨o, v, at_list ho, ⟨hb, .inl ⟨hw, hv⟩⟩, h⟩
theorem walkA_look {L : List Oper} {i : Nat} {o : Oper} {v : Value} {l : List Nat} {a : Act} {w : World} (ho : L[i]? = some o) (hw : Region.wanted o (yielded L.toArray a.tmps) = true) (hb : ∀ w, o.about P w a.eval = none)
    (hv : ∀ w, (execOp a.eval o).run P w = .ok (.value v) w) (h : walkA F n P L.toArray Q l (a.put o.dst v) w) : walkA F n P L.toArray Q (i :: l) a w :=
  ⟨o, v, at_list ho, ⟨.inl ⟨hw, hv⟩, hb⟩, h⟩
theorem walkA_done {ops : Array Oper} {a : Act} {w : World} (h : Q .normal a w) : walkA F n P ops Q [] a w := h
/-- A call of yield. -/
theorem walkB_round {L : List Oper} {c : Nat} {o : Oper} {x : Operand} {xs : List Operand} {ats : Array TypeId} {A : List Nat} {a : Act} {w : World} {l : Nat} {args : List Value} {fn : FuncId} {tmps : Array Value} {assign body : Code} {R : Ending → World → Prop}
    (hro : F.round = none) (hd : F.depth = none) (hF : ∀ f, F.fn f) (ho : L[c]? = some o) (hw : Region.wanted o (yielded L.toArray a.tmps) = true) (hop : o.op = .call { callee := .value x, args := xs.toArray, argTypes := ats })
    (hx : a.eval x = .func (.yield l) #[] #[]) (hxs : xs.map a.eval = args) (hy : (Instr.yield l args.toArray).run P w = .ok (.round l fn tmps assign body) w) (hR : RoundIn F (n - 1) P l fn tmps assign body w R)
    (h : ∀ e w', R e w' → ∃ v, e = .returned v ∧ walkA F n P L.toArray Q A (a.put o.dst v) w') : walkB F n P L.toArray Q S c A [] a w := by
  have he : execOp a.eval o = Instr.yield l (#[] ++ xs.toArray.map a.eval ++ #[]) := by
    unfold execOp
    rw [hop]
    simp only [resolve, hx]
    rfl
  have hr : (execOp a.eval o).run P w = .ok (.round l fn tmps assign body) w := by
    rw [he, List.map_toArray, hxs]
    simpa using hy
  show wpOpIn F n P L.toArray Q c _ a w
  unfold wpOpIn
  rw [at_list ho]
  simp only [hw, if_true]
  refine ⟨fun f _ => hF f, ?_⟩
  rw [hro, Oper.semAt_none, hr]
  refine ⟨fun h0 => (by rw [hd] at h0; cases h0), hR.mono fun e w' he => ?_⟩
  obtain ⟨v, rfl, hk⟩ := h e w' he
  exact hk
end
end Culp.Er

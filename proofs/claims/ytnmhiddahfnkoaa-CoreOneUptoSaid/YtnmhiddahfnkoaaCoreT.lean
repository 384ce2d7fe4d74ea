/- Package core: the type of a node: what its walk needs. -/
import Derived.Test.YtnmhiddahfnkoaaCoreD
import Derived.Test.YtnmhiddahfnkoaaCoreS
import Derived.Laws.OwnMore
namespace Go.Proofs.Ytnmhiddahfnkoaa
set_option linter.unusedSimpArgs false
set_option linter.unusedVariables false
open Go.RowKit Culp

theorem build_1 (w : World) (s : ByteArray) : (Instr.buildSlice 61 1 #[(0, .string s)]).run Try.prog w = .ok (.slice (some ⟨w.heap.size, 0, none⟩) 1 1) (w.alloc (.cells #[.string s] 9)) := by
  simp [go_sem, Instr.buildSlice, run_underlying Try.underlying61]
theorem build_2 (w : World) (s t : ByteArray) : (Instr.buildSlice 61 2 #[(0, .string s), (1, .string t)]).run Try.prog w = .ok (.slice (some ⟨w.heap.size, 0, none⟩) 2 2) (w.alloc (.cells #[.string s, .string t] 9)) := by
  simp [go_sem, Instr.buildSlice, run_underlying Try.underlying61]

/-- What push hands back. -/
def PushRes (l : List Ty) (w : World) (e : Ending) (w' : World) : Prop := ∃ v, e = .returned v ∧ Tys w' v l ∧ Below w.heap.size w w'
theorem push_1 (t : Ty) (ev : Value) (env : List Ty) (w : World) (he : Tys w ev env) (hn : env.length ≤ 90000) :
    Calls Try.prog 47 #[ev, .slice (some ⟨w.heap.size, 0, none⟩) 1 1] (w.alloc (.cells #[.string t.str] 9)) (PushRes (t :: env) w) := by
  have hb : Below w.heap.size w (w.alloc (.cells #[.string t.str] 9)) := (Below.refl _ _).alloc (Nat.le_refl _) _
  refine (push_any ev _ w.heap.size 1 [.string t.str] env _ (World.ownsRow_lit w #[.string t.str] 1 (Nat.le_refl _) (by unfold maxLen; omega) rfl) (he.later hb) (by simp) (by omega)).mono ?_
  rintro e w' ⟨v, rfl, hown, _, hb'⟩
  refine ⟨v, rfl, ?_, hb.trans hb'⟩
  have : ([Value.string t.str] ++ strs env) = (t :: env).map fun t => .string t.str := by simp [strs]
  rw [this] at hown
  exact Tys.own hown
theorem push_2 (t u : Ty) (ev : Value) (env : List Ty) (w : World) (he : Tys w ev env) (hn : env.length ≤ 90000) :
    Calls Try.prog 47 #[ev, .slice (some ⟨w.heap.size, 0, none⟩) 2 2] (w.alloc (.cells #[.string t.str, .string u.str] 9)) (PushRes (t :: u :: env) w) := by
  have hb : Below w.heap.size w (w.alloc (.cells #[.string t.str, .string u.str] 9)) := (Below.refl _ _).alloc (Nat.le_refl _) _
  refine (push_any ev _ w.heap.size 2 [.string t.str, .string u.str] env _ (World.ownsRow_lit w #[.string t.str, .string u.str] 2 (Nat.le_refl _) (by unfold maxLen; omega) rfl) (he.later hb) (by simp) (by omega)).mono ?_
  rintro e w' ⟨v, rfl, hown, _, hb'⟩
  refine ⟨v, rfl, ?_, hb.trans hb'⟩
  have : ([Value.string t.str, Value.string u.str] ++ strs env) = (t :: u :: env).map fun t => .string t.str := by simp [strs]
  rw [this] at hown
  exact Tys.own hown

/-- An act that hands on what it makes. -/
theorem wpPlan_run {P : Program} {Q : Exit → Act → World → Prop} {S : World → Prop} {L : List Oper} {i : Nat} {o : Oper} {l : List (Nat × Bool)} {a : Act} {w w' : World} {v : Value} (ho : L[i]? = some o) (hw : Region.wanted o (yielded L.toArray a.tmps) = true)
    (hr : (execOp a.eval o).run P w = .ok (.value v) w') (S' : World → Prop) (hS : ∀ v, S' v → S v) (hS' : S' w') (h : wpPlan P L.toArray Q S' l (a.put o.dst v) w') : wpPlan P L.toArray Q S ((i, false) :: l) a w :=
  wpPlan_actS ho hw fun _ hK => by
    unfold Oper.wp
    rw [hr, Oper.upon_value]
    exact hK _ _ ⟨S', hS, hS', h⟩

/-- The checker at a place, all that it leans on. -/
structure Inv (T : List Nd) (g r : Nat) (tv : Value) (p : Nat) (w : World) : Prop where
  ck : Ck g tv (.map (some r)) p w
  nodes : Nodes w tv T
  rules : Rules r w
  ne : r ≠ g
  ti : ∀ k n, tv ≠ .int k n
  ts : ∀ s, tv ≠ .string s
theorem OpsFn.keep {g p : Nat} {tv mv v : Value} {a b : Ty} {w w' : World} (h : OpsFn a b v w) (hk : Keep g w w') (hc : Ck g tv mv p w) (ts : ∀ s, tv ≠ .string s) (ms : ∀ s, mv ≠ .string s) : OpsFn a b v w' := by
  obtain ⟨x, y, rfl, h1, h2⟩ := h
  exact ⟨x, y, rfl, hk.cell h1 (Trio.ne_ hc h1 (fun e => ts _ e.symm) (by simp) (fun e => ms _ e.symm)), hk.cell h2 (Trio.ne_ hc h2 (fun e => ts _ e.symm) (by simp) (fun e => ms _ e.symm))⟩
theorem Inv.keep {T : List Nd} {g r : Nat} {tv : Value} {p p' : Nat} {w w' : World} (h : Inv T g r tv p w) (hk : Keep g w w') (hc : Ck g tv (.map (some r)) p' w') : Inv T g r tv p' w' := by
  refine ⟨hc, h.nodes.keep hk h.ck h.ti (by simp), ?_, h.ne, h.ti, h.ts⟩
  obtain ⟨v1, v2, v3, v4, hm, o1, o2, o3, o4⟩ := h.rules
  refine ⟨v1, v2, v3, v4, ?_, o1.keep hk h.ck h.ts (by simp), o2.keep hk h.ck h.ts (by simp), o3.keep hk h.ck h.ts (by simp), o4.keep hk h.ck h.ts (by simp)⟩
  obtain ⟨arr, clk, h1, h2⟩ := hm
  have hlt := (Array.getElem?_eq_some_iff.1 h1).1
  exact ⟨arr, clk, (hk.block r hlt h.ne).trans h1, h2⟩
theorem Inv.later {T : List Nd} {g r : Nat} {tv : Value} {p : Nat} {w w' : World} (h : Inv T g r tv p w) (hb : Below w.heap.size w w') : Inv T g r tv p w' := h.keep (Keep.of hb) (h.ck.later hb)
theorem Inv.tys {T : List Nd} {g r : Nat} {tv : Value} {p : Nat} {w w' : World} (h : Inv T g r tv p w) (hk : Keep g w w') {v : Value} {l : List Ty} (ht : Tys w v l) : Tys w' v l := ht.keep hk h.ck h.ts (by simp)
theorem Inv.step {T : List Nd} {g r : Nat} {tv : Value} {p : Nat} {w : World} (h : Inv T g r tv p w) (q : Nat) : Inv T g r tv q (w.setCell ⟨g, 1, none⟩ (.int .i64 (q : Int))) := h.keep ((Keep.refl _ _).setCell 1 _) (h.ck.set1 _)

/-- What the walk of a node ends with. -/
def TypedRes (g : Nat) (tv mv : Value) (w : World) (r : Except Flt (Ty × Nat)) (en : Ending) (w' : World) : Prop :=
  Keep g w w' ∧ match r with
    | .ok (t, q) => en = .returned (.string t.str) ∧ Ck g tv mv q w'
    | .error (e, p) => en = .panicked (flawV e p)
theorem TypedRes.ok_ {g : Nat} {tv mv : Value} {w w' : World} {r : Except Flt (Ty × Nat)} {t : Ty} {q : Nat} {u : Value} (h : r = .ok (t, q)) (hu : u = .string t.str) (hk : Keep g w w') (hc : Ck g tv mv q w') : TypedRes g tv mv w r (.returned u) w' := by
  subst h; exact ⟨hk, by rw [hu], hc⟩
theorem TypedRes.bad {g : Nat} {tv mv : Value} {w w' : World} {r : Except Flt (Ty × Nat)} {e : Int} {p : Nat} (h : r = .error (e, p)) (hk : Keep g w w') : TypedRes g tv mv w r (.panicked (flawV e p)) w' := by
  subst h; exact ⟨hk, rfl⟩
def TypedC (T : List Nd) (f : Nat) : Prop := ∀ (g r : Nat) (tv ev : Value) (env : List Ty) (p q : Nat) (w : World), Inv T g r tv p w → Tys w ev env → (∀ t ∈ env, t.fits) → env.length + 2 * f ≤ 3000 → shapeM T f p = .ok q →
  Calls Try.prog 28 #[.pointer (some ⟨g, 0, none⟩), ev] w (TypedRes g tv (.map (some r)) w (typedM T f env p))
end Go.Proofs.Ytnmhiddahfnkoaa

/- Maps that a call makes from a literal: keys of an integer kind, elements of any form. No program in sight. -/
import Derived.Test.YtnmhiddahfnkoaaMem
import Derived.Maps.Own
import Derived.Carry
namespace Culp
set_option linter.unusedSimpArgs false
set_option linter.unusedVariables false
open Go Go.RowKit

/-- Block r is a map with just these entries. -/
def MapAt (w : World) (q : IntKind) (r : Nat) (es : List (Int × Value)) : Prop :=
  ∃ arr clk, w.heap[r]? = some (.map arr clk) ∧ arr.toList.map (fun e => (e.key, e.val)) = es.map fun p => (Value.int q p.1, p.2)

theorem MapAt.lt {w : World} {q : IntKind} {r : Nat} {es : List (Int × Value)} (h : MapAt w q r es) : r < w.heap.size := by
  obtain ⟨arr, clk, h, _⟩ := h
  exact (Array.getElem?_eq_some_iff.1 h).1
theorem MapAt.later {w w' : World} {q : IntKind} {r B : Nat} {es : List (Int × Value)} (h : MapAt w q r es) (hb : Below B w w') (hr : r < B) : MapAt w' q r es := by
  obtain ⟨arr, clk, h, h2⟩ := h
  exact ⟨arr, clk, (hb.block r hr).trans h, h2⟩
theorem MapAt.made (w : World) (q : IntKind) : MapAt (w.alloc (.map #[] 0)) q w.heap.size [] := by
  refine ⟨#[], 0, ?_, rfl⟩
  show (w.heap.push _)[_]? = _
  simp

theorem find_none {q : IntKind} {n : Int} : ∀ (l : List MapEntry) (es : List (Int × Value)) (i : Nat), l.map (fun e => (e.key, e.val)) = es.map (fun p => (Value.int q p.1, p.2)) → es.lookup n = none →
    Instr.findNow (.int q) (.int q n) l i = some none
  | [], _, _, _, _ => rfl
  | _ :: _, [], _, h, _ => by simp at h
  | e :: l, p :: es, i, h, hn => by
    simp only [List.map_cons, List.cons.injEq, Prod.mk.injEq] at h
    obtain ⟨⟨h1, h2⟩, h3⟩ := h
    obtain ⟨k, v⟩ := p
    simp only [List.lookup_cons] at hn
    have hk : (n == k) = false := by
      cases hh : (n == k)
      · rfl
      · rw [hh] at hn; cases hn
    rw [hk] at hn
    simp only [Instr.findNow, Instr.sameNow, h1, if_true, hk]
    exact find_none l es (i + 1) h3 hn
theorem find_some {q : IntKind} {n : Int} {v : Value} : ∀ (l : List MapEntry) (es : List (Int × Value)) (i : Nat), l.map (fun e => (e.key, e.val)) = es.map (fun p => (Value.int q p.1, p.2)) → es.lookup n = some v →
    ∃ j, Instr.findNow (.int q) (.int q n) l i = some (some (j, v))
  | [], [], _, _, hn => by cases hn
  | [], _ :: _, _, h, _ => by simp at h
  | _ :: _, [], _, h, _ => by simp at h
  | e :: l, p :: es, i, h, hn => by
    simp only [List.map_cons, List.cons.injEq, Prod.mk.injEq] at h
    obtain ⟨⟨h1, h2⟩, h3⟩ := h
    obtain ⟨k, u⟩ := p
    simp only [List.lookup_cons] at hn
    cases hk : (n == k) with
    | true =>
      rw [hk] at hn
      simp only [Option.some.injEq] at hn
      refine ⟨i, ?_⟩
      simp only [Instr.findNow, Instr.sameNow, h1, if_true, hk, h2, hn]
    | false =>
      rw [hk] at hn
      obtain ⟨j, hj⟩ := find_some l es (i + 1) h3 hn
      refine ⟨j, ?_⟩
      simp only [Instr.findNow, Instr.sameNow, h1, if_true, hk]
      exact hj

/-- One more entry, at a key that is new. -/
theorem wpList_insert_new {P : Program} (w : World) {ops : Array Oper} {rest : List Oper} {o : Oper} {a : Act} {Q : Exit → Act → World → Prop}
    (hg : o.guard = none) (m x v : Operand) (t : TypeId) (hop : o.op = Op.insert t m x v) (k e : TypeId) (q : IntKind) (ht : P.underlying t = some (.map k e)) (hk : P.underlying k = some (.int q))
    (B : Nat) (w0 : World) (r : Nat) (es : List (Int × Value)) (hm : a.eval m = .map (some r)) (n : Int) (u : Value) (hx : a.eval x = .int q n) (hv : a.eval v = u)
    (hown : MapAt w q r es ∧ Below B w0 w) (hB : B ≤ r) (hnew : es.lookup n = none)
    (hK : ∀ w', MapAt w' q r (es ++ [(n, u)]) ∧ Below B w0 w' → Below r w w' → (∀ i, i ≠ r → w'.heap[i]? = w.heap[i]?) → wpList P ops Q rest (a.put o.dst undef) w') :
    wpList P ops Q (o :: rest) a w := by
  obtain ⟨⟨arr, clk, hb, he⟩, hbel⟩ := hown
  refine wpList_plain hg fun K' hK' => ?_
  have hf := find_none arr.toList es 0 he hnew
  have hc : (Instr.checkKey false 10000 k (.int q n)).run P w = .ok () w := MapKept.run_checkKey (k := .int q n) hk (by simp [MapKept.IsKey]) false 9999
  have hrun : (Instr.mapUpdate t (.map (some r)) (.int q n) u).run P w = .ok () { w with heap := w.heap.setIfInBounds r (.map (arr.push { key := .int q n, val := u, born := clk }) (clk + 1)) } := by
    simp [Instr.mapUpdate, run_underlying ht, MapKept.run_getObj_map hb, hc, MapKept.run_findKey hk hf, MapKept.run_setObj_map _ hb, Result.andThen]
  have hh := MapKept.heap_set (o' := .map (arr.push { key := .int q n, val := u, born := clk }) (clk + 1)) hb
  have hbr : Below r w { w with heap := w.heap.setIfInBounds r (.map (arr.push { key := .int q n, val := u, born := clk }) (clk + 1)) } :=
    ⟨rfl, rfl, rfl, by simp, fun i hi => hh.2 i (by omega)⟩
  unfold Oper.wp
  simp [execOp, hop, hm, hx, hv, hrun, Result.andThen]
  refine hK' _ _ (hK _ ⟨⟨_, _, hh.1, ?_⟩, hbel.trans (hbr.mono hB)⟩ hbr hh.2)
  simp [he]

theorem run_lookup_there {P : Program} (w : World) (t k e : TypeId) (q : IntKind) (ht : P.underlying t = some (.map k e)) (hk : P.underlying k = some (.int q)) (r : Nat) (es : List (Int × Value)) (n : Int) (u : Value) (hown : MapAt w q r es) (hu : es.lookup n = some u) :
    (Instr.lookup t (.map (some r)) (.int q n) false).run P w = .ok u w := by
  obtain ⟨arr, clk, hb, he⟩ := hown
  obtain ⟨j, hf⟩ := find_some arr.toList es 0 he hu
  have hc : ∀ b, (Instr.checkKey b 10000 k (.int q n)).run P w = .ok () w := fun b => MapKept.run_checkKey (k := .int q n) hk (by simp [MapKept.IsKey]) b 9999
  simp [Instr.lookup, run_underlying ht, MapKept.run_getObj_map hb, hc, MapKept.run_findKey hk hf, Result.andThen]

/-- The element at a key that is there. -/
theorem wpList_lookup_there {P : Program} (w : World) {ops : Array Oper} {rest : List Oper} {o : Oper} {a : Act} {Q : Exit → Act → World → Prop}
    (hg : o.guard = none) (m x : Operand) (t : TypeId) (hop : o.op = Op.lookup t m x false) (k e : TypeId) (q : IntKind) (ht : P.underlying t = some (.map k e)) (hk : P.underlying k = some (.int q))
    (r : Nat) (es : List (Int × Value)) (hm : a.eval m = .map (some r)) (n : Int) (u : Value) (hx : a.eval x = .int q n)
    (hown : MapAt w q r es) (hu : es.lookup n = some u) (hK : wpList P ops Q rest (a.put o.dst u) w) :
    wpList P ops Q (o :: rest) a w := by
  obtain ⟨arr, clk, hb, he⟩ := hown
  refine wpList_plain hg fun K' hK' => ?_
  obtain ⟨j, hf⟩ := find_some arr.toList es 0 he hu
  have hc : ∀ b, (Instr.checkKey b 10000 k (.int q n)).run P w = .ok () w := fun b => MapKept.run_checkKey (k := .int q n) hk (by simp [MapKept.IsKey]) b 9999
  have hrun : (Instr.lookup t (.map (some r)) (.int q n) false).run P w = .ok u w := by
    simp [Instr.lookup, run_underlying ht, MapKept.run_getObj_map hb, hc, MapKept.run_findKey hk hf, Result.andThen]
  unfold Oper.wp
  simp [execOp, hop, hm, hx, hrun, Result.andThen]
  exact hK' _ _ hK

/-- With ok: there or not. -/
theorem wpList_lookup_ok {P : Program} (w : World) {ops : Array Oper} {rest : List Oper} {o : Oper} {a : Act} {Q : Exit → Act → World → Prop}
    (hg : o.guard = none) (m x : Operand) (t : TypeId) (hop : o.op = Op.lookup t m x true) (k e : TypeId) (q : IntKind) (ht : P.underlying t = some (.map k e)) (hk : P.underlying k = some (.int q))
    (z : Value) (hz : (zeroValue e).run P w = .ok z w)
    (r : Nat) (es : List (Int × Value)) (hm : a.eval m = .map (some r)) (n : Int) (hx : a.eval x = .int q n)
    (hown : MapAt w q r es) (hK : wpList P ops Q rest (a.put o.dst (.tuple #[(es.lookup n).getD z, .bool (es.lookup n).isSome])) w) :
    wpList P ops Q (o :: rest) a w := by
  obtain ⟨arr, clk, hb, he⟩ := hown
  refine wpList_plain hg fun K' hK' => ?_
  have hc : ∀ b, (Instr.checkKey b 10000 k (.int q n)).run P w = .ok () w := fun b => MapKept.run_checkKey (k := .int q n) hk (by simp [MapKept.IsKey]) b 9999
  have hrun : (Instr.lookup t (.map (some r)) (.int q n) true).run P w = .ok (.tuple #[(es.lookup n).getD z, .bool (es.lookup n).isSome]) w := by
    cases hl : es.lookup n with
    | none =>
      have hf := find_none arr.toList es 0 he hl
      simp [Instr.lookup, run_underlying ht, MapKept.run_getObj_map hb, hc, MapKept.run_findKey hk hf, hz, Result.andThen]
    | some u =>
      obtain ⟨j, hf⟩ := find_some arr.toList es 0 he hl
      simp [Instr.lookup, run_underlying ht, MapKept.run_getObj_map hb, hc, MapKept.run_findKey hk hf, Result.andThen]
  unfold Oper.wp
  simp [execOp, hop, hm, hx, hrun, Result.andThen]
  exact hK' _ _ hK
end Culp

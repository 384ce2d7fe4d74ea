
/- Walks of parse: what marks and words say; a node; the table of what words begin. -/
import Derived.Test.YtnhdbjhdmdefmaaDoorZf
namespace Culp.Gr
set_option linter.unusedSimpArgs false
set_option linter.unusedVariables false
open Go Go.RowKit Culp Culp.Tr Go.Proofs.YtnhdbjhdmdefmaaDoor
/-- Block r is a map from texts with just these entries. -/
def MapS (w : World) (r : Nat) (es : List (ByteArray × Value)) : Prop :=
  ∃ arr clk, w.heap[r]? = some (.map arr clk) ∧ arr.toList.map (fun e => (e.key, e.val)) = es.map fun p => (Value.string p.1, p.2)
theorem MapS.lt {w : World} {r : Nat} {es : List (ByteArray × Value)} (h : MapS w r es) : r < w.heap.size := by
  obtain ⟨arr, clk, h, _⟩ := h
  exact (Array.getElem?_eq_some_iff.1 h).1
theorem MapS.later {w w' : World} {r : Nat} {es : List (ByteArray × Value)} (h : MapS w r es) (hb : Below w.heap.size w w') : MapS w' r es := by
  have hl := h.lt
  obtain ⟨arr, clk, h, h2⟩ := h
  exact ⟨arr, clk, (hb.block r hl).trans h, h2⟩
theorem MapS.made (w : World) : MapS (w.alloc (.map #[] 0)) w.heap.size [] := by
  refine ⟨#[], 0, ?_, rfl⟩
  show (w.heap.push _)[_]? = _
  simp
theorem findS_none {n : ByteArray} : ∀ (l : List MapEntry) (es : List (ByteArray × Value)) (i : Nat), l.map (fun e => (e.key, e.val)) = es.map (fun p => (Value.string p.1, p.2)) → es.lookup n = none →
    Instr.findNow .string (.string n) l i = some none
  | [], _, _, _, _ => rfl
  | _ :: _, [], _, h, _ => by simp at h
  | e :: l, p :: es, i, h, hn => by
    simp only [List.map_cons, List.cons.injEq, Prod.mk.injEq] at h
    obtain ⟨⟨h1, h2⟩, h3⟩ := h
    obtain ⟨k, v⟩ := p
    simp only [List.lookup_cons] at hn
    have hk : (n == k) = false := by
      cases hh : (n == k)
      · rfl
      · rw [hh] at hn; cases hn
    rw [hk] at hn
    simp only [Instr.findNow, Instr.sameNow, h1, if_true, hk]
    exact findS_none l es (i + 1) h3 hn
theorem findS_some {n : ByteArray} {v : Value} : ∀ (l : List MapEntry) (es : List (ByteArray × Value)) (i : Nat), l.map (fun e => (e.key, e.val)) = es.map (fun p => (Value.string p.1, p.2)) → es.lookup n = some v →
    ∃ j, Instr.findNow .string (.string n) l i = some (some (j, v))
  | [], [], _, _, hn => by cases hn
  | [], _ :: _, _, h, _ => by simp at h
  | _ :: _, [], _, h, _ => by simp at h
  | e :: l, p :: es, i, h, hn => by
    simp only [List.map_cons, List.cons.injEq, Prod.mk.injEq] at h
    obtain ⟨⟨h1, h2⟩, h3⟩ := h
    obtain ⟨k, u⟩ := p
    simp only [List.lookup_cons] at hn
    cases hk : (n == k) with
    | true =>
      rw [hk] at hn
      simp only [Option.some.injEq] at hn
      refine ⟨i, ?_⟩
      simp only [Instr.findNow, Instr.sameNow, h1, if_true, hk, h2, hn]
    | false =>
      rw [hk] at hn
      obtain ⟨j, hj⟩ := findS_some l es (i + 1) h3 hn
      refine ⟨j, ?_⟩
      simp only [Instr.findNow, Instr.sameNow, h1, if_true, hk]
      exact hj
/-- One more entry, at a key that is new. -/
theorem wpList_insert_newS {P : Program} (w : World) {ops : Array Oper} {rest : List Oper} {o : Oper} {a : Act} {Q : Exit → Act → World → Prop}
    (hg : o.guard = none) (m x v : Operand) (t : TypeId) (hop : o.op = Op.insert t m x v) (k e : TypeId) (ht : P.underlying t = some (.map k e)) (hk : P.underlying k = some .string)
    (B : Nat) (w0 : World) (r : Nat) (es : List (ByteArray × Value)) (hm : a.eval m = .map (some r)) (n : ByteArray) (u : Value) (hx : a.eval x = .string n) (hv : a.eval v = u)
    (hown : MapS w r es ∧ Below B w0 w) (hB : B ≤ r) (hnew : es.lookup n = none)
    (hK : ∀ w', MapS w' r (es ++ [(n, u)]) ∧ Below B w0 w' → wpList P ops Q rest (a.put o.dst undef) w') :
    wpList P ops Q (o :: rest) a w := by
  obtain ⟨⟨arr, clk, hb, he⟩, hbel⟩ := hown
  refine wpList_plain hg fun K' hK' => ?_
  have hf := findS_none arr.toList es 0 he hnew
  have hc : (Instr.checkKey false 10000 k (.string n)).run P w = .ok () w := MapKept.run_checkKey (k := .string n) hk (by simp [MapKept.IsKey]) false 9999
  have hrun : (Instr.mapUpdate t (.map (some r)) (.string n) u).run P w = .ok () { w with heap := w.heap.setIfInBounds r (.map (arr.push { key := .string n, val := u, born := clk }) (clk + 1)) } := by
    simp [Instr.mapUpdate, run_underlying ht, MapKept.run_getObj_map hb, hc, MapKept.run_findKey hk hf, MapKept.run_setObj_map _ hb, Result.andThen]
  have hh := MapKept.heap_set (o' := .map (arr.push { key := .string n, val := u, born := clk }) (clk + 1)) hb
  have hbr : Below r w { w with heap := w.heap.setIfInBounds r (.map (arr.push { key := .string n, val := u, born := clk }) (clk + 1)) } :=
    ⟨rfl, rfl, rfl, by simp, fun i hi => hh.2 i (by omega)⟩
  unfold Oper.wp
  simp [execOp, hop, hm, hx, hv, hrun, Result.andThen]
  refine hK' _ _ (hK _ ⟨⟨_, _, hh.1, ?_⟩, hbel.trans (hbr.mono hB)⟩)
  simp [he]
/-- With ok: there or not. -/
theorem run_lookup_okS {P : Program} (w : World) (t k e : TypeId) (ht : P.underlying t = some (.map k e)) (hk : P.underlying k = some .string) (z : Value) (hz : (zeroValue e).run P w = .ok z w) (r : Nat) (es : List (ByteArray × Value)) (n : ByteArray) (hown : MapS w r es) :
    (Instr.lookup t (.map (some r)) (.string n) true).run P w = .ok (.tuple #[(es.lookup n).getD z, .bool (es.lookup n).isSome]) w := by
  obtain ⟨arr, clk, hb, he⟩ := hown
  have hc : ∀ b, (Instr.checkKey b 10000 k (.string n)).run P w = .ok () w := fun b => MapKept.run_checkKey (k := .string n) hk (by simp [MapKept.IsKey]) b 9999
  cases hl : es.lookup n with
  | none =>
    have hf := findS_none arr.toList es 0 he hl
    simp [Instr.lookup, run_underlying ht, MapKept.run_getObj_map hb, hc, MapKept.run_findKey hk hf, hz, Result.andThen]
  | some u =>
    obtain ⟨j, hf⟩ := findS_some arr.toList es 0 he hl
    simp [Instr.lookup, run_underlying ht, MapKept.run_getObj_map hb, hc, MapKept.run_findKey hk hf, Result.andThen]
end Culp.Gr
namespace Go.Proofs.YtnhdbjhdmdefmaaDoor
set_option linter.unusedSimpArgs false
set_option linter.unusedVariables false
open Go.RowKit Culp Culp.Gr
/-- What words begin. -/
def begTable : List (ByteArray × Value) :=
  let f (n : Nat) : Value := .func (.func n) #[] #[]
  [(by_ sFn, f 47), (by_ sRec, f 48), (by_ sLet, f 49), (by_ sIf, f 50)]
set_option maxHeartbeats 1600000 in
theorem begins_any (w : World) : Calls Tryd.prog 30 #[] w (fun E w' => ∃ r, E = .returned (.map (some r)) ∧ MapS w' r begTable ∧ Below w.heap.size w w') := by
  have hmm := @run_makeMap Tryd.prog
  have hk1 : MapS (w.alloc (.map #[] 0)) w.heap.size [] ∧ Below w.heap.size w (w.alloc (.map #[] 0)) := ⟨MapS.made w, (Below.refl _ _).alloc (Nat.le_refl _) _⟩
  go_enter Tryd.func30, Tryd.ntmps30
  go_wp2_with (refine wpList_insert_newS _ rfl _ _ _ 81 rfl 9 79 Tryd.underlying81 Tryd.underlying9 w.heap.size w w.heap.size _ rfl _ _ rfl rfl hk1 (by omega) (by first | rfl | kernel_rfl) ?_; intro w4 hk2; replace hk1 := hk2; clear hk2; simp only [List.nil_append, List.cons_append] at hk1)
  go_ret
  exact ⟨_, rfl, hk1.1, hk1.2⟩
set_option maxHeartbeats 1600000 in
theorem ranked_any (s : List UInt8) (w : World) : Calls Tryd.prog 52 #[.string (by_ s)] w (fun E w' => E = .returned (.tuple #[.int .i8 ((ranked s).1 : Nat), .int .i64 (((ranked s).2 : Nat) - 1)]) ∧ w' = w) := by
  go_enter Tryd.func52, Tryd.ntmps52
  by_cases x0 : s = [61, 61]
  · subst x0
    have e0 : ((by_ [61, 61]).toList == [61, 61]) = true := by rw [by_list]; decide
    go_wp2_with fail
    exact bodyPost_ret (v := .tuple #[.int .i8 14, .int .i64 0]) (by simp [results, Tryd.results52, go_sem]) rfl ⟨rfl, rfl⟩
  by_cases x1 : s = [60]
  · subst x1
    have e0 : ((by_ [60]).toList == [61, 61]) = false := by rw [by_list]; decide
    have e1 : ((by_ [60]).toList == [60]) = true := by rw [by_list]; decide
    clear x0
    go_wp2_with fail
    exact bodyPost_ret (v := .tuple #[.int .i8 15, .int .i64 0]) (by simp [results, Tryd.results52, go_sem]) rfl ⟨rfl, rfl⟩
  by_cases x2 : s = [43]
  · subst x2
    have e0 : ((by_ [43]).toList == [61, 61]) = false := by rw [by_list]; decide
    have e1 : ((by_ [43]).toList == [60]) = false := by rw [by_list]; decide
    have e2 : ((by_ [43]).toList == [43]) = true := by rw [by_list]; decide
    clear x0 x1
    go_wp2_with fail
    exact bodyPost_ret (v := .tuple #[.int .i8 10, .int .i64 1]) (by simp [results, Tryd.results52, go_sem]) rfl ⟨rfl, rfl⟩
  by_cases x3 : s = [45]
  · subst x3
    have e0 : ((by_ [45]).toList == [61, 61]) = false := by rw [by_list]; decide
    have e1 : ((by_ [45]).toList == [60]) = false := by rw [by_list]; decide
    have e2 : ((by_ [45]).toList == [43]) = false := by rw [by_list]; decide
    have e3 : ((by_ [45]).toList == [45]) = true := by rw [by_list]; decide
    clear x0 x1 x2
    go_wp2_with fail
    exact bodyPost_ret (v := .tuple #[.int .i8 11, .int .i64 1]) (by simp [results, Tryd.results52, go_sem]) rfl ⟨rfl, rfl⟩
  by_cases x4 : s = [43, 43]
  · subst x4
    have e0 : ((by_ [43, 43]).toList == [61, 61]) = false := by rw [by_list]; decide
    have e1 : ((by_ [43, 43]).toList == [60]) = false := by rw [by_list]; decide
    have e2 : ((by_ [43, 43]).toList == [43]) = false := by rw [by_list]; decide
    have e3 : ((by_ [43, 43]).toList == [45]) = false := by rw [by_list]; decide
    have e4 : ((by_ [43, 43]).toList == [43, 43]) = true := by rw [by_list]; decide
    clear x0 x1 x2 x3
    go_wp2_with fail
    exact bodyPost_ret (v := .tuple #[.int .i8 13, .int .i64 1]) (by simp [results, Tryd.results52, go_sem]) rfl ⟨rfl, rfl⟩
  by_cases x5 : s = [42]
  · subst x5
    have e0 : ((by_ [42]).toList == [61, 61]) = false := by rw [by_list]; decide
    have e1 : ((by_ [42]).toList == [60]) = false := by rw [by_list]; decide
    have e2 : ((by_ [42]).toList == [43]) = false := by rw [by_list]; decide
    have e3 : ((by_ [42]).toList == [45]) = false := by rw [by_list]; decide
    have e4 : ((by_ [42]).toList == [43, 43]) = false := by rw [by_list]; decide
    have e5 : ((by_ [42]).toList == [42]) = true := by rw [by_list]; decide
    clear x0 x1 x2 x3 x4
    go_wp2_with fail
    exact bodyPost_ret (v := .tuple #[.int .i8 12, .int .i64 2]) (by simp [results, Tryd.results52, go_sem]) rfl ⟨rfl, rfl⟩
  have e0 : ((by_ s).toList == [61, 61]) = false := by rw [by_list]; exact beq_eq_false_iff_ne.2 x0
  have e1 : ((by_ s).toList == [60]) = false := by rw [by_list]; exact beq_eq_false_iff_ne.2 x1
  have e2 : ((by_ s).toList == [43]) = false := by rw [by_list]; exact beq_eq_false_iff_ne.2 x2
  have e3 : ((by_ s).toList == [45]) = false := by rw [by_list]; exact beq_eq_false_iff_ne.2 x3
  have e4 : ((by_ s).toList == [43, 43]) = false := by rw [by_list]; exact beq_eq_false_iff_ne.2 x4
  have e5 : ((by_ s).toList == [42]) = false := by rw [by_list]; exact beq_eq_false_iff_ne.2 x5
  have hn : ranked s = (0, 0) := by unfold ranked; rw [if_neg x0, if_neg x1, if_neg x2, if_neg x3, if_neg x4, if_neg x5]
  rw [hn]
  clear hn x0 x1 x2 x3 x4 x5
  go_wp2_with fail
  exact bodyPost_ret (v := .tuple #[.int .i8 0, .int .i64 (-1)]) (by simp [results, Tryd.results52, go_sem]) rfl ⟨rfl, rfl⟩
set_option maxHeartbeats 1600000 in
theorem applied_any (s : List UInt8) (w : World) : Calls Tryd.prog 81 #[.string (by_ s)] w (fun E w' => E = .returned (.int .i8 (applied s : Nat)) ∧ w' = w) := by
  go_enter Tryd.func81, Tryd.ntmps81
  by_cases x0 : s = [98, 111, 120]
  · subst x0
    have e0 : ((by_ [98, 111, 120]).toList == [98, 111, 120]) = true := by rw [by_list]; decide
    go_wp2_with fail
    go_ret
    exact ⟨rfl, rfl⟩
  by_cases x1 : s = [115, 105, 122, 101]
  · subst x1
    have e0 : ((by_ [115, 105, 122, 101]).toList == [98, 111, 120]) = false := by rw [by_list]; decide
    have e1 : ((by_ [115, 105, 122, 101]).toList == [115, 105, 122, 101]) = true := by rw [by_list]; decide
    clear x0
    go_wp2_with fail
    go_ret
    exact ⟨rfl, rfl⟩
  by_cases x2 : s = [102, 105, 114, 115, 116]
  · subst x2
    have e0 : ((by_ [102, 105, 114, 115, 116]).toList == [98, 111, 120]) = false := by rw [by_list]; decide
    have e1 : ((by_ [102, 105, 114, 115, 116]).toList == [115, 105, 122, 101]) = false := by rw [by_list]; decide
    have e2 : ((by_ [102, 105, 114, 115, 116]).toList == [102, 105, 114, 115, 116]) = true := by rw [by_list]; decide
    clear x0 x1
    go_wp2_with fail
    go_ret
    exact ⟨rfl, rfl⟩
  by_cases x3 : s = [115, 101, 99, 111, 110, 100]
  · subst x3
    have e0 : ((by_ [115, 101, 99, 111, 110, 100]).toList == [98, 111, 120]) = false := by rw [by_list]; decide
    have e1 : ((by_ [115, 101, 99, 111, 110, 100]).toList == [115, 105, 122, 101]) = false := by rw [by_list]; decide
    have e2 : ((by_ [115, 101, 99, 111, 110, 100]).toList == [102, 105, 114, 115, 116]) = false := by rw [by_list]; decide
    have e3 : ((by_ [115, 101, 99, 111, 110, 100]).toList == [115, 101, 99, 111, 110, 100]) = true := by rw [by_list]; decide
    clear x0 x1 x2
    go_wp2_with fail
    go_ret
    exact ⟨rfl, rfl⟩
  by_cases x4 : s = [104, 101, 97, 100]
  · subst x4
    have e0 : ((by_ [104, 101, 97, 100]).toList == [98, 111, 120]) = false := by rw [by_list]; decide
    have e1 : ((by_ [104, 101, 97, 100]).toList == [115, 105, 122, 101]) = false := by rw [by_list]; decide
    have e2 : ((by_ [104, 101, 97, 100]).toList == [102, 105, 114, 115, 116]) = false := by rw [by_list]; decide
    have e3 : ((by_ [104, 101, 97, 100]).toList == [115, 101, 99, 111, 110, 100]) = false := by rw [by_list]; decide
    have e4 : ((by_ [104, 101, 97, 100]).toList == [104, 101, 97, 100]) = true := by rw [by_list]; decide
    clear x0 x1 x2 x3
    go_wp2_with fail
    go_ret
    exact ⟨rfl, rfl⟩
  by_cases x5 : s = [116, 97, 105, 108]
  · subst x5
    have e0 : ((by_ [116, 97, 105, 108]).toList == [98, 111, 120]) = false := by rw [by_list]; decide
    have e1 : ((by_ [116, 97, 105, 108]).toList == [115, 105, 122, 101]) = false := by rw [by_list]; decide
    have e2 : ((by_ [116, 97, 105, 108]).toList == [102, 105, 114, 115, 116]) = false := by rw [by_list]; decide
    have e3 : ((by_ [116, 97, 105, 108]).toList == [115, 101, 99, 111, 110, 100]) = false := by rw [by_list]; decide
    have e4 : ((by_ [116, 97, 105, 108]).toList == [104, 101, 97, 100]) = false := by rw [by_list]; decide
    have e5 : ((by_ [116, 97, 105, 108]).toList == [116, 97, 105, 108]) = true := by rw [by_list]; decide
    clear x0 x1 x2 x3 x4
    go_wp2_with fail
    go_ret
    exact ⟨rfl, rfl⟩
  by_cases x6 : s = [101, 109, 112, 116, 121]
  · subst x6
    have e0 : ((by_ [101, 109, 112, 116, 121]).toList == [98, 111, 120]) = false := by rw [by_list]; decide
    have e1 : ((by_ [101, 109, 112, 116, 121]).toList == [115, 105, 122, 101]) = false := by rw [by_list]; decide
    have e2 : ((by_ [101, 109, 112, 116, 121]).toList == [102, 105, 114, 115, 116]) = false := by rw [by_list]; decide
    have e3 : ((by_ [101, 109, 112, 116, 121]).toList == [115, 101, 99, 111, 110, 100]) = false := by rw [by_list]; decide
    have e4 : ((by_ [101, 109, 112, 116, 121]).toList == [104, 101, 97, 100]) = false := by rw [by_list]; decide
    have e5 : ((by_ [101, 109, 112, 116, 121]).toList == [116, 97, 105, 108]) = false := by rw [by_list]; decide
    have e6 : ((by_ [101, 109, 112, 116, 121]).toList == [101, 109, 112, 116, 121]) = true := by rw [by_list]; decide
    clear x0 x1 x2 x3 x4 x5
    go_wp2_with fail
    go_ret
    exact ⟨rfl, rfl⟩
  by_cases x7 : s = [99, 111, 110, 115]
  · subst x7
    have e0 : ((by_ [99, 111, 110, 115]).toList == [98, 111, 120]) = false := by rw [by_list]; decide
    have e1 : ((by_ [99, 111, 110, 115]).toList == [115, 105, 122, 101]) = false := by rw [by_list]; decide
    have e2 : ((by_ [99, 111, 110, 115]).toList == [102, 105, 114, 115, 116]) = false := by rw [by_list]; decide
    have e3 : ((by_ [99, 111, 110, 115]).toList == [115, 101, 99, 111, 110, 100]) = false := by rw [by_list]; decide
    have e4 : ((by_ [99, 111, 110, 115]).toList == [104, 101, 97, 100]) = false := by rw [by_list]; decide
    have e5 : ((by_ [99, 111, 110, 115]).toList == [116, 97, 105, 108]) = false := by rw [by_list]; decide
    have e6 : ((by_ [99, 111, 110, 115]).toList == [101, 109, 112, 116, 121]) = false := by rw [by_list]; decide
    have e7 : ((by_ [99, 111, 110, 115]).toList == [99, 111, 110, 115]) = true := by rw [by_list]; decide
    clear x0 x1 x2 x3 x4 x5 x6
    go_wp2_with fail
    go_ret
    exact ⟨rfl, rfl⟩
  have e0 : ((by_ s).toList == [98, 111, 120]) = false := by rw [by_list]; exact beq_eq_false_iff_ne.2 x0
  have e1 : ((by_ s).toList == [115, 105, 122, 101]) = false := by rw [by_list]; exact beq_eq_false_iff_ne.2 x1
  have e2 : ((by_ s).toList == [102, 105, 114, 115, 116]) = false := by rw [by_list]; exact beq_eq_false_iff_ne.2 x2
  have e3 : ((by_ s).toList == [115, 101, 99, 111, 110, 100]) = false := by rw [by_list]; exact beq_eq_false_iff_ne.2 x3
  have e4 : ((by_ s).toList == [104, 101, 97, 100]) = false := by rw [by_list]; exact beq_eq_false_iff_ne.2 x4
  have e5 : ((by_ s).toList == [116, 97, 105, 108]) = false := by rw [by_list]; exact beq_eq_false_iff_ne.2 x5
  have e6 : ((by_ s).toList == [101, 109, 112, 116, 121]) = false := by rw [by_list]; exact beq_eq_false_iff_ne.2 x6
  have e7 : ((by_ s).toList == [99, 111, 110, 115]) = false := by rw [by_list]; exact beq_eq_false_iff_ne.2 x7
  have hn : applied s = 0 := by unfold applied; rw [if_neg x0, if_neg x1, if_neg x2, if_neg x3, if_neg x4, if_neg x5, if_neg x6, if_neg x7]
  rw [hn]
  clear hn x0 x1 x2 x3 x4 x5 x6 x7
  go_wp2_with fail
  go_ret
  exact ⟨rfl, rfl⟩
set_option maxHeartbeats 1600000 in
theorem node_any (k x y : Int) (A : Option Addr) (n c : Nat) (w : World) : Calls Tryd.prog 33 #[.int .i8 k, .agg #[.int .i64 x, .int .i64 y], .slice A n c] w (fun E w' => ∃ b, E = .returned (.pointer (some ⟨b, 0, none⟩)) ∧ w.heap.size ≤ b ∧ Below w.heap.size w w' ∧ Blk b #[.int .i8 k, .int .i64 n, .int .i64 0, .string { data := #[] }, .string { data := #[] }, .string { data := #[] }, .int .i64 x, .int .i64 y, .slice A n c] 88 w') := by
  go_enter Tryd.func33, Tryd.ntmps33
  go_wp2_with fail
  go_ret
  exact ⟨_, rfl, by simp, ((Below.refl w.heap.size w).alloc (Nat.le_refl _) _).alloc (by simp) _, Blk.alloc2 _ _ _ _⟩
end Go.Proofs.YtnhdbjhdmdefmaaDoor


/- Memory: a row of branches that grows. -/
import Derived.Test.YtnhdbjhdmdefmaaDoorZl
namespace Culp.Gr
set_option linter.unusedSimpArgs false
set_option linter.unusedVariables false
open Go Go.RowKit Culp Culp.Tr Go.Proofs.YtnhdbjhdmdefmaaDoor
/-- A row of branches of this call's own; its spare room is empty. -/
def RowZ (base : Nat) (w : World) (v : Value) (ps : List Value) : Prop := ∃ (g : Nat) (sp : List Value), v = .slice (some ⟨g, 0, none⟩) ps.length (ps.length + sp.length) ∧ base ≤ g ∧ w.heap[g]? = some (.cells (ps ++ sp).toArray 55 (0, 0)) ∧ ∀ u ∈ sp, u = .pointer none
section
variable {base g x q n : Nat} {w w' w1 : World} {v : Value} {ps qs : List Value}
theorem RowZ.kb (h : RowZ base w v ps) (k : KB w w') : RowZ base w' v ps := by
  obtain ⟨g, sp, h1, h2, h3, h4⟩ := h
  exact ⟨g, sp, h1, h2, k _ _ _ _ h3 (.inr rfl), h4⟩
theorem RowZ.kids (h : RowZ base w v ps) : KidsV w v ps := by
  obtain ⟨g, sp, h1, h2, h3, h4⟩ := h
  refine ⟨_, _, h1, by omega, fun _ => ⟨g, _, _, rfl, h3, fun j u hj => ?_⟩⟩
  have hl := (List.getElem?_eq_some_iff.1 hj).1
  simp only [List.getElem?_toArray]
  rw [List.getElem?_append_left hl]
  exact hj
theorem RowZ.one (hb : base ≤ w.heap.size) : RowZ base (w.alloc (.cells #[v] 55)) (.slice (some ⟨w.heap.size, 0, none⟩) 1 1) [v] :=
  ⟨_, [], rfl, hb, Blk.alloc _ _ _, fun u hu => by cases hu⟩
theorem BrL.ptr : ∀ (f : F) {ps : List Value}, BrL w ps f → ∀ (j : Nat) (u : Value), ps[j]? = some u → ∃ b, u = .pointer (some ⟨b, 0, none⟩)
  | .nil, ps, h, j, u, hj => by have h : ps = [] := h; subst h; simp at hj
  | .cons x ks r, ps, h, j, u, hj => by
    obtain ⟨b, kv, kps, rest, rfl, -, -, -, h5⟩ := h
    cases j with
    | zero => simp at hj; exact ⟨b, hj.symm⟩
    | succ j => exact BrL.ptr r h5 j u (by simpa using hj)
/-- A cell that held nothing may be written. -/
theorem BrL.put {cur cur' : Array Value} (hg : w.heap[g]? = some (.cells cur 55 (0, 0))) (hn : ∀ u, cur[n]? = some u → u = .pointer none) (hc : ∀ j, j ≠ n → ∀ u, cur[j]? = some u → cur'[j]? = some u) : ∀ (f : F) {ps : List Value}, BrL w ps f → BrL (w.setRow g cur') ps f
  | .nil, ps, h => h
  | .cons x ks r, ps, h => by
    obtain ⟨b, kv, kps, rest, h1, h2, h3, h4, h5⟩ := h
    have hbg : b ≠ g := fun e => by
      rw [e, hg] at h2
      simp only [Option.some.injEq, Obj.cells.injEq] at h2
      exact absurd h2.2.1 (by decide)
    refine ⟨b, kv, kps, rest, h1, by rw [setRow_heap_ne hbg]; exact h2, ?_, BrL.put hg hn hc ks h4, BrL.put hg hn hc r h5⟩
    obtain ⟨A, c, k1, k2, k3⟩ := h3
    refine ⟨A, c, k1, k2, fun h0 => ?_⟩
    obtain ⟨g2, cur2, fr, k4, k5, k6⟩ := k3 h0
    by_cases he : g2 = g
    · subst he
      rw [hg] at k5
      simp only [Option.some.injEq, Obj.cells.injEq] at k5
      obtain ⟨rfl, -, rfl⟩ := k5
      refine ⟨g2, cur', (0, 0), k4, setRow_heap w g2 cur _ _ _ hg, fun j u hj => ?_⟩
      have hj2 := k6 j u hj
      by_cases hjn : j = n
      · subst hjn
        have e1 := hn u hj2
        obtain ⟨b2, e2⟩ := BrL.ptr ks h4 j u hj
        rw [e1] at e2
        cases e2
      · exact hc j hjn u hj2
    · exact ⟨g2, cur2, fr, k4, by rw [setRow_heap_ne he]; exact k5, k6⟩
theorem Went.row {pb B i : Nat} {L : List Tok} {tv lv : Value} {e : Nat × Nat} {lg : List Nat} {cur cur' : Array Value} (h : Went pb B L tv e lv i lg w w1) (hg : w1.heap[g]? = some (.cells cur 55 (0, 0))) (hb : w.heap.size ≤ g) : Went pb B L tv e lv i lg w (w1.setRow g cur') := by
  obtain ⟨lv2, k1, k2, k3⟩ := h
  have hbl : Blk g cur 55 w1 := hg
  exact ⟨lv2, keepN_row k1 hb, k2.row (k2.ne hbl (by decide)) (own_type_ne k2.toks hbl (by decide)) (k2.nel hbl (by decide)), k3⟩
end
end Culp.Gr
namespace Go.Proofs.YtnhdbjhdmdefmaaDoor
set_option linter.unusedSimpArgs false
set_option linter.unusedVariables false
open Go.RowKit Culp Culp.Tr Culp.Gr
theorem ptr_info : (Tryd.prog.info? 55).map (fun i => (i.zero, i.size, i.bytes)) = some (some (.pointer none), 1, 8) := by kernel_rfl
theorem zero_get (n : Nat) (u : Value) (h : u ∈ (Builtin.zeroCells #[Value.pointer none] n).toList) : u = .pointer none := by
  unfold Builtin.zeroCells at h
  rw [Array.toList_map, List.mem_map] at h
  obtain ⟨k, -, rfl⟩ := h
  rw [show k % (#[Value.pointer none] : Array Value).size = 0 from Nat.mod_one k]
  rfl
/-- One more. -/
theorem kids_app {w : World} {base x q : Nat} {v : Value} {ps : List Value} (h : RowZ base w v ps) (hx : w.heap[x]? = some (.cells #[.pointer (some ⟨q, 0, none⟩)] 55 (0, 0))) (hbase : base ≤ w.heap.size) (hlen : ps.length ≤ 100000) :
    ∃ v' w', (Builtin.append_ #[86, 86] 86 #[v, .slice (some ⟨x, 0, none⟩) 1 1]).run Tryd.prog w = .ok v' w' ∧ RowZ base w' v' (ps ++ [.pointer (some ⟨q, 0, none⟩)]) ∧ (∀ (f : F) (qs : List Value), BrL w qs f → BrL w' qs f) ∧
      (∀ (pb B : Nat) (L : List Tok) (tv : Value) (e : Nat × Nat) (lv : Value) (i : Nat) (lg : List Nat) (W : World), W.heap.size ≤ base → Went pb B L tv e lv i lg W w → Went pb B L tv e lv i lg W w') := by
  obtain ⟨i, hi, hz0, hz1, hz2⟩ := info_parts ptr_info
  obtain ⟨g, sp, rfl, hB, hg, hsp⟩ := h
  have hnews : ∀ (j : Nat) (u : Value), [Value.pointer (some ⟨q, 0, none⟩)][j]? = some u → w.cell? ((⟨x, 0, none⟩ : Addr).add j) = some u := fun j u hj => by
    rw [Addr.add_lit, Nat.zero_add]
    simpa [World.cell?, hx] using hj
  cases sp with
  | cons s sp =>
    have hr := run_append_room (P := Tryd.prog) w 86 86 55 i Tryd.underlying86 hi g ps.length (ps.length + (s :: sp).length) _ hg ⟨x, 0, none⟩ 1 1 [.pointer (some ⟨q, 0, none⟩)] (by rw [hz1]; rfl) hnews (by intro u hu; simp at hu; subst hu; rfl) (by simp) (by rw [hz1]; simp)
    have e1 : (((ps ++ s :: sp).toArray.toList.take (ps.length * i.size) ++ [Value.pointer (some ⟨q, 0, none⟩)] ++ (ps ++ s :: sp).toArray.toList.drop (ps.length * i.size + [Value.pointer (some ⟨q, 0, none⟩)].length)).toArray) = ((ps ++ [Value.pointer (some ⟨q, 0, none⟩)]) ++ sp).toArray := by
      rw [hz1, Nat.mul_one]
      simp only [List.toList_toArray, List.length_singleton]
      rw [List.take_left, List.drop_append]
      simp
    rw [e1] at hr
    refine ⟨_, _, hr, ⟨g, sp, by simp; omega, hB, setRow_heap w g _ _ _ _ hg, fun u hu => hsp u (List.mem_cons_of_mem _ hu)⟩, fun f qs hf => BrL.put hg (n := ps.length) (fun u hu => ?_) (fun j hj u hu => ?_) f hf, fun pb B L tv e lv k lg W hW hw => hw.row hg (by omega)⟩
    · simp only [List.getElem?_toArray] at hu
      rw [List.getElem?_append_right (Nat.le_refl _), Nat.sub_self] at hu
      simp at hu
      subst hu
      exact hsp _ List.mem_cons_self
    · simp only [List.getElem?_toArray] at hu ⊢
      rw [List.append_assoc]
      by_cases hjl : j < ps.length
      · rw [List.getElem?_append_left hjl] at hu ⊢
        exact hu
      · rw [List.getElem?_append_right (by omega)] at hu ⊢
        obtain ⟨k, hk⟩ : ∃ k, j - ps.length = k + 1 := ⟨j - ps.length - 1, by omega⟩
        rw [hk] at hu ⊢
        simpa using hu
  | nil =>
    have hr := run_append_grow (P := Tryd.prog) w 86 86 55 i (.pointer none) Tryd.underlying86 hi hz0 ⟨g, 0, none⟩ ps.length (ps.length + 0) ps (by rw [hz1]; omega) (fun j u hj => by
      rw [Addr.add_lit, Nat.zero_add]
      simp only [World.cell?, hg]
      simpa using hj) ⟨x, 0, none⟩ 1 1 [.pointer (some ⟨q, 0, none⟩)] (by rw [hz1]; rfl) hnews (by omega) (by omega) (growslice_fits (by omega) (by rw [hz2]; omega))
    have hge := grownCap_ge w (ps.length + 1) (ps.length + 0) 55
    generalize grownCap w (ps.length + 1) (ps.length + 0) 55 = G at hr hge
    have hb : Below w.heap.size w (w.drew.alloc (.cells (ps.toArray ++ [Value.pointer (some ⟨q, 0, none⟩)].toArray ++ Builtin.zeroCells (Value.pointer none).cells (G - (ps.length + 1))) 55)) := (Below.refl _ _).drew.alloc (Nat.le_refl _) _
    refine ⟨_, _, hr, ⟨w.heap.size, (Builtin.zeroCells #[Value.pointer none] (G - (ps.length + 1))).toList, ?_, hbase, ?_, fun u hu => zero_get _ _ hu⟩, fun f qs hf => BrL.kb f hf (KB.below hb), fun pb B L tv e lv k lg W hW hw => hw.later hb⟩
    · simp [size_zeroCells]
      omega
    · refine (heap_alloc_new w.drew _).trans ?_
      have ea : ps.toArray ++ [Value.pointer (some ⟨q, 0, none⟩)].toArray ++ Builtin.zeroCells (Value.pointer none).cells (G - (ps.length + 1)) = (ps ++ [Value.pointer (some ⟨q, 0, none⟩)] ++ (Builtin.zeroCells #[Value.pointer none] (G - (ps.length + 1))).toList).toArray := by
        apply Array.ext'
        rw [show (Value.pointer none).cells = #[Value.pointer none] from rfl]
        simp
      exact congrArg (fun c => some (Obj.cells c 55 (0, 0))) ea
end Go.Proofs.YtnhdbjhdmdefmaaDoor

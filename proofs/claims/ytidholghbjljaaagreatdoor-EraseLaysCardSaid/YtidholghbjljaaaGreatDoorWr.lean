
/- Memory: rows copied; a skeleton some of whose rows are one's own. No program in sight. -/
import Derived.Test.YtidholghbjljaaaGreatDoorWd
import Derived.Test.YtidholghbjljaaaGreatDoorWf
import Derived.Test.YtidholghbjljaaaGreatDoorFq
namespace Culp.Er
set_option linter.unusedSimpArgs false
set_option linter.unusedVariables false
open Go Go.RowKit Culp
/-- A row's cells, all of them. -/
def rowCells (w : World) (b o n : Nat) : List Value := (List.range n).map fun j => (w.cell? ⟨b, o + j, none⟩).getD undef
theorem rowCells_len (w : World) (b o n : Nat) : (rowCells w b o n).length = n := by simp [rowCells]
theorem rowCells_at {w : World} {b o n j : Nat} {u : Value} (h : ∀ j, j < n → ∃ u, w.cell? ⟨b, o + j, none⟩ = some u ∧ u.oneCell' = true) (hj : (rowCells w b o n)[j]? = some u) : w.cell? ⟨b, o + j, none⟩ = some u ∧ j < n ∧ u.oneCell' = true := by
  unfold rowCells at hj
  rw [List.getElem?_map, Option.map_eq_some_iff] at hj
  obtain ⟨i, hi, rfl⟩ := hj
  obtain ⟨hi1, hi2⟩ := List.getElem?_eq_some_iff.1 hi
  rw [List.getElem_range] at hi2
  rw [List.length_range] at hi1
  subst hi2
  obtain ⟨u, h1, h2⟩ := h j hi1
  rw [h1]
  exact ⟨rfl, hi1, h2⟩
theorem wpList_valr {P : Program} {ops : Array Oper} {rest : List Oper} {o : Oper} {a : Act} {Q : Exit → Act → World → Prop} {w w' : World} {v' : Value} (hgd : o.guard = none) (hr : (execOp a.eval o).run P w = .ok (.value v') w') (h : wpList P ops Q rest (a.put o.dst v') w') : wpList P ops Q (o :: rest) a w :=
  wpList_plain hgd fun K hK => by
    unfold Oper.wp
    rw [hr, Oper.upon_value]
    exact hK _ _ h
/-- A slice copied into memory of its own. -/
theorem run_append_copy {P : Program} {w : World} (t ty e : TypeId) (z : Value) (size bytes : Nat) (ht : P.underlying t = some (.slice e)) (hi : (P.info? e).map (fun i => (i.zero, i.size, i.bytes)) = some (some z, size, bytes))
    (hzs : z.cells.size = size) (h0 : 0 < size) (A : Option Addr) (n c b q : Nat) (hA : 0 < n → A = some ⟨b, q, none⟩)
    (hc : ∀ j, j < n * size → ∃ u, w.cell? ⟨b, q + j, none⟩ = some u ∧ u.oneCell' = true) (h63 : n ≤ 1000000000000000) (hbytes : n * bytes ≤ 140737488355328) :
    ∃ v' w' g, (Builtin.append_ #[t, t] ty #[.slice none 0 0, .slice A n c]).run P w = .ok v' w' ∧ Below w.heap.size w w' ∧ SlOk v' g 0 n ∧ (n = 0 → v' = .slice none 0 0) ∧ (0 < n → w.heap.size ≤ g ∧ GoodV v' g size e w' ∧ ∀ j, j < n * size → w'.cell? ⟨g, j, none⟩ = w.cell? ⟨b, q + j, none⟩) := by
  obtain ⟨i, hi, hz, hz1, hz2⟩ := info_parts hi
  have hnone : w.ownsRow w.heap.size e size (.slice none 0 0) 0 [] := ⟨by simp, .inl ⟨rfl, rfl⟩⟩
  cases A with
  | none =>
    rcases Nat.eq_zero_or_pos n with hn | hn
    · subst hn
      exact ⟨.slice none 0 0, w, 0, run_append_none w w.heap.size t _ e i size ht hi (.slice none 0 0) 0 [] hnone c, Below.refl _ _, ⟨none, 0, rfl, Nat.le_refl _, fun h => by omega⟩, fun _ => rfl, fun h => by omega⟩
    · cases hA hn
  | some ad =>
    rcases Nat.eq_zero_or_pos n with hn0 | hn0
    · subst hn0
      refine ⟨.slice none 0 0, w, 0, ?_, Below.refl _ _, ⟨none, 0, rfl, Nat.le_refl _, fun h => by omega⟩, fun _ => rfl, fun h => by omega⟩
      simp [Builtin.append_, run_underlying ht, Go.sizeOf, typeInfo, hi, Builtin.lenOf, Builtin.firstCells, loadCells, loadCellsFrom]
    have had : ∀ j u, (rowCells w b q (n * size))[j]? = some u → w.cell? (ad.add j) = some u := fun j u hj => by
      obtain ⟨h1, h2, h3⟩ := rowCells_at hc hj
      have hn : 0 < n := Nat.pos_of_ne_zero fun h => by subst h; simp at h2
      have he := hA hn
      injection he with he
      subst he
      have e1 : (⟨b, q, none⟩ : Addr).add j = ⟨b, q + j, none⟩ := by
        unfold Addr.add
        split
        · rename_i h0; subst h0; rfl
        · rfl
      rw [e1]; exact h1
    obtain ⟨v', w', hr, hown, hg, _⟩ := run_append_own (P := P) (w := w) w.heap.size t ty e i z size bytes ht hi hz hz1 hz2 hzs h0 (.slice none 0 0) 0 [] hnone ad n c (rowCells w b q (n * size)) (rowCells_len _ _ _ _) had (fun u hu => by
      obtain ⟨j, hj⟩ := List.mem_iff_getElem?.1 hu
      exact (rowCells_at hc hj).2.2) (by unfold maxLen; omega) (by rw [Nat.zero_add]; exact hbytes) (Nat.le_refl _)
    rw [Nat.zero_add, List.nil_append] at hown
    have hb : Below w.heap.size w w' := (Below.refl w.heap.size w).grown hg (Nat.le_refl _) fun k hk => by cases hk
    rcases hown.2 with ⟨rfl, hn⟩ | ⟨g, cap, cur, rfl, hg0, hh, hnc, hcm, hsz, htk⟩
    · omega
    · refine ⟨_, w', g, hr, hb, ⟨_, cap, rfl, hnc, fun _ => rfl⟩, fun h => by omega, fun hn => ⟨hg0, ⟨n, cap, cur, rfl, hnc, hcm, hh, hsz⟩, fun j hj => ?_⟩⟩
      obtain ⟨u, h1, h2⟩ := hc j hj
      rw [hown.cellAt j hj, h1]
      unfold rowCells
      rw [List.getElem?_map, List.getElem?_range hj]
      simp [h1]
/-- Some rows are one's own: no two of them share a block; the others lie below. -/
structure Mixed (sk : Sk) (H : Nat) (L : List Md) (D : Row → Prop) (w : World) : Prop where
  inj : ∀ r r' : Row, D r → D r' → r.has L → r'.has L → r.blk sk = r'.blk sk → r = r'
  own : ∀ r : Row, D r → r.has L → H ≤ r.blk sk ∧ r.blk sk < w.heap.size ∧ GoodV (r.val sk) (r.blk sk) r.sz r.ty w
  nil : ∀ r : Row, D r → r.is L → ¬ r.has L → r.val sk = .slice none 0 0
  old : ∀ r : Row, ¬ D r → r.has L → r.blk sk < H
section
variable {sk sk' : Sk} {H : Nat} {L : List Md} {D D' : Row → Prop} {w w' : World} {f : Pos → ByteArray}
theorem Mixed.later (h : Mixed sk H L D w) (hb : Below w.heap.size w w') : Mixed sk H L D w' := ⟨h.inj, fun r hd hr => by
  obtain ⟨h1, h2, h3⟩ := h.own r hd hr
  exact ⟨h1, Nat.lt_of_lt_of_le h2 hb.size, h3.of (hb.block _ h2)⟩, h.nil, h.old⟩
theorem Mixed.set (h : Mixed sk H L D w) (a : Addr) (v : Value) : Mixed sk H L D (w.setCell a v) := ⟨h.inj, fun r hd hr => by
  obtain ⟨h1, h2, h3⟩ := h.own r hd hr
  exact ⟨h1, by rw [World.size_setCell]; exact h2, h3.set a⟩, h.nil, h.old⟩
theorem Mixed.apart {r r' : Row} (h : Mixed sk H L D w) (hd : D r) (hr : r.has L) (hr' : r'.has L) (hne : r ≠ r') : r.blk sk ≠ r'.blk sk := fun e => by
  by_cases hd' : D r'
  · exact hne (h.inj r r' hd hd' hr hr' e)
  · have h1 := h.old r' hd' hr'
    have h2 := (h.own r hd hr).1
    omega
/-- One more row is one's own. -/
theorem Mixed.more (h : Mixed sk H L D w) {r0 : Row} {g : Nat} (hD : ∀ r, D' r ↔ D r ∨ r = r0) (h0 : ¬ D r0) (hb : Below w.heap.size w w') (hH : H ≤ w.heap.size) (hsk : ∀ r, r ≠ r0 → r.blk sk' = r.blk sk ∧ r.val sk' = r.val sk) (hg : r0.blk sk' = g) (hgn : r0.has L → w.heap.size ≤ g ∧ GoodV (r0.val sk') g r0.sz r0.ty w') (hni : ¬ r0.has L → r0.is L → r0.val sk' = .slice none 0 0) : Mixed sk' H L D' w' := by
  have hlt : ∀ r, D r → r.has L → r ≠ r0 := fun r hd _ e => h0 (e ▸ hd)
  refine ⟨fun r r' hd hd' hr hr' e => ?_, fun r hd hr => ?_, fun r hd hi hr => ?_, fun r hd hr => ?_⟩
  · rcases (hD r).1 hd with d1 | d1 <;> rcases (hD r').1 hd' with d2 | d2
    · rw [(hsk r (hlt r d1 hr)).1, (hsk r' (hlt r' d2 hr')).1] at e
      exact h.inj r r' d1 d2 hr hr' e
    · subst d2
      rw [(hsk r (hlt r d1 hr)).1, hg] at e
      have h1 := (h.own r d1 hr).2.1
      have h2 := (hgn hr').1
      omega
    · subst d1
      rw [(hsk r' (hlt r' d2 hr')).1, hg] at e
      have h1 := (h.own r' d2 hr').2.1
      have h2 := (hgn hr).1
      omega
    · rw [d1, d2]
  · rcases (hD r).1 hd with d1 | d1
    · rw [(hsk r (hlt r d1 hr)).1, (hsk r (hlt r d1 hr)).2]
      obtain ⟨h1, h2, h3⟩ := h.own r d1 hr
      exact ⟨h1, Nat.lt_of_lt_of_le h2 hb.size, h3.of (hb.block _ h2)⟩
    · subst d1
      rw [hg]
      obtain ⟨h1, h2⟩ := hgn hr
      refine ⟨by omega, ?_, h2⟩
      obtain ⟨_, _, _, _, _, _, h3, _⟩ := h2
      exact (Array.getElem?_eq_some_iff.1 h3).1
  · by_cases e : r = r0
    · subst e
      exact hni hr hi
    · rw [(hsk r e).2]
      exact h.nil r (((hD r).1 hd).resolve_right e) hi hr
  · have hn : r ≠ r0 := fun e => hd ((hD r).2 (.inr e))
    rw [(hsk r hn).1]
    exact h.old r (fun hd' => hd ((hD r).2 (.inl hd'))) hr
/-- All rows are one's own. -/
theorem Mixed.all (h : Mixed sk H L D w) (hD : ∀ r : Row, r.has L → D r) : Apart sk L := fun r r' hr hr' e => h.inj r r' (hD r hr) (hD r' hr') hr hr' e
theorem Mixed.under (h : Mixed sk H L D w) (hH : H ≤ w.heap.size) : Under sk w.heap.size L := by
  have key : ∀ r : Row, r.has L → r.blk sk < w.heap.size := fun r hr => by
    by_cases hd : D r
    · exact (h.own r hd hr).2.1
    · have := h.old r hd hr; omega
  exact ⟨fun h0 => key .all h0, fun m md hm h0 => key (.imp m) ⟨md, hm, h0⟩, fun m md hm h0 => key (.dfs m) ⟨md, hm, h0⟩, fun m md hm i d hd h0 => key (.nds m i) ⟨md, d, hm, hd, h0⟩⟩
/-- The modules' row is copied. -/
def Sk.row (sk : Sk) (g : Nat) (v : Value) : Sk := { sk with b := g, o := 0, v := v }
def Sk.imp (sk : Sk) (m g : Nat) (v : Value) : Sk := { sk with ib := fun j => if j = m then g else sk.ib j, io := fun j => if j = m then 0 else sk.io j, iv := fun j => if j = m then v else sk.iv j }
def Sk.dfs (sk : Sk) (m g : Nat) (v : Value) : Sk := { sk with db := fun j => if j = m then g else sk.db j, do_ := fun j => if j = m then 0 else sk.do_ j, dv := fun j => if j = m then v else sk.dv j }
def Sk.nds (sk : Sk) (m i g : Nat) (v : Value) : Sk := { sk with tb := fun j k => if j = m ∧ k = i then g else sk.tb j k, to_ := fun j k => if j = m ∧ k = i then 0 else sk.to_ j k, tv := fun j k => if j = m ∧ k = i then v else sk.tv j k }
theorem MAt.row (h : MAt sk w L f) (hu : Under sk w.heap.size L) (hb : Below w.heap.size w w') {g : Nat} {vv : Value} (hc : 0 < L.length → ∀ j, j < L.length * 5 → w'.cell? ⟨g, j, none⟩ = w.cell? ⟨sk.b, sk.o + j, none⟩) : MAt (sk.row g vv) w' L f := fun m md hm => by
  have h' := h.keep hu hb m md hm
  have hl := (List.getElem?_eq_some_iff.1 hm).1
  have hc := hc (by omega)
  obtain ⟨q0, q1, q2, q3, q4⟩ := (h m md hm).cells
  refine ⟨?_, h'.iv, h'.dv, h'.imps, h'.defs, h'.nodes⟩
  have K : ∀ j u, j < 5 → w.cell? ⟨sk.b, sk.o + m * 5 + j, none⟩ = some u → w'.cell? ⟨g, 0 + m * 5 + j, none⟩ = some u := fun j u hj hu => by
    rw [Nat.zero_add, hc (m * 5 + j) (by omega), ← Nat.add_assoc]; exact hu
  exact ⟨K 0 _ (by omega) q0, K 1 _ (by omega) q1, K 2 _ (by omega) q2, K 3 _ (by omega) q3, K 4 _ (by omega) q4⟩
/-- A cell of another row, or another cell. -/
theorem else_cell {b o b' o' : Nat} {u v : Value} (hc : w.cell? ⟨b, o, none⟩ = some u) (hne : b = b' → o ≠ o') : (w.setCell ⟨b', o', none⟩ v).cell? ⟨b, o, none⟩ = some u := by
  rw [World.cell?_setCell_other]
  · exact hc
  · intro e
    injection e with e1 e2
    exact hne e1.symm e2.symm
theorem MAt.impSet (h : MAt sk w L f) (hx : Mixed sk H L D w) (hd : D .all) (hu : Under sk w.heap.size L) {w1 : World} (hb : Below w.heap.size w w1) {m g : Nat} {md : Md} {v : Value} (hm : L[m]? = some md) (hv : SlOk v g 0 md.imps.length) (hc : 0 < md.imps.length → w.heap.size ≤ g ∧ ∀ j, j < md.imps.length * 5 → w1.cell? ⟨g, j, none⟩ = w.cell? ⟨sk.ib m, sk.io m + j, none⟩) : MAt (sk.imp m g v) (w1.setCell ⟨sk.b, sk.o + m * 5 + 1, none⟩ v) L f := by
  have hL : (Row.all).has L := len_pos hm
  have hO : ∀ r : Row, r ≠ .all → r.has L → r.blk sk ≠ sk.b := fun r hne hr e => hx.apart hd hL hr (fun e => hne e.symm) e.symm
  have hb0 := hu.b hL
  intro m' md' hm'
  have hk := h.keep hu hb m' md' hm'
  have hI : ∀ i x, md'.imps[i]? = some x → ImAt (w1.setCell ⟨sk.b, sk.o + m * 5 + 1, none⟩ v) (sk.ib m') (sk.io m' + i * 5) (layIm f m' i x) := fun i x hi => by
    obtain ⟨q0, q1, q2, q3, q4⟩ := hk.imps i x hi
    have hn := hO (.imp m') (fun e => by cases e) ⟨md', hm', len_pos hi⟩
    exact ⟨else_cell q0 (fun e => absurd e hn), else_cell q1 (fun e => absurd e hn), else_cell q2 (fun e => absurd e hn), else_cell q3 (fun e => absurd e hn), else_cell q4 (fun e => absurd e hn)⟩
  have hDf : ∀ i d, md'.defs[i]? = some d → DfAt (w1.setCell ⟨sk.b, sk.o + m * 5 + 1, none⟩ v) (sk.db m') (sk.do_ m' + i * 6) (layDf f m' i d) (sk.tv m' i) ∧ SlOk (sk.tv m' i) (sk.tb m' i) (sk.to_ m' i) d.tree.length := fun i d hi => by
    obtain ⟨⟨q0, q1, q2, q3, q4, q5⟩, hs⟩ := hk.defs i d hi
    have hn := hO (.dfs m') (fun e => by cases e) ⟨md', hm', len_pos hi⟩
    exact ⟨⟨else_cell q0 (fun e => absurd e hn), else_cell q1 (fun e => absurd e hn), else_cell q2 (fun e => absurd e hn), else_cell q3 (fun e => absurd e hn), else_cell q4 (fun e => absurd e hn), else_cell q5 (fun e => absurd e hn)⟩, hs⟩
  have hN : ∀ i d, md'.defs[i]? = some d → ∀ k x, d.tree[k]? = some x → NdAt (w1.setCell ⟨sk.b, sk.o + m * 5 + 1, none⟩ v) (sk.tb m' i) (sk.to_ m' i + k * 8) (layX f m' i k x) := fun i d hi k x hk' j u hj =>
    else_cell (hk.nodes i d hi k x hk' j u hj) (fun e => absurd e (hO (.nds m' i) (fun e => by cases e) ⟨md', d, hm', hi, len_pos hk'⟩))
  obtain ⟨q0, q1, q2, q3, q4⟩ := hk.cells
  by_cases e : m' = m
  · subst e
    rw [hm] at hm'
    cases hm'
    have hz : MdAt (w1.setCell ⟨sk.b, sk.o + m' * 5 + 1, none⟩ v) sk.b (sk.o + m' * 5) md (if m' = m' then v else sk.iv m') (sk.dv m') := by
      rw [if_pos rfl]
      exact ⟨else_cell q0 (fun _ => by omega), World.cell?_setCell_same _ _ _ q1, else_cell q2 (fun _ => by omega), else_cell q3 (fun _ => by omega), else_cell q4 (fun _ => by omega)⟩
    refine ⟨hz, ?_, hk.dv, ?_, hDf, hN⟩
    · show SlOk (if m' = m' then v else sk.iv m') (if m' = m' then g else sk.ib m') (if m' = m' then 0 else sk.io m') _
      rw [if_pos rfl, if_pos rfl, if_pos rfl]; exact hv
    · intro i x hi
      show ImAt _ (if m' = m' then g else sk.ib m') ((if m' = m' then 0 else sk.io m') + i * 5) _
      rw [if_pos rfl, if_pos rfl]
      have hl := (List.getElem?_eq_some_iff.1 hi).1
      obtain ⟨hg, hc⟩ := hc (by omega)
      obtain ⟨p0, p1, p2, p3, p4⟩ := (h m' md hm).imps i x hi
      have K : ∀ j u, j < 5 → w.cell? ⟨sk.ib m', sk.io m' + i * 5 + j, none⟩ = some u → (w1.setCell ⟨sk.b, sk.o + m' * 5 + 1, none⟩ v).cell? ⟨g, 0 + i * 5 + j, none⟩ = some u := fun j u hj hu => by
        refine else_cell ?_ (fun e => by omega)
        rw [Nat.zero_add, hc (i * 5 + j) (by omega), ← Nat.add_assoc]; exact hu
      exact ⟨K 0 _ (by omega) p0, K 1 _ (by omega) p1, K 2 _ (by omega) p2, K 3 _ (by omega) p3, K 4 _ (by omega) p4⟩
  · have hz : MdAt (w1.setCell ⟨sk.b, sk.o + m * 5 + 1, none⟩ v) sk.b (sk.o + m' * 5) md' (if m' = m then v else sk.iv m') (sk.dv m') := by
      rw [if_neg e]
      exact ⟨else_cell q0 (fun _ => by omega), else_cell q1 (fun _ => by omega), else_cell q2 (fun _ => by omega), else_cell q3 (fun _ => by omega), else_cell q4 (fun _ => by omega)⟩
    refine ⟨hz, ?_, hk.dv, ?_, hDf, hN⟩
    · show SlOk (if m' = m then v else sk.iv m') (if m' = m then g else sk.ib m') (if m' = m then 0 else sk.io m') _
      rw [if_neg e, if_neg e, if_neg e]; exact hk.iv
    · intro i x hi
      show ImAt _ (if m' = m then g else sk.ib m') ((if m' = m then 0 else sk.io m') + i * 5) _
      rw [if_neg e, if_neg e]; exact hI i x hi
theorem MAt.dfsSet (h : MAt sk w L f) (hx : Mixed sk H L D w) (hd : D .all) (hu : Under sk w.heap.size L) {w1 : World} (hb : Below w.heap.size w w1) {m g : Nat} {md : Md} {v : Value} (hm : L[m]? = some md) (hv : SlOk v g 0 md.defs.length) (hc : 0 < md.defs.length → w.heap.size ≤ g ∧ ∀ j, j < md.defs.length * 6 → w1.cell? ⟨g, j, none⟩ = w.cell? ⟨sk.db m, sk.do_ m + j, none⟩) : MAt (sk.dfs m g v) (w1.setCell ⟨sk.b, sk.o + m * 5 + 2, none⟩ v) L f := by
  have hL : (Row.all).has L := len_pos hm
  have hO : ∀ r : Row, r ≠ .all → r.has L → r.blk sk ≠ sk.b := fun r hne hr e => hx.apart hd hL hr (fun e => hne e.symm) e.symm
  have hb0 := hu.b hL
  intro m' md' hm'
  have hk := h.keep hu hb m' md' hm'
  have hI : ∀ i x, md'.imps[i]? = some x → ImAt (w1.setCell ⟨sk.b, sk.o + m * 5 + 2, none⟩ v) (sk.ib m') (sk.io m' + i * 5) (layIm f m' i x) := fun i x hi => by
    obtain ⟨q0, q1, q2, q3, q4⟩ := hk.imps i x hi
    have hn := hO (.imp m') (fun e => by cases e) ⟨md', hm', len_pos hi⟩
    exact ⟨else_cell q0 (fun e => absurd e hn), else_cell q1 (fun e => absurd e hn), else_cell q2 (fun e => absurd e hn), else_cell q3 (fun e => absurd e hn), else_cell q4 (fun e => absurd e hn)⟩
  have hDf : ∀ i d, md'.defs[i]? = some d → DfAt (w1.setCell ⟨sk.b, sk.o + m * 5 + 2, none⟩ v) (sk.db m') (sk.do_ m' + i * 6) (layDf f m' i d) (sk.tv m' i) ∧ SlOk (sk.tv m' i) (sk.tb m' i) (sk.to_ m' i) d.tree.length := fun i d hi => by
    obtain ⟨⟨q0, q1, q2, q3, q4, q5⟩, hs⟩ := hk.defs i d hi
    have hn := hO (.dfs m') (fun e => by cases e) ⟨md', hm', len_pos hi⟩
    exact ⟨⟨else_cell q0 (fun e => absurd e hn), else_cell q1 (fun e => absurd e hn), else_cell q2 (fun e => absurd e hn), else_cell q3 (fun e => absurd e hn), else_cell q4 (fun e => absurd e hn), else_cell q5 (fun e => absurd e hn)⟩, hs⟩
  have hN : ∀ i d, md'.defs[i]? = some d → ∀ k x, d.tree[k]? = some x → NdAt (w1.setCell ⟨sk.b, sk.o + m * 5 + 2, none⟩ v) (sk.tb m' i) (sk.to_ m' i + k * 8) (layX f m' i k x) := fun i d hi k x hk' j u hj =>
    else_cell (hk.nodes i d hi k x hk' j u hj) (fun e => absurd e (hO (.nds m' i) (fun e => by cases e) ⟨md', d, hm', hi, len_pos hk'⟩))
  obtain ⟨q0, q1, q2, q3, q4⟩ := hk.cells
  by_cases e : m' = m
  · subst e
    rw [hm] at hm'
    cases hm'
    have hz : MdAt (w1.setCell ⟨sk.b, sk.o + m' * 5 + 2, none⟩ v) sk.b (sk.o + m' * 5) md (sk.iv m') (if m' = m' then v else sk.dv m') := by
      rw [if_pos rfl]
      exact ⟨else_cell q0 (fun _ => by omega), else_cell q1 (fun _ => by omega), World.cell?_setCell_same _ _ _ q2, else_cell q3 (fun _ => by omega), else_cell q4 (fun _ => by omega)⟩
    refine ⟨hz, hk.iv, ?_, hI, ?_, hN⟩
    · show SlOk (if m' = m' then v else sk.dv m') (if m' = m' then g else sk.db m') (if m' = m' then 0 else sk.do_ m') _
      rw [if_pos rfl, if_pos rfl, if_pos rfl]; exact hv
    · intro i x hi
      refine ⟨?_, (hDf i x hi).2⟩
      show DfAt _ (if m' = m' then g else sk.db m') ((if m' = m' then 0 else sk.do_ m') + i * 6) _ _
      rw [if_pos rfl, if_pos rfl]
      have hl := (List.getElem?_eq_some_iff.1 hi).1
      obtain ⟨hg, hc⟩ := hc (by omega)
      obtain ⟨p0, p1, p2, p3, p4, p5⟩ := ((h m' md hm).defs i x hi).1
      have K : ∀ j u, j < 6 → w.cell? ⟨sk.db m', sk.do_ m' + i * 6 + j, none⟩ = some u → (w1.setCell ⟨sk.b, sk.o + m' * 5 + 2, none⟩ v).cell? ⟨g, 0 + i * 6 + j, none⟩ = some u := fun j u hj hu => by
        refine else_cell ?_ (fun e => by omega)
        rw [Nat.zero_add, hc (i * 6 + j) (by omega), ← Nat.add_assoc]; exact hu
      exact ⟨K 0 _ (by omega) p0, K 1 _ (by omega) p1, K 2 _ (by omega) p2, K 3 _ (by omega) p3, K 4 _ (by omega) p4, K 5 _ (by omega) p5⟩
  · have hz : MdAt (w1.setCell ⟨sk.b, sk.o + m * 5 + 2, none⟩ v) sk.b (sk.o + m' * 5) md' (sk.iv m') (if m' = m then v else sk.dv m') := by
      rw [if_neg e]
      exact ⟨else_cell q0 (fun _ => by omega), else_cell q1 (fun _ => by omega), else_cell q2 (fun _ => by omega), else_cell q3 (fun _ => by omega), else_cell q4 (fun _ => by omega)⟩
    refine ⟨hz, hk.iv, ?_, hI, ?_, hN⟩
    · show SlOk (if m' = m then v else sk.dv m') (if m' = m then g else sk.db m') (if m' = m then 0 else sk.do_ m') _
      rw [if_neg e, if_neg e, if_neg e]; exact hk.dv
    · intro i x hi
      refine ⟨?_, (hDf i x hi).2⟩
      show DfAt _ (if m' = m then g else sk.db m') ((if m' = m then 0 else sk.do_ m') + i * 6) _ _
      rw [if_neg e, if_neg e]; exact (hDf i x hi).1
theorem MAt.ndsSet (h : MAt sk w L f) (hx : Mixed sk H L D w) {m k : Nat} (hd : D (.dfs m)) (hu : Under sk w.heap.size L) {w1 : World} (hb : Below w.heap.size w w1) {g : Nat} {md : Md} {d : Df} {v : Value} (hm : L[m]? = some md) (hdk : md.defs[k]? = some d) (hv : SlOk v g 0 d.tree.length) (hc : 0 < d.tree.length → w.heap.size ≤ g ∧ ∀ j, j < d.tree.length * 8 → w1.cell? ⟨g, j, none⟩ = w.cell? ⟨sk.tb m k, sk.to_ m k + j, none⟩) : MAt (sk.nds m k g v) (w1.setCell ⟨sk.db m, sk.do_ m + k * 6 + 3, none⟩ v) L f := by
  have hL : (Row.dfs m).has L := ⟨md, hm, len_pos hdk⟩
  have hO : ∀ r : Row, r ≠ .dfs m → r.has L → r.blk sk ≠ sk.db m := fun r hne hr e => hx.apart hd hL hr (fun e => hne e.symm) e.symm
  have hb0 : sk.db m < w.heap.size := hu.db m md hm (len_pos hdk)
  intro m' md' hm'
  have hk := h.keep hu hb m' md' hm'
  have hI : ∀ i x, md'.imps[i]? = some x → ImAt (w1.setCell ⟨sk.db m, sk.do_ m + k * 6 + 3, none⟩ v) (sk.ib m') (sk.io m' + i * 5) (layIm f m' i x) := fun i x hi => by
    obtain ⟨q0, q1, q2, q3, q4⟩ := hk.imps i x hi
    have hn := hO (.imp m') (fun e => by cases e) ⟨md', hm', len_pos hi⟩
    exact ⟨else_cell q0 (fun e => absurd e hn), else_cell q1 (fun e => absurd e hn), else_cell q2 (fun e => absurd e hn), else_cell q3 (fun e => absurd e hn), else_cell q4 (fun e => absurd e hn)⟩
  have hM : MdAt (w1.setCell ⟨sk.db m, sk.do_ m + k * 6 + 3, none⟩ v) sk.b (sk.o + m' * 5) md' (sk.iv m') (sk.dv m') := by
    obtain ⟨q0, q1, q2, q3, q4⟩ := hk.cells
    have hn := hO .all (fun e => by cases e) (len_pos hm')
    exact ⟨else_cell q0 (fun e => absurd e hn), else_cell q1 (fun e => absurd e hn), else_cell q2 (fun e => absurd e hn), else_cell q3 (fun e => absurd e hn), else_cell q4 (fun e => absurd e hn)⟩
  have hDf : ∀ i d, md'.defs[i]? = some d → ∀ j u, (layDf f m' i d).cells (sk.tv m' i) = u → j < 6 → (m' = m ∧ i = k → j ≠ 3) → ∀ z, u[j]? = some z → (w1.setCell ⟨sk.db m, sk.do_ m + k * 6 + 3, none⟩ v).cell? ⟨sk.db m', sk.do_ m' + i * 6 + j, none⟩ = some z := fun i d hi j u hu' hj hne z hz => by
    subst hu'
    obtain ⟨⟨q0, q1, q2, q3, q4, q5⟩, hs⟩ := hk.defs i d hi
    have hq : w1.cell? ⟨sk.db m', sk.do_ m' + i * 6 + j, none⟩ = some z := by
      match j, hj, hz with
      | 0, _, hz => cases hz; exact q0
      | 1, _, hz => cases hz; exact q1
      | 2, _, hz => cases hz; exact q2
      | 3, _, hz => cases hz; exact q3
      | 4, _, hz => cases hz; exact q4
      | 5, _, hz => cases hz; exact q5
      | j + 6, hj, _ => omega
    refine else_cell hq fun e => ?_
    by_cases em : m' = m
    · subst em
      by_cases ei : i = k
      · subst ei
        have := hne ⟨rfl, rfl⟩
        omega
      · omega
    · exact absurd e (hO (.dfs m') (fun e => em (by cases e; rfl)) ⟨md', hm', len_pos hi⟩)
  have hN : ∀ i d, md'.defs[i]? = some d → ∀ k' x, d.tree[k']? = some x → NdAt (w1.setCell ⟨sk.db m, sk.do_ m + k * 6 + 3, none⟩ v) (sk.tb m' i) (sk.to_ m' i + k' * 8) (layX f m' i k' x) := fun i d hi k' x hk' j u hj =>
    else_cell (hk.nodes i d hi k' x hk' j u hj) (fun e => absurd e (hO (.nds m' i) (fun e => by cases e) ⟨md', d, hm', hi, len_pos hk'⟩))
  refine ⟨hM, hk.iv, hk.dv, hI, fun i d' hi => ?_, fun i d' hi k' x hk' => ?_⟩
  · by_cases e : m' = m ∧ i = k
    · obtain ⟨rfl, rfl⟩ := e
      rw [hm] at hm'
      cases hm'
      rw [hdk] at hi
      cases hi
      show DfAt _ (sk.db m') (sk.do_ m' + i * 6) _ (if m' = m' ∧ i = i then v else sk.tv m' i) ∧ SlOk (if m' = m' ∧ i = i then v else sk.tv m' i) (if m' = m' ∧ i = i then g else sk.tb m' i) (if m' = m' ∧ i = i then 0 else sk.to_ m' i) _
      simp only [and_self, if_true]
      refine ⟨⟨hDf i d hdk 0 _ rfl (by omega) (fun _ => by omega) _ rfl, hDf i d hdk 1 _ rfl (by omega) (fun _ => by omega) _ rfl, hDf i d hdk 2 _ rfl (by omega) (fun _ => by omega) _ rfl, ?_, hDf i d hdk 4 _ rfl (by omega) (fun _ => by omega) _ rfl, hDf i d hdk 5 _ rfl (by omega) (fun _ => by omega) _ rfl⟩, hv⟩
      exact World.cell?_setCell_same _ _ _ (hk.defs i d hdk).1.2.2.2.1
    · show DfAt _ (sk.db m') (sk.do_ m' + i * 6) _ (if m' = m ∧ i = k then v else sk.tv m' i) ∧ SlOk (if m' = m ∧ i = k then v else sk.tv m' i) (if m' = m ∧ i = k then g else sk.tb m' i) (if m' = m ∧ i = k then 0 else sk.to_ m' i) _
      simp only [if_neg e]
      exact ⟨⟨hDf i d' hi 0 _ rfl (by omega) (fun _ => by omega) _ rfl, hDf i d' hi 1 _ rfl (by omega) (fun _ => by omega) _ rfl, hDf i d' hi 2 _ rfl (by omega) (fun _ => by omega) _ rfl, hDf i d' hi 3 _ rfl (by omega) (fun h => absurd h e) _ rfl, hDf i d' hi 4 _ rfl (by omega) (fun _ => by omega) _ rfl, hDf i d' hi 5 _ rfl (by omega) (fun _ => by omega) _ rfl⟩, (hk.defs i d' hi).2⟩
  · by_cases e : m' = m ∧ i = k
    · obtain ⟨rfl, rfl⟩ := e
      rw [hm] at hm'
      cases hm'
      rw [hdk] at hi
      cases hi
      show NdAt _ (if m' = m' ∧ i = i then g else sk.tb m' i) ((if m' = m' ∧ i = i then 0 else sk.to_ m' i) + k' * 8) _
      simp only [and_self, if_true]
      intro j u hj
      have hl := (List.getElem?_eq_some_iff.1 hk').1
      have hj8 : j < 8 := (List.getElem?_eq_some_iff.1 hj).1
      obtain ⟨hg, hc⟩ := hc (by omega)
      have hu' := (h m' md hm).nodes i d hdk k' x hk' j u hj
      refine else_cell ?_ (fun e => by omega)
      rw [Nat.zero_add, hc (k' * 8 + j) (by omega), ← Nat.add_assoc]; exact hu'
    · show NdAt _ (if m' = m ∧ i = k then g else sk.tb m' i) ((if m' = m ∧ i = k then 0 else sk.to_ m' i) + k' * 8) _
      simp only [if_neg e]
      exact hN i d' hi k' x hk'
/-- All cells of the rows are there. -/
theorem five {b o n : Nat} (h : ∀ m, m < n → ∀ j, j < 5 → ∃ u, w.cell? ⟨b, o + m * 5 + j, none⟩ = some u ∧ u.oneCell' = true) : ∀ j, j < n * 5 → ∃ u, w.cell? ⟨b, o + j, none⟩ = some u ∧ u.oneCell' = true := fun j hj => by
  have := h (j / 5) (by omega) (j % 5) (by omega)
  rwa [Nat.add_assoc, show j / 5 * 5 + j % 5 = j by omega] at this
theorem six {b o n : Nat} (h : ∀ m, m < n → ∀ j, j < 6 → ∃ u, w.cell? ⟨b, o + m * 6 + j, none⟩ = some u ∧ u.oneCell' = true) : ∀ j, j < n * 6 → ∃ u, w.cell? ⟨b, o + j, none⟩ = some u ∧ u.oneCell' = true := fun j hj => by
  have := h (j / 6) (by omega) (j % 6) (by omega)
  rwa [Nat.add_assoc, show j / 6 * 6 + j % 6 = j by omega] at this
theorem eight {b o n : Nat} (h : ∀ m, m < n → ∀ j, j < 8 → ∃ u, w.cell? ⟨b, o + m * 8 + j, none⟩ = some u ∧ u.oneCell' = true) : ∀ j, j < n * 8 → ∃ u, w.cell? ⟨b, o + j, none⟩ = some u ∧ u.oneCell' = true := fun j hj => by
  have := h (j / 8) (by omega) (j % 8) (by omega)
  rwa [Nat.add_assoc, show j / 8 * 8 + j % 8 = j by omega] at this
theorem MAt.all_cells (h : MAt sk w L f) : ∀ j, j < L.length * 5 → ∃ u, w.cell? ⟨sk.b, sk.o + j, none⟩ = some u ∧ u.oneCell' = true := five fun m hm j hj => by
  obtain ⟨q, ⟨A, c, hi, _⟩, ⟨A2, c2, hd, _⟩, _⟩ := h m _ (List.getElem?_eq_getElem hm)
  obtain ⟨q0, q1, q2, q3, q4⟩ := q
  rw [hi] at q1
  rw [hd] at q2
  match j, hj with
  | 0, _ => exact ⟨_, q0, rfl⟩
  | 1, _ => exact ⟨_, q1, rfl⟩
  | 2, _ => exact ⟨_, q2, rfl⟩
  | 3, _ => exact ⟨_, q3, rfl⟩
  | 4, _ => exact ⟨_, q4, rfl⟩
  | j + 5, hj => omega
theorem MAt.imp_cells (h : MAt sk w L f) {m : Nat} {md : Md} (hm : L[m]? = some md) : ∀ j, j < md.imps.length * 5 → ∃ u, w.cell? ⟨sk.ib m, sk.io m + j, none⟩ = some u ∧ u.oneCell' = true := five fun i hi j hj => by
  obtain ⟨q0, q1, q2, q3, q4⟩ := (h m md hm).imps i _ (List.getElem?_eq_getElem hi)
  match j, hj with
  | 0, _ => exact ⟨_, q0, rfl⟩
  | 1, _ => exact ⟨_, q1, rfl⟩
  | 2, _ => exact ⟨_, q2, rfl⟩
  | 3, _ => exact ⟨_, q3, rfl⟩
  | 4, _ => exact ⟨_, q4, rfl⟩
  | j + 5, hj => omega
theorem MAt.dfs_cells (h : MAt sk w L f) {m : Nat} {md : Md} (hm : L[m]? = some md) : ∀ j, j < md.defs.length * 6 → ∃ u, w.cell? ⟨sk.db m, sk.do_ m + j, none⟩ = some u ∧ u.oneCell' = true := six fun i hi j hj => by
  obtain ⟨⟨q0, q1, q2, q3, q4, q5⟩, A, c, ht, _⟩ := (h m md hm).defs i _ (List.getElem?_eq_getElem hi)
  rw [ht] at q3
  match j, hj with
  | 0, _ => exact ⟨_, q0, rfl⟩
  | 1, _ => exact ⟨_, q1, rfl⟩
  | 2, _ => exact ⟨_, q2, rfl⟩
  | 3, _ => exact ⟨_, q3, rfl⟩
  | 4, _ => exact ⟨_, q4, rfl⟩
  | 5, _ => exact ⟨_, q5, rfl⟩
  | j + 6, hj => omega
theorem MAt.nds_cells (h : MAt sk w L f) {m k : Nat} {md : Md} {d : Df} (hm : L[m]? = some md) (hd : md.defs[k]? = some d) : ∀ j, j < d.tree.length * 8 → ∃ u, w.cell? ⟨sk.tb m k, sk.to_ m k + j, none⟩ = some u ∧ u.oneCell' = true := eight fun i hi j hj => by
  have q := (h m md hm).nodes k d hd i _ (List.getElem?_eq_getElem hi)
  match j, hj with
  | 0, _ => exact ⟨_, q 0 _ rfl, rfl⟩
  | 1, _ => exact ⟨_, q 1 _ rfl, rfl⟩
  | 2, _ => exact ⟨_, q 2 _ rfl, rfl⟩
  | 3, _ => exact ⟨_, q 3 _ rfl, rfl⟩
  | 4, _ => exact ⟨_, q 4 _ rfl, rfl⟩
  | 5, _ => exact ⟨_, q 5 _ rfl, rfl⟩
  | 6, _ => exact ⟨_, q 6 _ rfl, rfl⟩
  | 7, _ => exact ⟨_, q 7 _ rfl, rfl⟩
  | j + 8, hj => omega
/-- Modules that are being copied: the rows that are done are one's own. -/
structure CpSt (sk : Sk) (L : List Md) (f : Pos → ByteArray) (w0 : World) (g : Nat) (V : Value) (D : Row → Prop) (w : World) : Prop where
  below : Below w0.heap.size w0 w
  mat : MAt sk w L f
  mix : Mixed sk w0.heap.size L D w
  b : sk.b = g
  o : sk.o = 0
  v : sk.v = V
  dAll : D .all
section
variable {w0 w1 : World} {g g1 m k : Nat} {md : Md} {d : Df} {v V : Value}
theorem below_setCell {B : Nat} {a : Addr} (h : Below B w0 w) (ha : B ≤ a.block) : Below B w0 (w.setCell a v) := ⟨h.os, h.tape, h.output, by rw [World.size_setCell]; exact h.size, fun b hb => by rw [Below.heap_setCell _ _ _ _ (by omega)]; exact h.block b hb⟩
theorem CpSt.under (h : CpSt sk L f w0 g V D w) : Under sk w.heap.size L := h.mix.under h.below.size
theorem CpSt.free (h : CpSt sk L f w0 g V D w) (hL : 0 < L.length) (i : Nat) : w.frozen? ⟨g, i, none⟩ = false := by
  obtain ⟨_, _, _, _, cs, _, _, _, hh, _⟩ := h.mix.own .all h.dAll hL
  have hh : w.heap[sk.b]? = some (.cells cs (Row.ty .all) (0, 0)) := hh
  rw [h.b] at hh
  simp [World.frozen?, hh]
theorem CpSt.imp (h : CpSt sk L f w0 g V D w) (hn : ¬ D (.imp m)) (hm : L[m]? = some md) (hb : Below w.heap.size w w1) (hv : SlOk v g1 0 md.imps.length) (hnl : md.imps.length = 0 → v = .slice none 0 0) (hc : 0 < md.imps.length → w.heap.size ≤ g1 ∧ GoodV v g1 5 90 w1 ∧ ∀ j, j < md.imps.length * 5 → w1.cell? ⟨g1, j, none⟩ = w.cell? ⟨sk.ib m, sk.io m + j, none⟩) : CpSt (sk.imp m g1 v) L f w0 g V (fun r => D r ∨ r = .imp m) (w1.setCell ⟨g, m * 5 + 1, none⟩ v) := by
  have hL := len_pos hm
  obtain ⟨hg, _, _⟩ := h.mix.own .all h.dAll hL
  have hg : w0.heap.size ≤ sk.b := hg
  rw [h.b] at hg
  refine ⟨below_setCell (h.below.trans (hb.mono h.below.size)) hg, ?_, ?_, h.b, h.o, h.v, .inl h.dAll⟩
  · have := h.mat.impSet h.mix h.dAll h.under hb hm hv (fun h0 => ⟨(hc h0).1, (hc h0).2.2⟩)
    rwa [h.b, h.o, Nat.zero_add] at this
  · refine (h.mix.more (r0 := .imp m) (fun r => Iff.rfl) hn hb h.below.size (fun r hr => ?_) rfl (fun hr => ?_) (fun hr hi => ?_)).set _ _
    · cases r with
      | imp j => show (if j = m then g1 else sk.ib j) = _ ∧ (if j = m then v else sk.iv j) = _; rw [if_neg (fun e => hr (by rw [e])), if_neg (fun e => hr (by rw [e]))]; exact ⟨rfl, rfl⟩
      | _ => exact ⟨rfl, rfl⟩
    · show w.heap.size ≤ (if m = m then g1 else sk.ib m) ∧ GoodV (if m = m then v else sk.iv m) (if m = m then g1 else sk.ib m) _ _ _
      rw [if_pos rfl, if_pos rfl]
      obtain ⟨md', hm', h0⟩ := hr
      rw [hm] at hm'
      cases hm'
      obtain ⟨a, b, _⟩ := hc h0
      exact ⟨a, b⟩
    · show (if m = m then v else sk.iv m) = _
      rw [if_pos rfl]
      exact hnl (Nat.eq_zero_of_not_pos fun h0 => hr ⟨md, hm, h0⟩)
theorem CpSt.dfs (h : CpSt sk L f w0 g V D w) (hn : ¬ D (.dfs m)) (hm : L[m]? = some md) (hb : Below w.heap.size w w1) (hv : SlOk v g1 0 md.defs.length) (hnl : md.defs.length = 0 → v = .slice none 0 0) (hc : 0 < md.defs.length → w.heap.size ≤ g1 ∧ GoodV v g1 6 84 w1 ∧ ∀ j, j < md.defs.length * 6 → w1.cell? ⟨g1, j, none⟩ = w.cell? ⟨sk.db m, sk.do_ m + j, none⟩) : CpSt (sk.dfs m g1 v) L f w0 g V (fun r => D r ∨ r = .dfs m) (w1.setCell ⟨g, m * 5 + 2, none⟩ v) := by
  have hL := len_pos hm
  obtain ⟨hg, _, _⟩ := h.mix.own .all h.dAll hL
  have hg : w0.heap.size ≤ sk.b := hg
  rw [h.b] at hg
  refine ⟨below_setCell (h.below.trans (hb.mono h.below.size)) hg, ?_, ?_, h.b, h.o, h.v, .inl h.dAll⟩
  · have := h.mat.dfsSet h.mix h.dAll h.under hb hm hv (fun h0 => ⟨(hc h0).1, (hc h0).2.2⟩)
    rwa [h.b, h.o, Nat.zero_add] at this
  · refine (h.mix.more (r0 := .dfs m) (fun r => Iff.rfl) hn hb h.below.size (fun r hr => ?_) rfl (fun hr => ?_) (fun hr hi => ?_)).set _ _
    · cases r with
      | dfs j => show (if j = m then g1 else sk.db j) = _ ∧ (if j = m then v else sk.dv j) = _; rw [if_neg (fun e => hr (by rw [e])), if_neg (fun e => hr (by rw [e]))]; exact ⟨rfl, rfl⟩
      | _ => exact ⟨rfl, rfl⟩
    · show w.heap.size ≤ (if m = m then g1 else sk.db m) ∧ GoodV (if m = m then v else sk.dv m) (if m = m then g1 else sk.db m) _ _ _
      rw [if_pos rfl, if_pos rfl]
      obtain ⟨md', hm', h0⟩ := hr
      rw [hm] at hm'
      cases hm'
      obtain ⟨a, b, _⟩ := hc h0
      exact ⟨a, b⟩
    · show (if m = m then v else sk.dv m) = _
      rw [if_pos rfl]
      exact hnl (Nat.eq_zero_of_not_pos fun h0 => hr ⟨md, hm, h0⟩)
theorem CpSt.nds (h : CpSt sk L f w0 g V D w) (hn : ¬ D (.nds m k)) (hdd : D (.dfs m)) (hm : L[m]? = some md) (hd : md.defs[k]? = some d) (hb : Below w.heap.size w w1) (hv : SlOk v g1 0 d.tree.length) (hnl : d.tree.length = 0 → v = .slice none 0 0) (hc : 0 < d.tree.length → w.heap.size ≤ g1 ∧ GoodV v g1 8 81 w1 ∧ ∀ j, j < d.tree.length * 8 → w1.cell? ⟨g1, j, none⟩ = w.cell? ⟨sk.tb m k, sk.to_ m k + j, none⟩) : CpSt (sk.nds m k g1 v) L f w0 g V (fun r => D r ∨ r = .nds m k) (w1.setCell ⟨sk.db m, sk.do_ m + k * 6 + 3, none⟩ v) := by
  obtain ⟨hg, _, _⟩ := h.mix.own (.dfs m) hdd ⟨md, hm, len_pos hd⟩
  have hg : w0.heap.size ≤ sk.db m := hg
  refine ⟨below_setCell (h.below.trans (hb.mono h.below.size)) hg, h.mat.ndsSet h.mix hdd h.under hb hm hd hv (fun h0 => ⟨(hc h0).1, (hc h0).2.2⟩), ?_, h.b, h.o, h.v, .inl h.dAll⟩
  refine (h.mix.more (r0 := .nds m k) (fun r => Iff.rfl) hn hb h.below.size (fun r hr => ?_) rfl (fun hr => ?_) (fun hr hi => ?_)).set _ _
  · cases r with
    | nds j i =>
      show (if j = m ∧ i = k then g1 else sk.tb j i) = _ ∧ (if j = m ∧ i = k then v else sk.tv j i) = _
      rw [if_neg (fun e => hr (by rw [e.1, e.2])), if_neg (fun e => hr (by rw [e.1, e.2]))]; exact ⟨rfl, rfl⟩
    | _ => exact ⟨rfl, rfl⟩
  · show w.heap.size ≤ (if m = m ∧ k = k then g1 else sk.tb m k) ∧ GoodV (if m = m ∧ k = k then v else sk.tv m k) (if m = m ∧ k = k then g1 else sk.tb m k) _ _ _
    simp only [and_self, if_true]
    obtain ⟨md', d', hm', hd', h0⟩ := hr
    rw [hm] at hm'
    cases hm'
    rw [hd] at hd'
    cases hd'
    obtain ⟨a, b, _⟩ := hc h0
    exact ⟨a, b⟩
  · show (if m = m ∧ k = k then v else sk.tv m k) = _
    simp only [and_self, if_true]
    exact hnl (Nat.eq_zero_of_not_pos fun h0 => hr ⟨md, d, hm, hd, h0⟩)
theorem CpSt.mono {D' : Row → Prop} (h : CpSt sk L f w0 g V D w) (hD : ∀ r : Row, r.is L → (D' r ↔ D r)) (hA : D' .all) : CpSt sk L f w0 g V D' w :=
  ⟨h.below, h.mat, ⟨fun r r' a b c d => h.mix.inj r r' ((hD r c.is).1 a) ((hD r' d.is).1 b) c d, fun r a b => h.mix.own r ((hD r b.is).1 a) b, fun r a b => h.mix.nil r ((hD r b).1 a) b, fun r a b => h.mix.old r (fun c => a ((hD r b.is).2 c)) b⟩, h.b, h.o, h.v, hA⟩
theorem CpSt.drew (h : CpSt sk L f w0 g V D w) : CpSt sk L f w0 g V D w.drew := ⟨⟨h.below.os, h.below.tape, h.below.output, h.below.size, h.below.block⟩, h.mat.keep h.under (Below.refl _ _).drew, ⟨h.mix.inj, h.mix.own, h.mix.nil, h.mix.old⟩, h.b, h.o, h.v, h.dAll⟩
end
end
end Culp.Er

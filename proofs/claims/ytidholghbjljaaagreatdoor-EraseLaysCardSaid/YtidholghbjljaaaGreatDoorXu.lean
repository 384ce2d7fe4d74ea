
/- Memory: modules that are being put together: the rows that are done are one's own. No program in sight. -/
import Derived.Test.YtidholghbjljaaaGreatDoorWt
import Derived.Test.YtidholghbjljaaaGreatDoorWs
import Derived.Test.YtidholghbjljaaaGreatDoorXr
namespace Culp.Er
set_option linter.unusedSimpArgs false
set_option linter.unusedVariables false
open Go Go.RowKit Culp
section
variable {sk sk' sk0 : Sk} {H : Nat} {L : List Md} {D D' : Row → Prop} {w w' w1 : World} {f : Pos → ByteArray}
/-- One more row is one's own; it may lie in a block that was made before. -/
theorem Mixed.more2 (h : Mixed sk H L D w) {r0 : Row} {g : Nat} (hD : ∀ r, D' r ↔ D r ∨ r = r0) (h0 : ¬ D r0) (hs : w.heap.size ≤ w'.heap.size) (hk : ∀ r : Row, D r → r.has L → w'.heap[r.blk sk]? = w.heap[r.blk sk]?) (hsk : ∀ r, r ≠ r0 → r.blk sk' = r.blk sk ∧ r.val sk' = r.val sk) (hg : r0.blk sk' = g) (hgn : r0.has L → H ≤ g ∧ (∀ r : Row, D r → r.has L → r.blk sk ≠ g) ∧ GoodV (r0.val sk') g r0.sz r0.ty w') (hni : ¬ r0.has L → r0.is L → r0.val sk' = .slice none 0 0) : Mixed sk' H L D' w' := by
  have hlt : ∀ r, D r → r ≠ r0 := fun r hd e => h0 (e ▸ hd)
  refine ⟨fun r r' hd hd' hr hr' e => ?_, fun r hd hr => ?_, fun r hd hi hr => ?_, fun r hd hr => ?_⟩
  · rcases (hD r).1 hd with d1 | d1 <;> rcases (hD r').1 hd' with d2 | d2
    · rw [(hsk r (hlt r d1)).1, (hsk r' (hlt r' d2)).1] at e
      exact h.inj r r' d1 d2 hr hr' e
    · subst d2
      rw [(hsk r (hlt r d1)).1, hg] at e
      exact absurd e ((hgn hr').2.1 r d1 hr)
    · subst d1
      rw [(hsk r' (hlt r' d2)).1, hg] at e
      exact absurd e.symm ((hgn hr).2.1 r' d2 hr')
    · rw [d1, d2]
  · rcases (hD r).1 hd with d1 | d1
    · rw [(hsk r (hlt r d1)).1, (hsk r (hlt r d1)).2]
      obtain ⟨h1, h2, h3⟩ := h.own r d1 hr
      exact ⟨h1, Nat.lt_of_lt_of_le h2 hs, h3.of (hk r d1 hr)⟩
    · subst d1
      rw [hg]
      obtain ⟨h1, -, h2⟩ := hgn hr
      refine ⟨h1, ?_, h2⟩
      obtain ⟨_, _, _, _, _, _, h3, _⟩ := h2
      exact (Array.getElem?_eq_some_iff.1 h3).1
  · by_cases e : r = r0
    · subst e
      exact hni hr hi
    · rw [(hsk r e).2]
      exact h.nil r (((hD r).1 hd).resolve_right e) hi hr
  · have hn : r ≠ r0 := fun e => hd ((hD r).2 (.inr e))
    rw [(hsk r hn).1]
    exact h.old r (fun hd' => hd ((hD r).2 (.inl hd'))) hr
theorem cell_of {b o : Nat} {v : Value} (h : w.cell? ⟨b, o, none⟩ = some v) (hb : w'.heap[b]? = w.heap[b]?) : w'.cell? ⟨b, o, none⟩ = some v := by
  rw [World.cell?_of_block (a := ⟨b, o, none⟩) hb]; exact h
theorem im_of {b o : Nat} {x : Im} (h : ImAt w b o x) (hb : w'.heap[b]? = w.heap[b]?) : ImAt w' b o x :=
  ⟨cell_of h.1 hb, cell_of h.2.1 hb, cell_of h.2.2.1 hb, cell_of h.2.2.2.1 hb, cell_of h.2.2.2.2 hb⟩
theorem df_of {b o : Nat} {x : Df} {v : Value} (h : DfAt w b o x v) (hb : w'.heap[b]? = w.heap[b]?) : DfAt w' b o x v :=
  ⟨cell_of h.1 hb, cell_of h.2.1 hb, cell_of h.2.2.1 hb, cell_of h.2.2.2.1 hb, cell_of h.2.2.2.2.1 hb, cell_of h.2.2.2.2.2 hb⟩
/-- What is put together so far: the rows of D are one's own and hold what they are to hold. -/
structure Got (sk : Sk) (L : List Md) (f : Pos → ByteArray) (H : Nat) (D : Row → Prop) (w : World) : Prop where
  mix : Mixed sk H L D w
  imps : ∀ m md, L[m]? = some md → D (.imp m) → SlOk (sk.iv m) (sk.ib m) (sk.io m) md.imps.length ∧ ∀ i x, md.imps[i]? = some x → ImAt w (sk.ib m) (sk.io m + i * 5) (layIm f m i x)
  dfs : ∀ m md, L[m]? = some md → D (.dfs m) → SlOk (sk.dv m) (sk.db m) (sk.do_ m) md.defs.length ∧ ∀ i d, md.defs[i]? = some d → DfAt w (sk.db m) (sk.do_ m + i * 6) (layDf f m i d) (sk.tv m i)
  nds : ∀ m md i d, L[m]? = some md → md.defs[i]? = some d → D (.nds m i) → SlOk (sk.tv m i) (sk.tb m i) (sk.to_ m i) d.tree.length ∧ ∀ k x, d.tree[k]? = some x → NdAt w (sk.tb m i) (sk.to_ m i + k * 8) (layX f m i k x)
theorem Got.stay (h : Got sk L f H D w) (hs : w.heap.size ≤ w'.heap.size) (hk : ∀ r : Row, D r → r.has L → w'.heap[r.blk sk]? = w.heap[r.blk sk]?) : Got sk L f H D w' where
  mix := ⟨h.mix.inj, fun r hd hr => by
    obtain ⟨h1, h2, h3⟩ := h.mix.own r hd hr
    exact ⟨h1, Nat.lt_of_lt_of_le h2 hs, h3.of (hk r hd hr)⟩, h.mix.nil, h.mix.old⟩
  imps := fun m md hm hd => by
    obtain ⟨h1, h2⟩ := h.imps m md hm hd
    exact ⟨h1, fun i x hx => im_of (h2 i x hx) (hk (.imp m) hd ⟨md, hm, len_pos hx⟩)⟩
  dfs := fun m md hm hd => by
    obtain ⟨h1, h2⟩ := h.dfs m md hm hd
    exact ⟨h1, fun i x hx => df_of (h2 i x hx) (hk (.dfs m) hd ⟨md, hm, len_pos hx⟩)⟩
  nds := fun m md i d hm hi hd => by
    obtain ⟨h1, h2⟩ := h.nds m md i d hm hi hd
    exact ⟨h1, fun k x hx j u hj => cell_of (h2 k x hx j u hj) (hk (.nds m i) hd ⟨md, d, hm, hi, len_pos hx⟩)⟩
theorem Got.later (h : Got sk L f H D w) (hb : Below w.heap.size w w') : Got sk L f H D w' := h.stay hb.size fun r hd hr => hb.block _ (h.mix.own r hd hr).2.1
/-- A row that none of the done rows lies in. -/
def Away (sk : Sk) (L : List Md) (D : Row → Prop) (v : Value) : Prop := ∀ r : Row, D r → r.has L → v.ownBlock ≠ some (r.blk sk)
theorem Got.grown (h : Got sk L f H D w) {v : Value} (hg : w.grownBy w' v.ownBlock) (ha : Away sk L D v) : Got sk L f H D w' := h.stay hg.size fun r hd hr => hg.block _ (h.mix.own r hd hr).2.1 (fun e => ha r hd hr e.symm)
theorem Got.mono (h : Got sk L f H D w) (hD : ∀ r : Row, r.is L → (D' r ↔ D r)) : Got sk L f H D' w where
  mix := ⟨fun r r' a b c d => h.mix.inj r r' ((hD r c.is).1 a) ((hD r' d.is).1 b) c d, fun r a b => h.mix.own r ((hD r b.is).1 a) b, fun r a b => h.mix.nil r ((hD r b).1 a) b, fun r a b => h.mix.old r (fun c => a ((hD r b.is).2 c)) b⟩
  imps := fun m md hm hd => h.imps m md hm ((hD (.imp m) ⟨md, hm⟩).1 hd)
  dfs := fun m md hm hd => h.dfs m md hm ((hD (.dfs m) ⟨md, hm⟩).1 hd)
  nds := fun m md i d hm hi hd => h.nds m md i d hm hi ((hD (.nds m i) ⟨md, d, hm, hi⟩).1 hd)
theorem Got.low (h : Got sk L f H D w) {H' : Nat} (hD : ∀ r : Row, r.is L → D r) (hH : H' ≤ H) : Got sk L f H' D w where
  mix := ⟨h.mix.inj, fun r hd hr => ⟨Nat.le_trans hH (h.mix.own r hd hr).1, (h.mix.own r hd hr).2⟩, h.mix.nil, fun r hd hr => absurd (hD r hr.is) hd⟩
  imps := h.imps
  dfs := h.dfs
  nds := h.nds
theorem imp_else {m g : Nat} {v : Value} {r : Row} (hr : r ≠ .imp m) : r.blk (sk.imp m g v) = r.blk sk ∧ r.val (sk.imp m g v) = r.val sk := by
  cases r with
  | imp j => show (if j = m then g else sk.ib j) = _ ∧ (if j = m then v else sk.iv j) = _; rw [if_neg (fun e => hr (by rw [e])), if_neg (fun e => hr (by rw [e]))]; exact ⟨rfl, rfl⟩
  | _ => exact ⟨rfl, rfl⟩
theorem dfs_else {m g : Nat} {v : Value} {r : Row} (hr : r ≠ .dfs m) : r.blk (sk.dfs m g v) = r.blk sk ∧ r.val (sk.dfs m g v) = r.val sk := by
  cases r with
  | dfs j => show (if j = m then g else sk.db j) = _ ∧ (if j = m then v else sk.dv j) = _; rw [if_neg (fun e => hr (by rw [e])), if_neg (fun e => hr (by rw [e]))]; exact ⟨rfl, rfl⟩
  | _ => exact ⟨rfl, rfl⟩
theorem nds_else {m k g : Nat} {v : Value} {r : Row} (hr : r ≠ .nds m k) : r.blk (sk.nds m k g v) = r.blk sk ∧ r.val (sk.nds m k g v) = r.val sk := by
  cases r with
  | nds j i => show (if j = m ∧ i = k then g else sk.tb j i) = _ ∧ (if j = m ∧ i = k then v else sk.tv j i) = _; rw [if_neg (fun e => hr (by rw [e.1, e.2])), if_neg (fun e => hr (by rw [e.1, e.2]))]; exact ⟨rfl, rfl⟩
  | _ => exact ⟨rfl, rfl⟩
theorem row_else {g : Nat} {v : Value} {r : Row} (hr : r ≠ .all) : r.blk (sk.row g v) = r.blk sk ∧ r.val (sk.row g v) = r.val sk := by
  cases r with
  | all => exact absurd rfl hr
  | _ => exact ⟨rfl, rfl⟩
theorem Got.imp (h : Got sk L f H D w) {m g : Nat} {md : Md} {v : Value} (hn : ¬ D (.imp m)) (hm : L[m]? = some md) (hM : MAt sk0 w L f) (hb : Below w.heap.size w w1) (hH : H ≤ w.heap.size) (hv : SlOk v g 0 md.imps.length) (hnl : md.imps.length = 0 → v = .slice none 0 0)
    (hc : 0 < md.imps.length → w.heap.size ≤ g ∧ GoodV v g 5 90 w1 ∧ ∀ j, j < md.imps.length * 5 → w1.cell? ⟨g, j, none⟩ = w.cell? ⟨sk0.ib m, sk0.io m + j, none⟩) : Got (sk.imp m g v) L f H (fun r => D r ∨ r = .imp m) w1 := by
  have h' := h.later hb
  refine ⟨h.mix.more2 (r0 := .imp m) (g := g) (fun r => Iff.rfl) hn hb.size (fun r hd hr => hb.block _ (h.mix.own r hd hr).2.1) (fun r hr => imp_else hr) ?_ ?_ ?_, fun m' md' hm' hd => ?_, fun m' md' hm' hd => h'.dfs m' md' hm' (hd.resolve_right (fun he => by cases he)), fun m' md' i d hm' hi hd => h'.nds m' md' i d hm' hi (hd.resolve_right (fun he => by cases he))⟩
  · show (if m = m then g else sk.ib m) = g
    rw [if_pos rfl]
  · rintro ⟨md', hm', h0⟩
    rw [hm] at hm'
    cases hm'
    obtain ⟨a, b, _⟩ := hc h0
    refine ⟨Nat.le_trans hH a, fun r hd hr e => ?_, ?_⟩
    · have := (h.mix.own r hd hr).2.1
      omega
    · show GoodV (if m = m then v else sk.iv m) _ _ _ _
      rw [if_pos rfl]; exact b
  · intro hr _
    show (if m = m then v else sk.iv m) = _
    rw [if_pos rfl]
    exact hnl (Nat.eq_zero_of_not_pos fun h0 => hr ⟨md, hm, h0⟩)
  · by_cases e : m' = m
    · subst e
      rw [hm] at hm'
      cases hm'
      show SlOk (if m' = m' then v else sk.iv m') (if m' = m' then g else sk.ib m') (if m' = m' then 0 else sk.io m') _ ∧ ∀ i x, _ → ImAt _ (if m' = m' then g else sk.ib m') ((if m' = m' then 0 else sk.io m') + i * 5) _
      simp only [if_true]
      refine ⟨hv, fun i x hi => ?_⟩
      have hl := (List.getElem?_eq_some_iff.1 hi).1
      obtain ⟨hg, -, hc⟩ := hc (by omega)
      obtain ⟨p0, p1, p2, p3, p4⟩ := (hM m' md hm).imps i x hi
      have K : ∀ j u, j < 5 → w.cell? ⟨sk0.ib m', sk0.io m' + i * 5 + j, none⟩ = some u → w1.cell? ⟨g, 0 + i * 5 + j, none⟩ = some u := fun j u hj hu => by
        rw [Nat.zero_add, hc (i * 5 + j) (by omega), ← Nat.add_assoc]; exact hu
      exact ⟨K 0 _ (by omega) p0, K 1 _ (by omega) p1, K 2 _ (by omega) p2, K 3 _ (by omega) p3, K 4 _ (by omega) p4⟩
    · show SlOk (if m' = m then v else sk.iv m') (if m' = m then g else sk.ib m') (if m' = m then 0 else sk.io m') _ ∧ ∀ i x, _ → ImAt _ (if m' = m then g else sk.ib m') ((if m' = m then 0 else sk.io m') + i * 5) _
      simp only [if_neg e]
      exact h'.imps m' md' hm' (hd.resolve_right (fun he => e (by cases he; rfl)))
theorem Got.nds' (h : Got sk L f H D w) {m k g : Nat} {md : Md} {d : Df} {v : Value} (hn : ¬ D (.nds m k)) (hnd : ¬ D (.dfs m)) (hm : L[m]? = some md) (hdk : md.defs[k]? = some d) (hM : MAt sk0 w L f) (hb : Below w.heap.size w w1) (hH : H ≤ w.heap.size) (hv : SlOk v g 0 d.tree.length) (hnl : d.tree.length = 0 → v = .slice none 0 0)
    (hc : 0 < d.tree.length → w.heap.size ≤ g ∧ GoodV v g 8 81 w1 ∧ ∀ j, j < d.tree.length * 8 → w1.cell? ⟨g, j, none⟩ = w.cell? ⟨sk0.tb m k, sk0.to_ m k + j, none⟩) : Got (sk.nds m k g v) L f H (fun r => D r ∨ r = .nds m k) w1 := by
  have h' := h.later hb
  refine ⟨h.mix.more2 (r0 := .nds m k) (g := g) (fun r => Iff.rfl) hn hb.size (fun r hd hr => hb.block _ (h.mix.own r hd hr).2.1) (fun r hr => nds_else hr) ?_ ?_ ?_, fun m' md' hm' hd => h'.imps m' md' hm' (hd.resolve_right (fun he => by cases he)), fun m' md' hm' hd => ?_, fun m' md' i d' hm' hi hd => ?_⟩
  · show (if m = m ∧ k = k then g else sk.tb m k) = g
    simp only [and_self, if_true]
  · rintro ⟨md', d', hm', hd', h0⟩
    rw [hm] at hm'
    cases hm'
    rw [hdk] at hd'
    cases hd'
    obtain ⟨a, b, _⟩ := hc h0
    refine ⟨Nat.le_trans hH a, fun r hd hr e => ?_, ?_⟩
    · have := (h.mix.own r hd hr).2.1
      omega
    · show GoodV (if m = m ∧ k = k then v else sk.tv m k) _ _ _ _
      simp only [and_self, if_true]; exact b
  · intro hr _
    show (if m = m ∧ k = k then v else sk.tv m k) = _
    simp only [and_self, if_true]
    exact hnl (Nat.eq_zero_of_not_pos fun h0 => hr ⟨md, d, hm, hdk, h0⟩)
  · have hd2 := hd.resolve_right (fun he => by cases he)
    have e : m' ≠ m := fun e => hnd (e ▸ hd2)
    obtain ⟨h1, h2⟩ := h'.dfs m' md' hm' hd2
    refine ⟨h1, fun i x hi => ?_⟩
    show DfAt _ _ _ _ (if m' = m ∧ i = k then v else sk.tv m' i)
    rw [if_neg (fun he => e he.1)]
    exact h2 i x hi
  · by_cases e : m' = m ∧ i = k
    · obtain ⟨rfl, rfl⟩ := e
      rw [hm] at hm'
      cases hm'
      rw [hdk] at hi
      cases hi
      show SlOk (if m' = m' ∧ i = i then v else sk.tv m' i) (if m' = m' ∧ i = i then g else sk.tb m' i) (if m' = m' ∧ i = i then 0 else sk.to_ m' i) _ ∧ ∀ k x, _ → NdAt _ (if m' = m' ∧ i = i then g else sk.tb m' i) ((if m' = m' ∧ i = i then 0 else sk.to_ m' i) + k * 8) _
      simp only [and_self, if_true]
      refine ⟨hv, fun k' x hk' j u hj => ?_⟩
      have hl := (List.getElem?_eq_some_iff.1 hk').1
      have hj8 : j < 8 := (List.getElem?_eq_some_iff.1 hj).1
      obtain ⟨hg, -, hc⟩ := hc (by omega)
      have hu' := (hM m' md hm).nodes i d hdk k' x hk' j u hj
      rw [Nat.zero_add, hc (k' * 8 + j) (by omega), ← Nat.add_assoc]; exact hu'
    · show SlOk (if m' = m ∧ i = k then v else sk.tv m' i) (if m' = m ∧ i = k then g else sk.tb m' i) (if m' = m ∧ i = k then 0 else sk.to_ m' i) _ ∧ ∀ k' x, _ → NdAt _ (if m' = m ∧ i = k then g else sk.tb m' i) ((if m' = m ∧ i = k then 0 else sk.to_ m' i) + k' * 8) _
      simp only [if_neg e]
      exact h'.nds m' md' i d' hm' hi (hd.resolve_right (fun he => e (by cases he; exact ⟨rfl, rfl⟩)))
/-- Values that lie one behind the other, so many each. -/
def Laid6 (sk : Sk) (f : Pos → ByteArray) (m : Nat) (md : Md) (k : Nat) (xs : List Value) : Prop := xs.length = k * 6 ∧ ∀ i d j u, i < k → md.defs[i]? = some d → ((layDf f m i d).cells (sk.tv m i))[j]? = some u → xs[i * 6 + j]? = some u
def Laid5 (sk : Sk) (L : List Md) (k : Nat) (xs : List Value) : Prop := xs.length = k * 5 ∧ ∀ m md j u, m < k → L[m]? = some md → (md.cells (sk.iv m) (sk.dv m))[j]? = some u → xs[m * 5 + j]? = some u
theorem Laid6.add {m k g : Nat} {md : Md} {d : Df} {v : Value} {xs : List Value} (h : Laid6 sk f m md k xs) (hd : md.defs[k]? = some d) : Laid6 (sk.nds m k g v) f m md (k + 1) (xs ++ (layDf f m k d).cells v) := by
  obtain ⟨h1, h2⟩ := h
  refine ⟨by rw [List.length_append, h1]; simp [Df.cells]; omega, fun i d' j u hi hd' hj => ?_⟩
  have hj6 : j < 6 := (List.getElem?_eq_some_iff.1 hj).1
  by_cases e : i = k
  · subst e
    rw [hd] at hd'
    cases hd'
    rw [List.getElem?_append_right (by omega), show i * 6 + j - xs.length = j by omega]
    have e2 : (sk.nds m i g v).tv m i = v := by show (if m = m ∧ i = i then v else sk.tv m i) = v; simp
    rw [e2] at hj
    exact hj
  · have e2 : (sk.nds m k g v).tv m i = sk.tv m i := by show (if m = m ∧ i = k then v else sk.tv m i) = _; rw [if_neg (fun h => e h.2)]
    rw [e2] at hj
    rw [List.getElem?_append_left (by omega)]
    exact h2 i d' j u (by omega) hd' hj
theorem Laid5.add {m : Nat} {md : Md} {xs : List Value} (h : Laid5 sk L m xs) (hm : L[m]? = some md) : Laid5 sk L (m + 1) (xs ++ md.cells (sk.iv m) (sk.dv m)) := by
  obtain ⟨h1, h2⟩ := h
  refine ⟨by rw [List.length_append, h1]; simp [Md.cells]; omega, fun i d' j u hi hd' hj => ?_⟩
  have hj6 : j < 5 := (List.getElem?_eq_some_iff.1 hj).1
  by_cases e : i = m
  · subst e
    rw [hm] at hd'
    cases hd'
    rw [List.getElem?_append_right (by omega), show i * 5 + j - xs.length = j by omega]
    exact hj
  · rw [List.getElem?_append_left (by omega)]
    exact h2 i d' j u (by omega) hd' hj
/-- The skeleton of other modules does not count. -/
theorem Laid5.other {k : Nat} {xs : List Value} (h : Laid5 sk L k xs) (hs : ∀ m, m < k → sk'.iv m = sk.iv m ∧ sk'.dv m = sk.dv m) : Laid5 sk' L k xs := ⟨h.1, fun m md j u hm hL hj => by
  rw [(hs m hm).1, (hs m hm).2] at hj
  exact h.2 m md j u hm hL hj⟩
theorem good_own {e : TypeId} {size n : Nat} {v : Value} {xs : List Value} (h : w.ownsRow H e size v n xs) (hn : 0 < n) (h0 : 0 < size) : ∃ g, SlOk v g 0 n ∧ GoodV v g size e w ∧ H ≤ g ∧ v.ownBlock = some g ∧ ∀ j u, xs[j]? = some u → w.cell? ⟨g, j, none⟩ = some u := by
  have hl := h.1
  rcases h.2 with ⟨_, rfl⟩ | ⟨g, cap, cur, rfl, hb, hh, hc, hcm, hsz, htk⟩
  · omega
  · refine ⟨g, ⟨_, cap, rfl, hc, fun _ => rfl⟩, ⟨n, cap, cur, rfl, hc, hcm, hh, hsz⟩, hb, rfl, fun j u hj => ?_⟩
    have hjl := (List.getElem?_eq_some_iff.1 hj).1
    rw [h.cellAt j (by omega)]; exact hj
theorem Got.dfs' (h : Got sk L f H D w) {m : Nat} {md : Md} {v : Value} {xs : List Value} (hn : ¬ D (.dfs m)) (hm : L[m]? = some md) (ho : w.ownsRow H 84 6 v md.defs.length xs) (hl : Laid6 sk f m md md.defs.length xs) (h0 : md.defs.length = 0 → v = .slice none 0 0) (ha : Away sk L D v) : ∃ g, Got (sk.dfs m g v) L f H (fun r => D r ∨ r = .dfs m) w ∧ (0 < md.defs.length → v.ownBlock = some g) := by
  have hG : ∃ g, SlOk v g 0 md.defs.length ∧ (0 < md.defs.length → GoodV v g 6 84 w ∧ H ≤ g ∧ v.ownBlock = some g ∧ ∀ j u, xs[j]? = some u → w.cell? ⟨g, j, none⟩ = some u) := by
    rcases Nat.eq_zero_or_pos md.defs.length with hz | hp
    · exact ⟨0, ⟨none, 0, by rw [h0 hz, hz], by omega, fun h => by omega⟩, fun h => by omega⟩
    · obtain ⟨g, a, b⟩ := good_own ho hp (by decide)
      exact ⟨g, a, fun _ => b⟩
  obtain ⟨g, hs, hc⟩ := hG
  refine ⟨g, ⟨h.mix.more2 (r0 := .dfs m) (g := g) (fun r => Iff.rfl) hn (Nat.le_refl _) (fun _ _ _ => rfl) (fun r hr => dfs_else hr) ?_ ?_ ?_, fun m' md' hm' hd => h.imps m' md' hm' (hd.resolve_right (fun he => by cases he)), fun m' md' hm' hd => ?_, fun m' md' i d' hm' hi hd => h.nds m' md' i d' hm' hi (hd.resolve_right (fun he => by cases he))⟩, fun hp => (hc hp).2.2.1⟩
  · show (if m = m then g else sk.db m) = g
    rw [if_pos rfl]
  · rintro ⟨md', hm', hp⟩
    rw [hm] at hm'
    cases hm'
    obtain ⟨a, b, c, _⟩ := hc hp
    refine ⟨b, fun r hd hr e => ha r hd hr (by rw [c, e]), ?_⟩
    show GoodV (if m = m then v else sk.dv m) _ _ _ _
    rw [if_pos rfl]; exact a
  · intro hr _
    show (if m = m then v else sk.dv m) = _
    rw [if_pos rfl]
    exact h0 (Nat.eq_zero_of_not_pos fun hp => hr ⟨md, hm, hp⟩)
  · by_cases e : m' = m
    · subst e
      rw [hm] at hm'
      cases hm'
      show SlOk (if m' = m' then v else sk.dv m') (if m' = m' then g else sk.db m') (if m' = m' then 0 else sk.do_ m') _ ∧ ∀ i d, _ → DfAt _ (if m' = m' then g else sk.db m') ((if m' = m' then 0 else sk.do_ m') + i * 6) _ _
      simp only [if_true]
      refine ⟨hs, fun i d hi => ?_⟩
      have hil := (List.getElem?_eq_some_iff.1 hi).1
      obtain ⟨-, -, -, hc⟩ := hc (by omega)
      have K : ∀ j u, ((layDf f m' i d).cells (sk.tv m' i))[j]? = some u → w.cell? ⟨g, 0 + i * 6 + j, none⟩ = some u := fun j u hj => by
        rw [Nat.zero_add]; exact hc _ _ (hl.2 i d j u hil hi hj)
      exact ⟨K 0 _ rfl, K 1 _ rfl, K 2 _ rfl, K 3 _ rfl, K 4 _ rfl, K 5 _ rfl⟩
    · show SlOk (if m' = m then v else sk.dv m') (if m' = m then g else sk.db m') (if m' = m then 0 else sk.do_ m') _ ∧ ∀ i d, _ → DfAt _ (if m' = m then g else sk.db m') ((if m' = m then 0 else sk.do_ m') + i * 6) _ _
      simp only [if_neg e]
      exact h.dfs m' md' hm' (hd.resolve_right (fun he => e (by cases he; rfl)))
/-- All of it. -/
theorem Got.all (h : Got sk L f H D w) {v : Value} {ys : List Value} (hD : ∀ r : Row, r.is L → r ≠ .all → D r) (hn : ¬ D .all) (ho : w.ownsRow H 88 5 v L.length ys) (hl : Laid5 sk L L.length ys) (h0 : L.length = 0 → v = .slice none 0 0) (ha : Away sk L D v) : ∃ sk', SlOk v sk'.b sk'.o L.length ∧ MAt sk' w L f ∧ Mixed sk' H L (fun _ => True) w ∧ sk'.v = v := by
  have hG : ∃ g, SlOk v g 0 L.length ∧ (0 < L.length → GoodV v g 5 88 w ∧ H ≤ g ∧ v.ownBlock = some g ∧ ∀ j u, ys[j]? = some u → w.cell? ⟨g, j, none⟩ = some u) := by
    rcases Nat.eq_zero_or_pos L.length with hz | hp
    · exact ⟨0, ⟨none, 0, by rw [h0 hz, hz], by omega, fun h => by omega⟩, fun h => by omega⟩
    · obtain ⟨g, a, b⟩ := good_own ho hp (by decide)
      exact ⟨g, a, fun _ => b⟩
  obtain ⟨g, hs, hc⟩ := hG
  have hmix : Mixed (sk.row g v) H L (fun r => D r ∨ r = .all) w := by
    refine h.mix.more2 (r0 := .all) (g := g) (fun r => Iff.rfl) hn (Nat.le_refl _) (fun _ _ _ => rfl) (fun r hr => row_else hr) rfl ?_ ?_
    · intro hp
      have hp : 0 < L.length := hp
      obtain ⟨a, b, c, _⟩ := hc hp
      exact ⟨b, fun r hd hr e => ha r hd hr (by rw [c, e]), a⟩
    · intro hr _
      exact h0 (Nat.eq_zero_of_not_pos hr)
  have hT : ∀ r : Row, r.is L → (D r ∨ r = .all) := fun r hr => by
    by_cases e : r = .all
    · exact .inr e
    · exact .inl (hD r hr e)
  refine ⟨sk.row g v, hs, fun m md hm => ?_, ⟨fun r r' _ _ c d => hmix.inj r r' (hT r c.is) (hT r' d.is) c d, fun r _ b => hmix.own r (hT r b.is) b, fun r _ b => hmix.nil r (hT r b) b, fun r a _ => absurd trivial a⟩, rfl⟩
  have hml := (List.getElem?_eq_some_iff.1 hm).1
  obtain ⟨-, -, -, hc⟩ := hc (by omega)
  have K : ∀ j u, (md.cells (sk.iv m) (sk.dv m))[j]? = some u → w.cell? ⟨g, 0 + m * 5 + j, none⟩ = some u := fun j u hj => by
    rw [Nat.zero_add]; exact hc _ _ (hl.2 m md j u hml hm hj)
  obtain ⟨i1, i2⟩ := h.imps m md hm (hD (.imp m) ⟨md, hm⟩ (fun e => by cases e))
  obtain ⟨d1, d2⟩ := h.dfs m md hm (hD (.dfs m) ⟨md, hm⟩ (fun e => by cases e))
  exact ⟨⟨K 0 _ rfl, K 1 _ rfl, K 2 _ rfl, K 3 _ rfl, K 4 _ rfl⟩, i1, d1, i2, fun i d hi => ⟨d2 i d hi, (h.nds m md i d hm hi (hD (.nds m i) ⟨md, d, hm, hi⟩ (fun e => by cases e))).1⟩, fun i d hi => (h.nds m md i d hm hi (hD (.nds m i) ⟨md, d, hm, hi⟩ (fun e => by cases e))).2⟩
end
end Culp.Er

/- Walks of the document's chapter 25: Copied. -/
namespace Culp.Er
set_option linter.unusedSimpArgs false
set_option linter.unusedVariables false
open Go Go.RowKit Culp
/-- The rows of the first modules; those of the module at hand. -/
def doneM (m : Nat) : Row → Prop
  | .all => False
  | .imp j => j < m
  | .dfs j => j < m
  | .nds j _ => j < m
def doneD (m k : Nat) (r : Row) : Prop := (doneM m r ∨ r = .imp m) ∨ ∃ i, i < k ∧ r = .nds m i
theorem doneD_succ {m k : Nat} {r : Row} : doneD m (k + 1) r ↔ doneD m k r ∨ r = .nds m k := by
  constructor
  · rintro (h | ⟨i, hi, h⟩)
    · exact .inl (.inl h)
    · rcases Nat.lt_or_ge i k with h2 | h2
      · exact .inl (.inr ⟨i, h2, h⟩)
      · obtain rfl : i = k := by omega
        exact .inr h
  · rintro ((h | ⟨i, hi, h⟩) | h)
    · exact .inl h
    · exact .inr ⟨i, by omega, h⟩
    · exact .inr ⟨k, by omega, h⟩
theorem doneD_zero {m : Nat} {r : Row} : doneD m 0 r ↔ doneM m r ∨ r = .imp m := by
  constructor
  · rintro (h | ⟨i, hi, h⟩)
    · exact h
    · omega
  · exact fun h => .inl h
theorem doneM_succ {L : List Md} {m : Nat} {md : Md} {r : Row} (hm : L[m]? = some md) (hr : r.is L) : doneM (m + 1) r ↔ doneD m md.defs.length r ∨ r = .dfs m := by
  cases r with
  | all => exact ⟨fun h => h.elim, fun h => by rcases h with ((h | h) | ⟨i, hi, h⟩) | h <;> first | exact h | cases h⟩
  | imp j => exact ⟨fun h => by
      rcases Nat.lt_or_ge j m with h2 | h2
      · exact .inl (.inl (.inl h2))
      · have h : j < m + 1 := h
        obtain rfl : j = m := by omega
        exact .inl (.inl (.inr rfl)), fun h => by
      show j < m + 1
      rcases h with ((h | h) | ⟨i, hi, h⟩) | h
      · have h : j < m := h
        omega
      · cases h; omega
      · cases h
      · cases h⟩
  | dfs j => exact ⟨fun h => by
      rcases Nat.lt_or_ge j m with h2 | h2
      · exact .inl (.inl (.inl h2))
      · have h : j < m + 1 := h
        obtain rfl : j = m := by omega
        exact .inr rfl, fun h => by
      show j < m + 1
      rcases h with ((h | h) | ⟨i, hi, h⟩) | h
      · have h : j < m := h
        omega
      · cases h
      · cases h
      · cases h; omega⟩
  | nds j i => exact ⟨fun h => by
      rcases Nat.lt_or_ge j m with h2 | h2
      · exact .inl (.inl (.inl h2))
      · have h : j < m + 1 := h
        obtain rfl : j = m := by omega
        obtain ⟨md', d', hm', hd'⟩ := hr
        rw [hm] at hm'
        cases hm'
        have := (List.getElem?_eq_some_iff.1 hd').1
        exact .inl (.inr ⟨i, by omega, rfl⟩), fun h => by
      show j < m + 1
      rcases h with ((h | h) | ⟨i, hi, h⟩) | h
      · have h : j < m := h
        omega
      · cases h
      · cases h; omega
      · cases h⟩
theorem doneM_lt {m : Nat} : ¬ doneM m (.imp m) ∧ ¬ doneM m (.dfs m) ∧ ∀ i, ¬ doneM m (.nds m i) := ⟨Nat.lt_irrefl m, Nat.lt_irrefl m, fun _ => Nat.lt_irrefl m⟩
theorem doneD_dfs {m k : Nat} : ¬ doneD m k (.dfs m) := by
  rintro ((h | h) | ⟨i, hi, h⟩)
  · exact doneM_lt.2.1 h
  · cases h
  · cases h
theorem doneD_nds {m k : Nat} : ¬ doneD m k (.nds m k) := by
  rintro ((h | h) | ⟨i, hi, h⟩)
  · exact doneM_lt.2.2 k h
  · cases h
  · cases h; omega
section
variable {sk sk' sk0 : Sk} {H : Nat} {L : List Md} {D D' : Row → Prop} {w w' w1 W : World} {f : Pos → ByteArray}
theorem Got.set (h : Got sk L f H D w) {a : Addr} {v : Value} (ha : ∀ r : Row, D r → r.has L → r.blk sk ≠ a.block) : Got sk L f H D (w.setCell a v) :=
  h.stay (by rw [World.size_setCell]; exact Nat.le_refl _) fun r hd hr => Below.heap_setCell _ _ _ _ (ha r hd hr)
theorem blk_put {g i : Nat} {cs : Array Value} {t : TypeId} {v : Value} (h : Blk g cs t w) : Blk g (cs.setIfInBounds i v) t (w.setCell ⟨g, i, none⟩ v) := by
  unfold Blk at *
  simp [World.setCell, Array.getElem?_modify, h]
theorem blk_else {g : Nat} {cs : Array Value} {t : TypeId} {a : Addr} {v : Value} (h : Blk g cs t w) (hn : g ≠ a.block) : Blk g cs t (w.setCell a v) := by
  unfold Blk at *
  rw [Below.heap_setCell _ _ _ _ hn]; exact h
theorem blk_grown {g : Nat} {cs : Array Value} {t : TypeId} {o : Option Nat} (h : Blk g cs t w) (hg : w.grownBy w' o) (hn : o ≠ some g) : Blk g cs t w' := by
  have hl := h.lt
  unfold Blk at *
  rw [hg.block g hl (fun e => hn e.symm)]; exact h
theorem own_set {e : TypeId} {size n : Nat} {v u : Value} {xs : List Value} {a : Addr} (h : w.ownsRow H e size v n xs) (hn : v.ownBlock ≠ some a.block) : (w.setCell a u).ownsRow H e size v n xs := by
  refine ⟨h.1, ?_⟩
  rcases h.2 with h2 | ⟨g', cap, cur, rfl, hb, hh, h3⟩
  · exact .inl h2
  · refine .inr ⟨g', cap, cur, rfl, hb, ?_, h3⟩
    rw [Below.heap_setCell _ _ _ _ (fun e => hn (by rw [← e]; rfl))]; exact hh
/-- A module is being put together. -/
structure CopD (sk : Sk) (L : List Md) (f : Pos → ByteArray) (w : World) (m : Nat) (md : Md) (k gb : Nat) (ov : Value) (ys : List Value) (iv dv : Value) (xs : List Value) (W : World) : Prop where
  below : Below w.heap.size w W
  got : Got sk L f w.heap.size (doneD m k) W
  out : W.ownsRow w.heap.size 88 5 ov m ys
  lay5 : Laid5 sk L m ys
  nil5 : m = 0 → ov = .slice none 0 0
  away5 : Away sk L (doneD m k) ov
  box : Blk gb #[.string md.name, iv, dv, .int .i64 md.line, .int .i64 md.col] 88 W
  geb : w.heap.size ≤ gb
  iv : sk.iv m = iv
  row : W.ownsRow w.heap.size 84 6 dv k xs
  lay6 : Laid6 sk f m md k xs
  nil6 : k = 0 → dv = .slice none 0 0
  away6 : Away sk L (doneD m k) dv
  ap : Culp.Apart dv ov
  nb5 : ov.ownBlock ≠ some gb
  nb6 : dv.ownBlock ≠ some gb
  ngb : ∀ r : Row, doneD m k r → r.has L → r.blk sk ≠ gb
/-- The state between modules. -/
structure CopM (sk : Sk) (L : List Md) (f : Pos → ByteArray) (w : World) (m : Nat) (ov : Value) (ys : List Value) (W : World) : Prop where
  below : Below w.heap.size w W
  got : Got sk L f w.heap.size (doneM m) W
  out : W.ownsRow w.heap.size 88 5 ov m ys
  lay5 : Laid5 sk L m ys
  nil5 : m = 0 → ov = .slice none 0 0
  away5 : Away sk L (doneM m) ov
theorem CopM.init (hu : Under sk w.heap.size L) : CopM sk L f w 0 (.slice none 0 0) [] w := by
  have hno : ∀ r : Row, ¬ doneM 0 r := fun r h => by
    cases r with
    | all => exact h
    | imp j => exact Nat.not_lt_zero _ h
    | dfs j => exact Nat.not_lt_zero _ h
    | nds j i => exact Nat.not_lt_zero _ h
  exact
    { below := Below.refl _ _
      got :=
        { mix := ⟨fun r r' a => absurd a (hno r), fun r a => absurd a (hno r), fun r a => absurd a (hno r), fun r _ hr => hu.blk hr⟩
          imps := fun m md _ hd => absurd hd (hno _)
          dfs := fun m md _ hd => absurd hd (hno _)
          nds := fun m md i d _ _ hd => absurd hd (hno _) }
      out := World.ownsRow_nil _ _ _ _
      lay5 := ⟨rfl, fun m md j u hm => absurd hm (Nat.not_lt_zero _)⟩
      nil5 := fun _ => rfl
      away5 := fun r hd => absurd hd (hno r) }
theorem CopM.start {m gb g : Nat} {md : Md} {ov v : Value} {ys : List Value} (h : CopM sk L f w m ov ys W) (hm : L[m]? = some md) (hM : MAt sk0 w L f) (hu : Under sk0 w.heap.size L) (hgb : gb = W.heap.size) (hb1 : Below W.heap.size W w1)
    (hbk : Blk gb #[.string md.name, .slice none 0 0, .slice none 0 0, .int .i64 md.line, .int .i64 md.col] 88 w1) {w2 : World} (hb2 : Below w1.heap.size w1 w2) (hv : SlOk v g 0 md.imps.length) (hnl : md.imps.length = 0 → v = .slice none 0 0)
    (hc : 0 < md.imps.length → w1.heap.size ≤ g ∧ GoodV v g 5 90 w2 ∧ ∀ j, j < md.imps.length * 5 → w2.cell? ⟨g, j, none⟩ = w1.cell? ⟨sk0.ib m, sk0.io m + j, none⟩) :
    CopD (sk.imp m g v) L f w m md 0 gb ov ys v (.slice none 0 0) [] (w2.setCell ⟨gb, 1, none⟩ v) := by
  subst hgb
  have hB1 := h.below.trans (hb1.mono h.below.size)
  have hlt1 := hbk.lt
  have hsz := h.below.size
  have hB2 : Below w.heap.size w w2 := hB1.trans (hb2.mono hB1.size)
  have hG1 := (h.got.later hb1).imp doneM_lt.1 hm (hM.keep hu hB1) hb2 hB1.size hv hnl hc
  have hn : ∀ r : Row, doneD m 0 r → r.has L → r.blk (sk.imp m g v) ≠ W.heap.size := fun r hd hr => by
    rcases doneD_zero.1 hd with hd | rfl
    · have hne : r ≠ .imp m := fun e => doneM_lt.1 (e ▸ hd)
      rw [(imp_else hne).1]
      have := (h.got.mix.own r hd hr).2.1
      omega
    · obtain ⟨md', hm', h0⟩ := hr
      rw [hm] at hm'
      cases hm'
      show (if m = m then g else sk.ib m) ≠ _
      rw [if_pos rfl]
      have := (hc h0).1
      omega
  have hobl : ∀ b, ov.ownBlock = some b → b < W.heap.size := fun b hb => (h.out.lt b hb).2
  have hnb : ov.ownBlock ≠ some W.heap.size := fun e => Nat.lt_irrefl _ (hobl _ e)
  have hG2 := (hG1.mono (D' := doneD m 0) (fun r _ => doneD_zero)).set (a := ⟨W.heap.size, 1, none⟩) (v := v) hn
  have hiv : (sk.imp m g v).iv m = v := by show (if m = m then v else sk.iv m) = v; rw [if_pos rfl]
  exact
    { below := below_setCell hB2 hsz
      got := hG2
      out := own_set (own_later (own_later h.out hb1) hb2) hnb
      lay5 := h.lay5.other fun j hj => ⟨by show (if j = m then v else sk.iv j) = _; rw [if_neg (by omega)], rfl⟩
      nil5 := h.nil5
      away5 := fun r hd hr e => by
        rcases doneD_zero.1 hd with hd | rfl
        · have hne : r ≠ .imp m := fun e => doneM_lt.1 (e ▸ hd)
          rw [(imp_else hne).1] at e
          exact h.away5 r hd hr e
        · obtain ⟨md', hm', h0⟩ := hr
          rw [hm] at hm'
          cases hm'
          have e2 : (Row.imp m).blk (sk.imp m g v) = g := by show (if m = m then g else sk.ib m) = g; rw [if_pos rfl]
          rw [e2] at e
          have := hobl _ e
          have := (hc h0).1
          have := hb1.size
          omega
      box := blk_put (i := 1) (v := v) (hbk.later hb2)
      geb := hsz
      iv := hiv
      row := World.ownsRow_nil _ _ _ _
      lay6 := ⟨rfl, fun i d j u hi => absurd hi (Nat.not_lt_zero _)⟩
      nil6 := fun _ => rfl
      away6 := fun r _ _ e => by cases e
      ap := fun k hk => by cases hk
      nb5 := hnb
      nb6 := fun e => by cases e
      ngb := hn }
theorem CopD.mid {m k gb g : Nat} {md : Md} {d : Df} {ov iv dv v : Value} {ys xs : List Value} {cs : Array Value} (h : CopD sk L f w m md k gb ov ys iv dv xs W) (hcs : cs.size = 6) {w5 : World} (hb5 : Below (W.alloc (.cells cs 84)).heap.size (W.alloc (.cells cs 84)) w5) :
    (w5.setCell ⟨W.heap.size, 3, none⟩ v).ownsRow w.heap.size 84 6 dv k xs ∧ Blk gb #[.string md.name, iv, dv, .int .i64 md.line, .int .i64 md.col] 88 (w5.setCell ⟨W.heap.size, 3, none⟩ v) ∧ Blk W.heap.size (cs.setIfInBounds 3 v) 84 (w5.setCell ⟨W.heap.size, 3, none⟩ v) ∧ Below w.heap.size w (w5.setCell ⟨W.heap.size, 3, none⟩ v) ∧ W.heap.size + 1 ≤ (w5.setCell ⟨W.heap.size, 3, none⟩ v).heap.size := by
  have hba : Below W.heap.size W (W.alloc (.cells cs 84)) := (Below.refl _ _).alloc (Nat.le_refl _) _
  have hbl := h.box.lt
  have hs5 := hb5.size
  rw [World.size_alloc] at hs5
  refine ⟨own_set (own_later (own_later h.row hba) hb5) (fun e => ?_), blk_else ((h.box.later hba).later hb5) (by show gb ≠ W.heap.size; omega), blk_put ((Blk.alloc W cs _).later hb5), below_setCell ((h.below.trans (hba.mono h.below.size)).trans (hb5.mono (by rw [World.size_alloc]; have := h.below.size; omega))) h.below.size, by rw [World.size_setCell]; exact hs5⟩
  exact Nat.lt_irrefl _ (h.row.lt _ e).2
theorem CopD.step {m k gb g : Nat} {md : Md} {d : Df} {ov iv dv v v' : Value} {ys xs : List Value} {cs : Array Value} (h : CopD sk L f w m md k gb ov ys iv dv xs W) (hm : L[m]? = some md) (hd : md.defs[k]? = some d) (hM : MAt sk0 w L f) (hu : Under sk0 w.heap.size L) {w5 w6 : World} (hb5 : Below (W.alloc (.cells cs 84)).heap.size (W.alloc (.cells cs 84)) w5)
    (hv : SlOk v g 0 d.tree.length) (hnl : d.tree.length = 0 → v = .slice none 0 0) (hc : 0 < d.tree.length → (W.alloc (.cells cs 84)).heap.size ≤ g ∧ GoodV v g 8 81 w5 ∧ ∀ j, j < d.tree.length * 8 → w5.cell? ⟨g, j, none⟩ = (W.alloc (.cells cs 84)).cell? ⟨sk0.tb m k, sk0.to_ m k + j, none⟩)
    (ho : w6.ownsRow w.heap.size 84 6 v' (k + 1) (xs ++ (layDf f m k d).cells v)) (hg : (w5.setCell ⟨W.heap.size, 3, none⟩ v).grownBy w6 dv.ownBlock) (hb : Below w.heap.size (w5.setCell ⟨W.heap.size, 3, none⟩ v) w6) (hat : v'.ownBlock = dv.ownBlock ∨ v'.ownBlock = some ((w5.setCell ⟨W.heap.size, 3, none⟩ v).heap.size + 1)) :
    CopD (sk.nds m k g v) L f w m md (k + 1) gb ov ys iv v' (xs ++ (layDf f m k d).cells v) (w6.setCell ⟨gb, 2, none⟩ v') := by
  have hba : Below W.heap.size W (W.alloc (.cells cs 84)) := (Below.refl _ _).alloc (Nat.le_refl _) _
  have hBa := h.below.trans (hba.mono h.below.size)
  have hbl := h.box.lt
  have hs5 := hb5.size
  have hsa : (W.alloc (.cells cs 84)).heap.size = W.heap.size + 1 := World.size_alloc _ _
  have hs6 := hb.size
  rw [World.size_setCell] at hs6 hat
  have hsz := h.below.size
  have hG1 := (h.got.later hba).nds' doneD_nds doneD_dfs hm hd (hM.keep hu hBa) hb5 hBa.size hv hnl hc
  -- blocks of the rows that are done
  have hblk : ∀ r : Row, (doneD m k r ∨ r = .nds m k) → r.has L → (doneD m k r ∧ r.blk (sk.nds m k g v) = r.blk sk ∧ r.blk sk < W.heap.size) ∨ (r = .nds m k ∧ r.blk (sk.nds m k g v) = g ∧ W.heap.size + 1 ≤ g ∧ g < w5.heap.size) := fun r hd' hr => by
    rcases hd' with hd' | rfl
    · have hne : r ≠ .nds m k := fun e => doneD_nds (e ▸ hd')
      exact .inl ⟨hd', (nds_else hne).1, (h.got.mix.own r hd' hr).2.1⟩
    · obtain ⟨md', d', hm', hd', h0⟩ := hr
      rw [hm] at hm'
      cases hm'
      rw [hd] at hd'
      cases hd'
      obtain ⟨a, ⟨_, _, _, _, _, _, b, _⟩, _⟩ := hc h0
      refine .inr ⟨rfl, ?_, by omega, (Array.getElem?_eq_some_iff.1 b).1⟩
      show (if m = m ∧ k = k then g else sk.tb m k) = g
      simp
  have hG2 : Got (sk.nds m k g v) L f w.heap.size (fun r => doneD m k r ∨ r = .nds m k) (w5.setCell ⟨W.heap.size, 3, none⟩ v) := hG1.set fun r hd' hr => by
    show _ ≠ W.heap.size
    rcases hblk r hd' hr with ⟨_, e, b⟩ | ⟨_, e, b, _⟩ <;> rw [e] <;> omega
  have haw : Away (sk.nds m k g v) L (fun r => doneD m k r ∨ r = .nds m k) dv := fun r hd' hr e => by
    rcases hblk r hd' hr with ⟨a, e2, b⟩ | ⟨_, e2, b, _⟩
    · rw [e2] at e
      exact h.away6 r a hr e
    · rw [e2] at e
      have := (h.row.lt _ e).2
      omega
  have hG3 := (hG2.grown hg haw).mono (D' := doneD m (k + 1)) (fun r _ => doneD_succ)
  have hn : ∀ r : Row, doneD m (k + 1) r → r.has L → r.blk (sk.nds m k g v) ≠ gb := fun r hd' hr => by
    rcases hblk r (doneD_succ.1 hd') hr with ⟨a, e, _⟩ | ⟨_, e, b, _⟩
    · rw [e]; exact h.ngb r a hr
    · rw [e]; omega
  have hov : ∀ b, ov.ownBlock = some b → b < W.heap.size := fun b e => (h.out.lt b e).2
  have hdv : ∀ b, dv.ownBlock = some b → b < W.heap.size := fun b e => (h.row.lt b e).2
  have hnb6 : v'.ownBlock ≠ some gb := fun e => by
    rcases hat with a | a
    · exact h.nb6 (a ▸ e)
    · rw [a] at e
      injection e with e
      omega
  have hBl6 : Below w.heap.size w w6 := (below_setCell (hBa.trans (hb5.mono hBa.size)) hsz).trans hb
  have hout : w6.ownsRow w.heap.size 88 5 ov m ys := own_apart_grown (own_set (own_later (own_later h.out hba) hb5) (fun e => Nat.lt_irrefl _ (hov _ e))) hg h.ap
  exact
    { below := below_setCell hBl6 h.geb
      got := hG3.set hn
      out := own_set hout h.nb5
      lay5 := h.lay5.other fun j hj => ⟨rfl, rfl⟩
      nil5 := h.nil5
      away5 := fun r hd' hr e => by
        rcases hblk r (doneD_succ.1 hd') hr with ⟨a, e2, _⟩ | ⟨_, e2, b, _⟩
        · rw [e2] at e
          exact h.away5 r a hr e
        · rw [e2] at e
          have := hov _ e
          omega
      box := blk_put (i := 2) (v := v') (blk_grown (blk_else ((h.box.later hba).later hb5) (by show gb ≠ W.heap.size; omega)) hg h.nb6)
      geb := h.geb
      iv := h.iv
      row := own_set ho hnb6
      lay6 := h.lay6.add hd
      nil6 := fun e => by omega
      away6 := fun r hd' hr e => by
        rcases hat with a | a
        · exact haw r (doneD_succ.1 hd') hr (a ▸ e)
        · rw [a] at e
          injection e with e
          rcases hblk r (doneD_succ.1 hd') hr with ⟨_, e2, b⟩ | ⟨_, e2, _, b⟩ <;> rw [e2] at e <;> omega
      ap := fun j hj e => by
        rcases hat with a | a
        · exact h.ap j (a ▸ hj) e
        · rw [a] at hj
          injection hj with hj
          have := hov _ e
          omega
      nb5 := h.nb5
      nb6 := hnb6
      ngb := hn }
theorem CopD.done {m gb : Nat} {md : Md} {ov iv dv v' : Value} {ys xs : List Value} (h : CopD sk L f w m md md.defs.length gb ov ys iv dv xs W) (hm : L[m]? = some md) (ho : w'.ownsRow w.heap.size 88 5 v' (m + 1) (ys ++ md.cells iv dv)) (hg : W.grownBy w' ov.ownBlock) (hb : Below w.heap.size W w') (hat : v'.ownBlock = ov.ownBlock ∨ v'.ownBlock = some (W.heap.size + 1)) :
    ∃ sk', CopM sk' L f w (m + 1) v' (ys ++ md.cells iv dv) w' := by
  obtain ⟨g, hG, hgo⟩ := h.got.dfs' doneD_dfs hm h.row h.lay6 h.nil6 h.away6
  have hblk : ∀ r : Row, (doneD m md.defs.length r ∨ r = .dfs m) → r.has L → (doneD m md.defs.length r ∧ r.blk (sk.dfs m g dv) = r.blk sk ∧ r.blk sk < W.heap.size) ∨ (r = .dfs m ∧ r.blk (sk.dfs m g dv) = g ∧ dv.ownBlock = some g ∧ g < W.heap.size) := fun r hd' hr => by
    rcases hd' with hd' | rfl
    · have hne : r ≠ .dfs m := fun e => doneD_dfs (e ▸ hd')
      exact .inl ⟨hd', (dfs_else hne).1, (h.got.mix.own r hd' hr).2.1⟩
    · obtain ⟨md', hm', h0⟩ := hr
      rw [hm] at hm'
      cases hm'
      refine .inr ⟨rfl, ?_, hgo h0, (h.row.lt _ (hgo h0)).2⟩
      show (if m = m then g else sk.db m) = g
      rw [if_pos rfl]
  have haw : Away (sk.dfs m g dv) L (fun r => doneD m md.defs.length r ∨ r = .dfs m) ov := fun r hd' hr e => by
    rcases hblk r hd' hr with ⟨a, e2, b⟩ | ⟨_, e2, b, _⟩
    · rw [e2] at e
      exact h.away5 r a hr e
    · rw [e2] at e
      exact h.ap g b e
  have hG3 := (hG.grown hg haw).mono (D' := doneM (m + 1)) (fun r hr => doneM_succ hm hr)
  have hl5 : Laid5 (sk.dfs m g dv) L m ys := h.lay5.other fun j hj => ⟨rfl, by show (if j = m then dv else sk.dv j) = _; rw [if_neg (by omega)]⟩
  have e1 : (sk.dfs m g dv).dv m = dv := by show (if m = m then dv else sk.dv m) = dv; rw [if_pos rfl]
  have e2 : (sk.dfs m g dv).iv m = iv := h.iv
  have hl := hl5.add hm
  rw [e1, e2] at hl
  exact ⟨sk.dfs m g dv,
    { below := h.below.trans hb
      got := hG3
      out := ho
      lay5 := hl
      nil5 := fun e => by omega
      away5 := fun r hd' hr e => by
        have hd2 := (doneM_succ hm hr.is).1 hd'
        rcases hat with a | a
        · exact haw r hd2 hr (a ▸ e)
        · rw [a] at e
          injection e with e
          rcases hblk r hd2 hr with ⟨_, e2, b⟩ | ⟨_, e2, _, b⟩ <;> rw [e2] at e <;> omega }⟩
theorem CopM.all {ov : Value} {ys : List Value} (h : CopM sk L f w L.length ov ys W) : ∃ sk', SlOk ov sk'.b sk'.o L.length ∧ MAt sk' W L f ∧ Mixed sk' w.heap.size L (fun _ => True) W ∧ sk'.v = ov := by
  refine h.got.all (fun r hr hne => ?_) (fun h => h) h.out h.lay5 h.nil5 h.away5
  cases r with
  | all => exact absurd rfl hne
  | imp j => obtain ⟨md, hm⟩ := hr; have := (List.getElem?_eq_some_iff.1 hm).1; show j < L.length; omega
  | dfs j => obtain ⟨md, hm⟩ := hr; have := (List.getElem?_eq_some_iff.1 hm).1; show j < L.length; omega
  | nds j i => obtain ⟨md, _, hm, _⟩ := hr; have := (List.getElem?_eq_some_iff.1 hm).1; show j < L.length; omega
end
end Culp.Er

/- Walks of the document's chapter 25: Copied; what Lay and Keep ask of it. -/
namespace Go.Proofs.YtidholghbjljaaaGreatDoor
set_option linter.unusedSimpArgs false
set_option linter.unusedVariables false
open Go.RowKit Go.Maps Culp Culp.Er
theorem alloc_row2 (w : World) (zs cs : Array Value) (t : TypeId) : (w.alloc (.cells zs t)).setRow w.heap.size cs = w.alloc (.cells cs t) := by
  unfold World.setRow World.alloc
  congr 1
  apply Array.ext_getElem?
  intro k
  rw [Array.getElem?_modify, Array.getElem?_push, Array.getElem?_push]
  by_cases h : k = w.heap.size
  · subst h; simp
  · rw [if_neg h, if_neg h, if_neg (fun e => h e.symm)]
theorem drew_row2 (w : World) (zs cs : Array Value) (t : TypeId) : (w.drew.alloc (.cells zs t)).setRow w.heap.size cs = w.drew.alloc (.cells cs t) := alloc_row2 w.drew zs cs t
set_option maxRecDepth 100000 in
set_option maxHeartbeats 12800000 in
theorem rCopied_any (sk0 : Sk) (L : List Md) (f : Pos → ByteArray) (A : Option Addr) (c : Nat) (w : World) (hA : 0 < L.length → A = some ⟨sk0.b, sk0.o, none⟩) (hM : MAt sk0 w L f) (hu : Under sk0 w.heap.size L) (hl : Lens L) : Calls Tryz.prog 71 #[.slice A L.length c] w (CopiedRes L f w) := by
  have hlen := hl.len
  have HLn := Lib.hid hl
  have HM := Lib.hid hM
  have HU := Lib.hid hu
  have HI := Lib.hid (CopM.init (f := f) hu)
  have HA := Lib.hid hA
  clear hl hM hu hA
  go_enter Tryz.func71, Tryz.ntmps71
  go_wp2_with fail
  go_loopw [3, 4] (fun ov iv wr => ∃ (m : Nat) (sk : Sk) (ys : List Value), m ≤ L.length ∧ iv = .int .i64 m ∧ Hid (CopM sk L f w m ov ys wr)) (fun _ iv _ => L.length - (intOf iv).toNat)
  case atStart => exact ⟨0, _, _, Nat.zero_le _, rfl, HI⟩
  case round =>
    clear HI
    obtain ⟨m, sk, ys, hm, rfl, HS⟩ := hrel
    obtain ⟨Ao, co, rfl⟩ := own_shape HS.out.out
    by_cases hlt : m < L.length
    · obtain rfl := HA.out (by omega)
      have hx : L[m]? = some L[m] := List.getElem?_eq_getElem hlt
      have hmem := List.mem_of_getElem? hx
      have li := HLn.out.imps _ hmem
      have ld := HLn.out.defs _ hmem
      have LT := Lib.hid (HLn.out.trees _ hmem)
      have HX := Lib.hid hx
      generalize L[m] = md at *
      have hMr := HM.out.keep HU.out HS.out.below
      obtain ⟨⟨q0, q1, q2, q3, q4⟩, ⟨Ai, ci, hiv, hci, hAi⟩, ⟨Ad, cd, hdv, hcd, hAd⟩, -, -, -⟩ := hMr m md hx
      rw [hiv] at q1
      rw [hdv] at q2
      clear hx hmem
      go_wp2_with fail
      refine wp_region_plan (S := fun w' => w'.cell? ⟨sk0.b, sk0.o + m * 5, none⟩ = some (.string md.name) ∧ w'.cell? ⟨sk0.b, sk0.o + m * 5 + 3, none⟩ = some (.int .i64 md.line) ∧ w'.cell? ⟨sk0.b, sk0.o + m * 5 + 4, none⟩ = some (.int .i64 md.col))
        [(0, true), (1, true), (2, true), (3, true), (4, true), (5, true), (6, true), (7, true), (8, true), (9, true), (10, true), (11, false), (12, false)] (by kernel_rfl) (by kernel_rfl) (by kernel_rfl) (fun _ _ _ _ _ h => h) ⟨q0, q3, q4⟩ ?_
      intro HSS
      repeat (first | (apply wpPlan_look; rfl; rfl; (intro wq hq; (try dsimp only at hq); go_split_ands; go_simp; (try rw [if_neg (by omega)]); (try rw [if_pos (by omega)]); try with_reducible rfl); simp only [Act.put, List.setIfInBounds_toArray, List.set_cons_zero, List.set_cons_succ]) | (apply wpPlan_skip; rfl; rfl; simp only [Act.put, List.setIfInBounds_toArray, List.set_cons_zero, List.set_cons_succ]) | (apply wpPlan_pass; rfl; rfl; assumption; simp only [Act.put, List.setIfInBounds_toArray, List.set_cons_zero, List.set_cons_succ]))
      have HA1 := fun o => Lib.hid ((Below.refl wr.heap.size wr).drew.alloc (Nat.le_refl _) o)
      have hS1 := fun o => (⟨cell_later (HA1 o).out q0, cell_later (HA1 o).out q3, cell_later (HA1 o).out q4⟩ : _ ∧ _ ∧ _)
      refine wpPlan_run rfl rfl (by simp [execOp, go_sem]; exact ⟨rfl, rfl⟩) _ (fun _ h => h) (hS1 _) ?_
      simp only [Act.put, List.setIfInBounds_toArray, List.set_cons_zero, List.set_cons_succ]
      refine wpPlan_act rfl rfl (fun K hK => wp_store_row _ _ _ rfl wr.heap.size #[.string md.name, .slice none 0 0, .slice none 0 0, .int .i64 md.line, .int .i64 md.col] rfl rfl 88 _ (heap_alloc_new wr.drew _) (by kernel_rfl) rfl (by simp [Value.oneCell']) (hK _ _ ⟨?_, ?_⟩))
      · rw [drew_row2 wr]
        exact hS1 _
      rw [drew_row2 wr]
      simp only [Act.put, List.setIfInBounds_toArray, List.set_cons_zero, List.set_cons_succ]
      apply wpPlan_done
      clear HSS
      have HB1 := HA1 (.cells #[.string md.name, .slice none 0 0, .slice none 0 0, .int .i64 md.line, .int .i64 md.col] 88)
      have HK1 : Hid (Blk wr.heap.size #[.string md.name, .slice none 0 0, .slice none 0 0, .int .i64 md.line, .int .i64 md.col] 88 (wr.drew.alloc (.cells #[.string md.name, .slice none 0 0, .slice none 0 0, .int .i64 md.line, .int .i64 md.col] 88))) := Lib.hid (Blk.alloc wr.drew _ _)
      clear HA1 hS1 q0 q2 q3 q4 hMr
      obtain ⟨gb, hgb⟩ : ∃ gb, gb = wr.heap.size := ⟨_, rfl⟩
      have HGB := Lib.hid hgb
      rw [← hgb] at HK1 ⊢
      generalize wr.drew.alloc (.cells #[.string md.name, .slice none 0 0, .slice none 0 0, .int .i64 md.line, .int .i64 md.col] 88) = w1 at *
      have q1 := cell_later HB1.out q1
      have b1 := HK1.out.cell (i := 1) rfl
      obtain ⟨v1, w2, g1, hr1, hb2, hs1, hn1, hg1⟩ := run_append_copy (P := Tryz.prog) (w := w1.drew) 85 85 90 _ 5 64 Tryz.underlying85 im_info rfl (by decide) Ai md.imps.length ci (sk0.ib m) (sk0.io m) hAi ((HM.out.keep HU.out ((HS.out.below.trans (HB1.out.mono HS.out.below.size)).drew)).imp_cells HX.out) (by omega) (by omega)
      have HB2 : Hid (Below w1.heap.size w1 w2) := Lib.hid ⟨hb2.os, hb2.tape, hb2.output, hb2.size, hb2.block⟩
      have H0 := Lib.hid (CopM.start HS.out HX.out HM.out HU.out HGB.out HB1.out HK1.out HB2.out hs1 hn1 hg1)
      have r1 : w2.cell? ⟨gb, 1, none⟩ = some (.slice none 0 0) := cell_later HB2.out b1
      have r2 : w2.cell? ⟨sk0.b, sk0.o + m * 5 + 1, none⟩ = some (.slice Ai md.imps.length ci) := cell_later HB2.out q1
      have f1 : w2.frozen? ⟨gb, 1, none⟩ = false := (HK1.out.later HB2.out).free 1
      obtain ⟨A1, c1, rfl, -, -⟩ := hs1
      clear hgb hn1 hg1 hb2 hiv hci hAi hdv hcd hAd
      go_wp2_with fail
      refine wp_region_last (S := fun w' => w'.cell? ⟨gb, 1, none⟩ = some (.slice none 0 0) ∧ w'.cell? ⟨sk0.b, sk0.o + m * 5 + 1, none⟩ = some (.slice Ai md.imps.length ci)) 9 [(0, true), (1, true), (2, true), (3, true), (4, true), (5, true), (6, true), (7, false), (8, true)] (by kernel_rfl) (by kernel_rfl) (by kernel_rfl) (fun _ _ _ _ _ h => h) ⟨b1, q1⟩ ?_
      intro HSS
      repeat (first | (apply wpPlan_look; rfl; rfl; (intro wq hq; (try dsimp only at hq); go_split_ands; go_simp; (try rw [if_neg (by omega)]); (try rw [if_pos (by omega)]); try with_reducible rfl); simp only [Act.put, List.setIfInBounds_toArray, List.set_cons_zero, List.set_cons_succ]) | (apply wpPlan_skip; rfl; rfl; simp only [Act.put, List.setIfInBounds_toArray, List.set_cons_zero, List.set_cons_succ]) | (apply wpPlan_pass; rfl; rfl; assumption; simp only [Act.put, List.setIfInBounds_toArray, List.set_cons_zero, List.set_cons_succ]))
      refine wpPlan_run rfl rfl (exec_append rfl rfl rfl rfl hr1) _ (fun _ h => h) ⟨r1, r2⟩ ?_
      simp only [Act.put, List.setIfInBounds_toArray, List.set_cons_zero, List.set_cons_succ]
      repeat (first | (apply wpPlan_look; rfl; rfl; (intro wq hq; (try dsimp only at hq); go_split_ands; go_simp; (try rw [if_neg (by omega)]); (try rw [if_pos (by omega)]); try with_reducible rfl); simp only [Act.put, List.setIfInBounds_toArray, List.set_cons_zero, List.set_cons_succ]) | (apply wpPlan_skip; rfl; rfl; simp only [Act.put, List.setIfInBounds_toArray, List.set_cons_zero, List.set_cons_succ]) | (apply wpPlan_pass; rfl; rfl; assumption; simp only [Act.put, List.setIfInBounds_toArray, List.set_cons_zero, List.set_cons_succ]))
      refine wpPlan_last_run0 (w' := w2.setCell ⟨gb, 1, none⟩ (.slice A1 md.imps.length c1)) rfl rfl (by simp [execOp, go_sem, r1, f1]) ?_
      clear r1 r2 f1 b1 q1 hr1 HSS HB2 HK1 HB1 HS
      generalize w2.setCell ⟨gb, 1, none⟩ (.slice A1 md.imps.length c1) = w3 at *
      go_wp2_with fail
      go_loopw [6] (fun kv wr => ∃ (k : Nat) (sk : Sk) (dv : Value) (xs : List Value), k ≤ md.defs.length ∧ kv = .int .i64 k ∧ Hid (CopD sk L f w m md k gb (.slice Ao m co) ys (.slice A1 md.imps.length c1) dv xs wr)) (fun kv _ => md.defs.length - (intOf kv).toNat)
      case atStart => exact ⟨0, _, _, _, Nat.zero_le _, rfl, H0⟩
      case round =>
        clear H0
        obtain ⟨k, sk, dv, xs, hk, rfl, HD⟩ := hrel
        obtain ⟨Av, cv, rfl⟩ := own_shape HD.out.row
        have hMr := HM.out.keep HU.out HD.out.below
        obtain ⟨⟨-, -, q2, -, -⟩, -, ⟨Ad, cd, hdv, hcd, hAd⟩, -, hdf, -⟩ := hMr m md HX.out
        rw [hdv] at q2
        by_cases hltk : k < md.defs.length
        · have hd : md.defs[k]? = some md.defs[k] := List.getElem?_eq_getElem hltk
          have lt := LT.out _ (List.mem_of_getElem? hd)
          have HDD := Lib.hid hd
          generalize md.defs[k] = d at *
          obtain rfl := hAd (by omega)
          obtain ⟨⟨p0, p1, p2, p3, p4, p5⟩, Ag, cg, hgv, hcg, hAg⟩ := hdf k d hd
          rw [hgv] at p3
          obtain ⟨tx, htx⟩ : ∃ tx, tx = (layDf f m k d).t := ⟨_, rfl⟩
          rw [← htx] at p2
          have hba : Below wr.heap.size wr (wr.alloc (.cells #[.string d.name, .bool d.out, .string tx, .slice Ag d.tree.length cg, .int .i64 d.line, .int .i64 d.col] 84)) := (Below.refl _ _).alloc (Nat.le_refl _) _
          obtain ⟨v5, w5, g5, hr5, hb5, hs5, hn5, hg5⟩ := run_append_copy (P := Tryz.prog) (w := wr.alloc (.cells #[.string d.name, .bool d.out, .string tx, .slice Ag d.tree.length cg, .int .i64 d.line, .int .i64 d.col] 84)) 82 82 81 _ 8 88 Tryz.underlying82 nd_info rfl (by decide) Ag d.tree.length cg _ _ hAg ((HM.out.keep HU.out (HD.out.below.trans (hba.mono HD.out.below.size))).nds_cells HX.out hd) (by omega) (by omega)
          obtain ⟨A5, c5, rfl, -, -⟩ := id hs5
          obtain ⟨m1, m2, m3, m4, m5⟩ := HD.out.mid (v := .slice A5 d.tree.length c5) (cs := #[.string d.name, .bool d.out, .string tx, .slice Ag d.tree.length cg, .int .i64 d.line, .int .i64 d.col]) (d := d) (g := 0) rfl hb5
          have x3 : w5.cell? ⟨wr.heap.size, 3, none⟩ = some (.slice Ag d.tree.length cg) := (((Blk.alloc wr _ _).later hb5).cell (i := 3) rfl)
          have x0 : w5.frozen? ⟨wr.heap.size, 3, none⟩ = false := ((Blk.alloc wr _ _).later hb5).free 3
          have HST := Lib.hid (fun v' w6 ho hg hb hat => HD.out.step (v := .slice A5 d.tree.length c5) (v' := v') (w6 := w6) HX.out hd HM.out HU.out hb5 hs5 hn5 hg5 ho hg hb hat)
          rw [show (layDf f m k d).cells (.slice A5 d.tree.length c5) = [.string d.name, .bool d.out, .string tx, .slice A5 d.tree.length c5, .int .i64 d.line, .int .i64 d.col] by rw [htx]; rfl] at HST
          obtain ⟨W0, hW0⟩ : ∃ W0, w5.setCell ⟨wr.heap.size, 3, none⟩ (.slice A5 d.tree.length c5) = W0 := ⟨_, rfl⟩
          rw [hW0] at m1 m2 m3 m4 m5 HST
          have y0 := m3.cell (i := 0) rfl
          have y1 := m3.cell (i := 1) rfl
          have y2 := m3.cell (i := 2) rfl
          have y3 := m3.cell (i := 3) rfl
          have y4 := m3.cell (i := 4) rfl
          have y5 := m3.cell (i := 5) rfl
          have z2 := m2.cell (i := 2) rfl
          have HM2 := Lib.hid m2
          have HM4 := Lib.hid m4
          have hm5 : wr.heap.size + 1 ≤ W0.heap.size := m5
          have hm6 := m4.size
          have HNB := Lib.hid HD.out.nb6
          clear m2 m3 m4 m5 hd hg5 hn5 hb5 hs5 hba hgv hcg hAg htx hdf hMr hdv hcd hAd
          go_wp2_with (at_builtin; first | (refine wpList_valr rfl (exec_append rfl rfl rfl rfl hr5) ?_) | (refine append_agg_at rfl (.tmp 60) (.tmp 62) 86 84 rfl w.heap.size _ 6 80 Tryz.underlying86 df_info rfl (by decide) _ _ _ rfl m1 [.string d.name, .bool d.out, .string tx, .slice A5 d.tree.length c5, .int .i64 d.line, .int .i64 d.col] rfl W0.heap.size rfl rfl ?_ ?_ ?_ ?_ ?_))
          · intro y hy; simp only [List.mem_cons, List.not_mem_nil, or_false] at hy; rcases hy with rfl | rfl | rfl | rfl | rfl | rfl <;> rfl
          · omega
          · omega
          · omega
          intro v' w6 hown' hg' hb' hat
          have b2 := blk_grown HM2.out hg' HNB.out
          have e2 := b2.cell (i := 2) rfl
          have e0 := b2.free 2
          have HR := Lib.hid (HST.out v' w6 hown' hg' hb' hat)
          obtain ⟨A6, c6, rfl⟩ := own_shape hown'
          clear hown' hg' hb' hat b2 HST HM2 HM4 HNB m1 y0 y1 y2 y3 y4 y5 z2 x3 x0 hW0 hr5
          go_wp2_with fail
          go_roundw
          case rel => exact ⟨k + 1, _, _, _, by omega, by go_num, HR⟩
          case measure => simp [intOf]; omega
        · obtain rfl : k = md.defs.length := by omega
          have hb0 := HD.out.box
          have own3 := HD.out.out
          have z0 := hb0.cell (i := 0) rfl
          have z1 := hb0.cell (i := 1) rfl
          have z2 := hb0.cell (i := 2) rfl
          have z3 := hb0.cell (i := 3) rfl
          have z4 := hb0.cell (i := 4) rfl
          have hbb := HD.out.below.size
          have HST := Lib.hid (fun v' w6 ho hg hb hat => HD.out.done (v' := v') (w' := w6) HX.out ho hg hb hat)
          clear hb0 hdf hMr hdv hcd hAd
          rw [show md.cells (.slice A1 md.imps.length c1) (.slice Av md.defs.length cv) = [.string md.name, .slice A1 md.imps.length c1, .slice Av md.defs.length cv, .int .i64 md.line, .int .i64 md.col] from rfl] at HST
          go_wp2_with (at_builtin; refine append_agg_at rfl (.tmp 65) (.tmp 67) 22 88 rfl w.heap.size _ 5 80 Tryz.underlying22 md_info rfl (by decide) _ _ _ rfl own3 [.string md.name, .slice A1 md.imps.length c1, .slice Av md.defs.length cv, .int .i64 md.line, .int .i64 md.col] rfl wr.heap.size rfl rfl ?_ ?_ ?_ ?_ ?_)
          · intro y hy; simp only [List.mem_cons, List.not_mem_nil, or_false] at hy; rcases hy with rfl | rfl | rfl | rfl | rfl <;> rfl
          · omega
          · omega
          · omega
          intro v' w6 hown' hg' hb' hat
          obtain ⟨sk2, hR⟩ := HST.out v' w6 hown' hg' hb' hat
          have HR := Lib.hid hR
          obtain ⟨A6, c6, rfl⟩ := own_shape hown'
          clear hR hown' hg' hb' hat HST own3 z0 z1 z2 z3 z4 HD q2
          go_wp2_with fail
          go_roundw
          case rel => exact ⟨m + 1, sk2, _, by omega, by go_num, HR⟩
          case measure => simp [intOf]; omega
    · obtain rfl : m = L.length := by omega
      obtain ⟨sk', h1, h2, h3, h4⟩ := HS.out.all
      have HR : Hid (CopiedRes L f w (.returned (.slice Ao L.length co)) wr) := Lib.hid ⟨_, sk', rfl, h1, HS.out.below, h2, h3, h4⟩
      clear HS h1 h2 h3 h4
      go_wp2_with fail
      go_ret
      exact HR.out
theorem copySpec : CopySpec := fun L v w hm h0 => by
  obtain ⟨sk, hM, ⟨A, c, rfl, hc, hA⟩, hu⟩ := sk_of_mods hm
  exact rCopied_any sk L (note L) A c w hA hM hu (lens_of h0)
end Go.Proofs.YtidholghbjljaaaGreatDoor

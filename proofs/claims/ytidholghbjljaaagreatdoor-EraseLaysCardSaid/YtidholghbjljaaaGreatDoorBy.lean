
/- Walks of bags: a bag of modules: nodes, imports, defs, modules. -/
import Derived.Test.YtidholghbjljaaaGreatDoorBu
import Derived.Test.YtidholghbjljaaaGreatDoorXu
import Derived.Test.YtidholghbjljaaaGreatDoorFq
import Derived.Test.YtidholghbjljaaaGreatDoorXr
import Derived.Test.YtidholghbjljaaaGreatDoorXo
import Derived.Test.YtidholghbjljaaaGreatDoorXe
import Derived.Test.YtidholghbjljaaaGreatDoorVg
import Derived.Test.YtidholghbjljaaaGreatDoorVh
namespace Culp
set_option linter.unusedSimpArgs false
set_option linter.unusedVariables false
open Go Go.RowKit
theorem own_under {w w' : World} {B Hb sz n : Nat} {e : TypeId} {v : Value} {xs : List Value} (h : w.ownsRow B e sz v n xs) (hb : Below Hb w w') (hv : ∀ b, v.ownBlock = some b → b < Hb) : w'.ownsRow B e sz v n xs := by
  refine ⟨h.1, ?_⟩
  rcases h.2 with h2 | ⟨g, cap, cur, rfl, h3, hh, h4⟩
  · exact .inl h2
  · exact .inr ⟨g, cap, cur, rfl, h3, (hb.block g (hv g rfl)).trans hh, h4⟩
end Culp
namespace Go.Proofs.YtidholghbjljaaaGreatDoor
set_option linter.unusedSimpArgs false
set_option linter.unusedVariables false
open Go.RowKit Go.Maps Culp Culp.Er
/-- Lists of one kind that were gathered; the bag's own row lies above Hb, the lists below. -/
structure Q4 (e se : TypeId) (sz K B Hb : Nat) (PP : Value → Prop) (R : List Value) (L : Nat → Nat) (bv : Value) (cs : Array Value) (w : World) : Prop where
  at_ : cs[K]? = some bv
  bag : w.ownsRow Hb se 1 bv R.length R
  rows : ∀ n v, R[n]? = some v → (∃ xs, w.ownsRow B e sz v (L n) xs) ∧ PP v ∧ ∀ b, v.ownBlock = some b → b < Hb
  small : ∀ n, L n ≤ 1000000
  apart : ∀ (i j : Nat) (u v : Value), i ≠ j → R[i]? = some u → R[j]? = some v → Culp.Apart u v
  len : R.length ≤ 300
def Qt (e se : TypeId) (sz K B Hb : Nat) (PP : Value → Prop) (cs : Array Value) (w : World) : Prop := ∃ R L bv, Q4 e se sz K B Hb PP R L bv cs w
section
variable {e se e2 se2 : TypeId} {sz K K2 g B Hb n m sz2 : Nat} {PP PP' : Value → Prop} {R ys : List Value} {L : Nat → Nat} {bv bv' v u : Value} {cs : Array Value} {w w' : World} {xs : List Value}
theorem Qt.start (h : cs[K]? = some (.slice none 0 0)) : Qt e se sz K B Hb PP cs w := ⟨[], fun _ => 0, .slice none 0 0,
  { at_ := h
    bag := World.ownsRow_nil _ _ _ _
    rows := fun n v hv => by simp at hv
    small := fun _ => Nat.zero_le _
    apart := fun i j u v _ hu => by simp at hu
    len := Nat.zero_le _ }⟩
theorem Q4.later (h : Q4 e se sz K B Hb PP R L bv cs w) (hb : Below w.heap.size w w') : Q4 e se sz K B Hb PP R L bv cs w' :=
  { h with
    bag := own_later h.bag hb
    rows := fun n v hv => by
      obtain ⟨⟨xs, hx⟩, hr⟩ := h.rows n v hv
      exact ⟨⟨xs, own_later hx hb⟩, hr⟩ }
theorem Qt.later (h : Qt e se sz K B Hb PP cs w) (hb : Below w.heap.size w w') : Qt e se sz K B Hb PP cs w' := by
  obtain ⟨R, L, bv, h⟩ := h
  exact ⟨R, L, bv, h.later hb⟩
theorem Qt.mono (h : Qt e se sz K B Hb PP cs w) (hP : ∀ u, PP u → PP' u) : Qt e se sz K B Hb PP' cs w := by
  obtain ⟨R, L, bv, h⟩ := h
  exact ⟨R, L, bv, { h with rows := fun n v hv => ⟨(h.rows n v hv).1, hP _ (h.rows n v hv).2.1, (h.rows n v hv).2.2⟩ }⟩
theorem Qt.other (h : Qt e se sz K B Hb PP cs w) (hbi : BagOf g cs w) (hbv : w.ownsRow Hb se2 1 u m ys) (hs : se2 ≠ 63) (hg : w.grownBy w' u.ownBlock) (hb : Below Hb w w') (hge : Hb ≤ g) (h1 : se2 ≠ se) (h3 : se ≠ 63) (hK : K2 ≠ K) : Qt e se sz K B Hb PP (cs.setIfInBounds K2 bv') (w'.setCell ⟨g, K2, none⟩ bv') := by
  obtain ⟨R, L, bv, h⟩ := h
  refine ⟨R, L, bv,
    { h with
      at_ := by
        rw [Array.getElem?_setIfInBounds_ne hK]
        exact h.at_
      bag := ?_
      rows := fun n v hv => ?_ }⟩
  · have h4 := own_other h.bag hg (own_apart_type hbv h.bag h1)
    exact own_apart_keep h4 ((Keep.refl g w').setCell K2 bv') ((hbi.grown hg (hbi.ne hbv hs)).ne h4 h3)
  · obtain ⟨⟨xs, hx⟩, hp, hl⟩ := h.rows n v hv
    exact ⟨⟨xs, own_under hx (hb.setCell (p := ⟨g, K2, none⟩) hge _) hl⟩, hp, hl⟩
theorem Q4.add (h : Q4 e se sz K B Hb PP R L bv cs w) (hbi : BagOf g cs w) (hs : se ≠ 63) (hK : K < cs.size) (hv : w.ownsRow B e sz v n xs) (hn : n ≤ 1000000) (hl : ∀ b, v.ownBlock = some b → b < Hb) (hA : ∀ u, PP u → Culp.Apart v u)
    (ho : w'.ownsRow Hb se 1 bv' (R.length + 1) (R ++ [v])) (hg : w.grownBy w' bv.ownBlock) (hb : Below Hb w w') (hge : Hb ≤ g) (hR : R.length < 300) : Qt e se sz K B Hb (fun u => PP u ∨ u = v) (cs.setIfInBounds K bv') (w'.setCell ⟨g, K, none⟩ bv') := by
  have hbi' : BagOf g cs w' := hbi.grown hg (hbi.ne h.bag hs)
  have hb2 : Below Hb w (w'.setCell ⟨g, K, none⟩ bv') := hb.setCell (p := ⟨g, K, none⟩) hge _
  have key : ∀ n y, (R ++ [v])[n]? = some y → (n < R.length ∧ R[n]? = some y) ∨ (n = R.length ∧ y = v) := by
    intro n y hy
    by_cases hn : n < R.length
    · rw [List.getElem?_append_left hn] at hy
      exact .inl ⟨hn, hy⟩
    · have hn2 := (List.getElem?_eq_some_iff.1 hy).1
      rw [List.length_append, List.length_singleton] at hn2
      obtain rfl : n = R.length := by omega
      rw [List.getElem?_append_right (Nat.le_refl _), Nat.sub_self] at hy
      simp at hy
      exact .inr ⟨rfl, hy.symm⟩
  refine ⟨R ++ [v], fun j => if j = R.length then n else L j, bv',
    { at_ := by rw [Array.getElem?_setIfInBounds_self_of_lt hK]
      bag := by
        rw [List.length_append, List.length_singleton]
        exact own_apart_keep ho ((Keep.refl g w').setCell K bv') (hbi'.ne ho hs)
      rows := fun j u hu => ?_
      small := fun j => by
        show (if j = R.length then n else L j) ≤ _
        split
        · exact hn
        · exact h.small j
      apart := fun i j u x hij hu hx => ?_
      len := by rw [List.length_append, List.length_singleton]; omega }⟩
  · rcases key j u hu with ⟨hj, hu'⟩ | ⟨rfl, rfl⟩
    · obtain ⟨⟨ys, hy⟩, hp, hll⟩ := h.rows j u hu'
      rw [if_neg (by omega)]
      exact ⟨⟨ys, own_under hy hb2 hll⟩, .inl hp, hll⟩
    · rw [if_pos rfl]
      exact ⟨⟨xs, own_under hv hb2 hl⟩, .inr rfl, hl⟩
  · rcases key i u hu with ⟨hi, hu'⟩ | ⟨rfl, rfl⟩
    · rcases key j x hx with ⟨hj, hx'⟩ | ⟨rfl, rfl⟩
      · exact h.apart i j u x hij hu' hx'
      · exact (hA u (h.rows i u hu').2.1).symm
    · rcases key j x hx with ⟨hj, hx'⟩ | ⟨rfl, rfl⟩
      · exact hA x (h.rows j x hx').2.1
      · exact absurd rfl hij
end
/-- A bag of nodes, imports, defs, modules. -/
structure Bag4 (PN PI PD PM : Value → Prop) (g B Hb : Nat) (cs : Array Value) (w : World) : Prop where
  bagis : BagOf g cs w
  size : cs.size = 18
  none_ : ∀ j, j < 18 → j ≠ 5 → j ≠ 10 → j ≠ 13 → j ≠ 14 → cs[j]? = some (.slice none 0 0)
  le : Hb ≤ w.heap.size
  ge : Hb ≤ g
  nodes : Qt 81 82 8 5 B Hb PN cs w
  imps : Qt 90 85 5 10 B Hb PI cs w
  defs : Qt 84 86 6 13 B Hb PD cs w
  mods : Qt 88 22 5 14 B Hb PM cs w
def nilCells4 : Array Value := #[.slice none 0 0, .slice none 0 0, .slice none 0 0, .slice none 0 0, .slice none 0 0, .slice none 0 0, .slice none 0 0, .slice none 0 0, .slice none 0 0, .slice none 0 0, .slice none 0 0, .slice none 0 0, .slice none 0 0, .slice none 0 0, .slice none 0 0, .slice none 0 0, .slice none 0 0, .slice none 0 0]
theorem nil_cells4 {K : Nat} (hK : K < 18) : nilCells4[K]? = some (.slice none 0 0) := by
  show ((List.replicate 18 (Value.slice none 0 0)).toArray)[K]? = _
  rw [List.getElem?_toArray, List.getElem?_replicate, if_pos hK]
section
variable {PN PI PD PM QN QI QD QM : Value → Prop} {g B Hb : Nat} {cs : Array Value} {w w' : World}
theorem Bag4.start : Bag4 PN PI PD PM w.heap.size B w.heap.size nilCells4 (w.alloc (.cells nilCells4 63)) where
  bagis := (MapKept.heap_alloc w _).1
  size := rfl
  none_ := fun j hj _ _ _ _ => nil_cells4 hj
  le := by simp
  ge := Nat.le_refl _
  nodes := .start (nil_cells4 (by decide))
  imps := .start (nil_cells4 (by decide))
  defs := .start (nil_cells4 (by decide))
  mods := .start (nil_cells4 (by decide))
theorem Bag4.later (h : Bag4 PN PI PD PM g B Hb cs w) (hb : Below w.heap.size w w') : Bag4 PN PI PD PM g B Hb cs w' :=
  { h with
    bagis := h.bagis.later hb
    le := Nat.le_trans h.le hb.size
    nodes := h.nodes.later hb
    imps := h.imps.later hb
    defs := h.defs.later hb
    mods := h.mods.later hb }
theorem Bag4.mono (h : Bag4 PN PI PD PM g B Hb cs w) (hN : ∀ u, PN u → QN u) (hI : ∀ u, PI u → QI u) (hD : ∀ u, PD u → QD u) (hM : ∀ u, PM u → QM u) : Bag4 QN QI QD QM g B Hb cs w :=
  { h with
    nodes := h.nodes.mono hN
    imps := h.imps.mono hI
    defs := h.defs.mono hD
    mods := h.mods.mono hM }
end
/-- Blocks of modules stay. -/
def KpM (w w' : World) : Prop := ∀ (b : Nat) (cs : Array Value), w.heap[b]? = some (Obj.cells cs 88 (0, 0)) → w'.heap[b]? = some (Obj.cells cs 88 (0, 0))
theorem KpM.refl (w : World) : KpM w w := fun _ _ h => h
theorem KpM.trans {w w1 w2 : World} (h : KpM w w1) (k : KpM w1 w2) : KpM w w2 := fun b cs hb => k b cs (h b cs hb)
theorem KpM.below {w w1 : World} (h : Below w.heap.size w w1) : KpM w w1 := fun b _ hb => (h.block b (Array.getElem?_eq_some_iff.1 hb).1).trans hb
theorem KpM.add {w w' : World} {g Hb n K : Nat} {se : TypeId} {R : List Value} {bv u : Value} {cs : Array Value} (hbi : BagOf g cs w) (hbag : w.ownsRow Hb se 1 bv n R) (hse : se ≠ 88) (hg : w.grownBy w' bv.ownBlock) : KpM w (w'.setCell ⟨g, K, none⟩ u) := fun b cs2 hb => by
  have h1 : b ≠ g := fun e => by
    unfold BagOf at hbi
    rw [e, hbi] at hb
    simp only [Option.some.injEq, Obj.cells.injEq] at hb
    exact absurd hb.2.1 (by decide)
  have h2 : some b ≠ bv.ownBlock := fun e => by
    rcases hbag.2 with ⟨rfl, _⟩ | ⟨g', cap, cur, rfl, h3, hh, h4⟩
    · cases e
    · have e2 : b = g' := Option.some.inj e
      rw [e2, hh] at hb
      simp only [Option.some.injEq, Obj.cells.injEq] at hb
      exact hse hb.2.1
  rw [Below.heap_setCell _ _ _ _ h1, hg.block b (Array.getElem?_eq_some_iff.1 hb).1 h2]
  exact hb
def AddRes4 (PN PI PD PM : Value → Prop) (g B Hb : Nat) (w : World) (e : Ending) (w' : World) : Prop := e = .returned (.tuple #[]) ∧ Below Hb w w' ∧ KpM w w' ∧ ∃ cs', Bag4 PN PI PD PM g B Hb cs' w'
theorem bset_ne {cs : Array Value} {K j : Nat} {v x : Value} (hj : K ≠ j) (h : cs[j]? = some x) : (cs.setIfInBounds K v)[j]? = some x := by
  rw [Array.getElem?_setIfInBounds_ne hj]; exact h
set_option maxRecDepth 100000 in
set_option maxHeartbeats 1600000 in
theorem AddNodes4_any (PN PI PD PM : Value → Prop) (gb B Hb n : Nat) (v : Value) (cs : Array Value) (xs : List Value) (w : World) (h : Bag4 PN PI PD PM gb B Hb cs w) (hv : w.ownsRow B 81 8 v n xs) (hn : n ≤ 1000000) (hl : ∀ b, v.ownBlock = some b → b < Hb) (hA : ∀ u, PN u → Culp.Apart v u) :
    Calls Tryz.prog 137 #[.pointer (some ⟨gb, 0, none⟩), v] w (AddRes4 (fun u => PN u ∨ u = v) PI PD PM gb B Hb w) := by
  obtain ⟨R, L, bv, hq⟩ := h.nodes
  have c1 := h.bagis.cell hq.at_
  have f1 := h.bagis.free 5
  have HF := Lib.hid h
  have HQ := Lib.hid hq
  have HV := Lib.hid hv
  have HA := Lib.hid hA
  have HL := Lib.hid hl
  have HN := Lib.hid hn
  have own4 := hq.bag
  have hB := h.le
  have hR2 := hq.len
  obtain ⟨Av, cv, rfl⟩ := own_shape hv
  obtain ⟨Ab, cb, rfl⟩ := own_shape hq.bag
  clear h hv hA hl hn hq
  go_enter Tryz.func137, Tryz.ntmps137
  by_cases hlt : R.length < 300
  · go_wp2_with (at_builtin; refine append_agg_at rfl (.tmp 14) (.tmp 16) 49 82 rfl Hb _ 1 24 Tryz.underlying49 bnodes_info rfl (by decide) _ _ _ rfl own4 [.slice Av n cv] rfl w.heap.size rfl rfl ?_ ?_ ?_ hB ?_)
    · first
        | rfl
        | (intro y hy; simp only [List.mem_cons, List.not_mem_nil, or_false] at hy; subst hy; rfl)
    · omega
    · omega
    intro bv' w5 hown' hg' hb' hat
    have h5 : BagOf gb cs w5 := HF.out.bagis.grown hg' (HF.out.bagis.ne HQ.out.bag (by decide))
    obtain ⟨A5, k5, rfl⟩ := own_shape hown'
    have c5 := h5.cell HQ.out.at_
    have f5 := h5.free 5
    have hq2 := HQ.out.add HF.out.bagis (by decide) (by rw [HF.out.size]; decide) HV.out HN.out HL.out HA.out hown' hg' hb' HF.out.ge hlt
    have hr1 := HF.out.imps.other (K2 := 5) (bv' := .slice A5 (R.length + 1) k5) HF.out.bagis HQ.out.bag (by decide) hg' hb' HF.out.ge (by decide) (by decide) (by decide)
    have hr2 := HF.out.defs.other (K2 := 5) (bv' := .slice A5 (R.length + 1) k5) HF.out.bagis HQ.out.bag (by decide) hg' hb' HF.out.ge (by decide) (by decide) (by decide)
    have hr3 := HF.out.mods.other (K2 := 5) (bv' := .slice A5 (R.length + 1) k5) HF.out.bagis HQ.out.bag (by decide) hg' hb' HF.out.ge (by decide) (by decide) (by decide)
    have HB5 : Hid (Below Hb w (w5.setCell ⟨gb, 5, none⟩ (.slice A5 (R.length + 1) k5))) := Lib.hid (hb'.setCell (p := ⟨gb, 5, none⟩) HF.out.ge _)
    have hle : Hb ≤ (w5.setCell ⟨gb, 5, none⟩ (.slice A5 (R.length + 1) k5)).heap.size := Nat.le_trans HF.out.le HB5.out.size
    have HKP : Hid (KpM w (w5.setCell ⟨gb, 5, none⟩ (.slice A5 (R.length + 1) k5))) := Lib.hid (KpM.add HF.out.bagis HQ.out.bag (by decide) hg')
    have hsz : (cs.setIfInBounds 5 (.slice A5 (R.length + 1) k5)).size = 18 := by simpa using HF.out.size
    have hnn : ∀ j, j < 18 → j ≠ 5 → j ≠ 10 → j ≠ 13 → j ≠ 14 → (cs.setIfInBounds 5 (.slice A5 (R.length + 1) k5))[j]? = some (.slice none 0 0) := fun j hj a b c d => bset_ne (fun he => a he.symm) (HF.out.none_ j hj a b c d)
    have HF6 : Hid (Bag4 (fun u => PN u ∨ u = .slice Av n cv) PI PD PM gb B Hb _ _) := Lib.hid { bagis := h5.put 5 (.slice A5 (R.length + 1) k5), size := hsz, none_ := hnn, le := hle, ge := HF.out.ge, nodes := hq2, imps := hr1, defs := hr2, mods := hr3 }
    clear hown' hg' hb' hat own4 h5 hq2 hr1 hr2 hr3 hle hsz hnn c1 f1 HF HQ HV HA HL HN
    go_wp2_with fail
    exact bodyPost_end (v := .tuple #[]) (by simp [results, Tryz.results137, go_sem]) rfl ⟨rfl, HB5.out, HKP.out, _, HF6.out⟩
  · have HF6 : Hid (Bag4 (fun u => PN u ∨ u = .slice Av n cv) PI PD PM gb B Hb cs w) := Lib.hid (HF.out.mono (fun u h => .inl h) (fun _ h => h) (fun _ h => h) (fun _ h => h))
    clear HF HQ HV HA HL HN own4
    go_wp2_with fail
    exact bodyPost_end (v := .tuple #[]) (by simp [results, Tryz.results137, go_sem]) rfl ⟨rfl, Below.refl _ _, KpM.refl _, cs, HF6.out⟩
set_option maxRecDepth 100000 in
set_option maxHeartbeats 1600000 in
theorem AddImports4_any (PN PI PD PM : Value → Prop) (gb B Hb n : Nat) (v : Value) (cs : Array Value) (xs : List Value) (w : World) (h : Bag4 PN PI PD PM gb B Hb cs w) (hv : w.ownsRow B 90 5 v n xs) (hn : n ≤ 1000000) (hl : ∀ b, v.ownBlock = some b → b < Hb) (hA : ∀ u, PI u → Culp.Apart v u) :
    Calls Tryz.prog 102 #[.pointer (some ⟨gb, 0, none⟩), v] w (AddRes4 PN (fun u => PI u ∨ u = v) PD PM gb B Hb w) := by
  obtain ⟨R, L, bv, hq⟩ := h.imps
  have c1 := h.bagis.cell hq.at_
  have f1 := h.bagis.free 10
  have HF := Lib.hid h
  have HQ := Lib.hid hq
  have HV := Lib.hid hv
  have HA := Lib.hid hA
  have HL := Lib.hid hl
  have HN := Lib.hid hn
  have own4 := hq.bag
  have hB := h.le
  have hR2 := hq.len
  obtain ⟨Av, cv, rfl⟩ := own_shape hv
  obtain ⟨Ab, cb, rfl⟩ := own_shape hq.bag
  clear h hv hA hl hn hq
  go_enter Tryz.func102, Tryz.ntmps102
  by_cases hlt : R.length < 300
  · go_wp2_with (at_builtin; refine append_agg_at rfl (.tmp 14) (.tmp 16) 54 85 rfl Hb _ 1 24 Tryz.underlying54 bimps_info rfl (by decide) _ _ _ rfl own4 [.slice Av n cv] rfl w.heap.size rfl rfl ?_ ?_ ?_ hB ?_)
    · first
        | rfl
        | (intro y hy; simp only [List.mem_cons, List.not_mem_nil, or_false] at hy; subst hy; rfl)
    · omega
    · omega
    intro bv' w5 hown' hg' hb' hat
    have h5 : BagOf gb cs w5 := HF.out.bagis.grown hg' (HF.out.bagis.ne HQ.out.bag (by decide))
    obtain ⟨A5, k5, rfl⟩ := own_shape hown'
    have c5 := h5.cell HQ.out.at_
    have f5 := h5.free 10
    have hq2 := HQ.out.add HF.out.bagis (by decide) (by rw [HF.out.size]; decide) HV.out HN.out HL.out HA.out hown' hg' hb' HF.out.ge hlt
    have hr1 := HF.out.nodes.other (K2 := 10) (bv' := .slice A5 (R.length + 1) k5) HF.out.bagis HQ.out.bag (by decide) hg' hb' HF.out.ge (by decide) (by decide) (by decide)
    have hr2 := HF.out.defs.other (K2 := 10) (bv' := .slice A5 (R.length + 1) k5) HF.out.bagis HQ.out.bag (by decide) hg' hb' HF.out.ge (by decide) (by decide) (by decide)
    have hr3 := HF.out.mods.other (K2 := 10) (bv' := .slice A5 (R.length + 1) k5) HF.out.bagis HQ.out.bag (by decide) hg' hb' HF.out.ge (by decide) (by decide) (by decide)
    have HB5 : Hid (Below Hb w (w5.setCell ⟨gb, 10, none⟩ (.slice A5 (R.length + 1) k5))) := Lib.hid (hb'.setCell (p := ⟨gb, 10, none⟩) HF.out.ge _)
    have hle : Hb ≤ (w5.setCell ⟨gb, 10, none⟩ (.slice A5 (R.length + 1) k5)).heap.size := Nat.le_trans HF.out.le HB5.out.size
    have HKP : Hid (KpM w (w5.setCell ⟨gb, 10, none⟩ (.slice A5 (R.length + 1) k5))) := Lib.hid (KpM.add HF.out.bagis HQ.out.bag (by decide) hg')
    have hsz : (cs.setIfInBounds 10 (.slice A5 (R.length + 1) k5)).size = 18 := by simpa using HF.out.size
    have hnn : ∀ j, j < 18 → j ≠ 5 → j ≠ 10 → j ≠ 13 → j ≠ 14 → (cs.setIfInBounds 10 (.slice A5 (R.length + 1) k5))[j]? = some (.slice none 0 0) := fun j hj a b c d => bset_ne (fun he => b he.symm) (HF.out.none_ j hj a b c d)
    have HF6 : Hid (Bag4 PN (fun u => PI u ∨ u = .slice Av n cv) PD PM gb B Hb _ _) := Lib.hid { bagis := h5.put 10 (.slice A5 (R.length + 1) k5), size := hsz, none_ := hnn, le := hle, ge := HF.out.ge, imps := hq2, nodes := hr1, defs := hr2, mods := hr3 }
    clear hown' hg' hb' hat own4 h5 hq2 hr1 hr2 hr3 hle hsz hnn c1 f1 HF HQ HV HA HL HN
    go_wp2_with fail
    exact bodyPost_end (v := .tuple #[]) (by simp [results, Tryz.results102, go_sem]) rfl ⟨rfl, HB5.out, HKP.out, _, HF6.out⟩
  · have HF6 : Hid (Bag4 PN (fun u => PI u ∨ u = .slice Av n cv) PD PM gb B Hb cs w) := Lib.hid (HF.out.mono (fun _ h => h) (fun u h => .inl h) (fun _ h => h) (fun _ h => h))
    clear HF HQ HV HA HL HN own4
    go_wp2_with fail
    exact bodyPost_end (v := .tuple #[]) (by simp [results, Tryz.results102, go_sem]) rfl ⟨rfl, Below.refl _ _, KpM.refl _, cs, HF6.out⟩
/-- Rows by their kinds. -/
def _root_.Culp.Er.Row.kd : Row → Nat
  | .all => 0
  | .imp _ => 1
  | .dfs _ => 2
  | .nds _ _ => 3
def Lo (H : Nat) (u : Value) : Prop := ∀ b, u.ownBlock = some b → b < H
def PK (sk : Sk) (L : List Md) (H kd : Nat) (D : Row → Prop) (u : Value) : Prop := Lo H u ∨ ∃ r : Row, r.kd = kd ∧ D r ∧ r.is L ∧ u = r.val sk
def BagR (sk : Sk) (L : List Md) (H : Nat) (D : Row → Prop) (g B Hb : Nat) (cs : Array Value) (w : World) : Prop := Bag4 (PK sk L H 3 D) (PK sk L H 1 D) (PK sk L H 2 D) (PK sk L H 0 D) g B Hb cs w
section
variable {sk : Sk} {L : List Md} {H B Hb g m i kd : Nat} {f : Pos → ByteArray} {D D' : Row → Prop} {w w' : World} {md : Md} {d : Df} {u : Value} {cs : Array Value} {r : Row}
theorem OwnSt.block (h : OwnSt sk L H f w) (hr : r.is L) {b : Nat} (hb : (r.val sk).ownBlock = some b) : r.has L ∧ b = r.blk sk ∧ H ≤ b ∧ b < w.heap.size := by
  by_cases hh : r.has L
  · obtain ⟨h1, h2, n, cap, cs, e, _⟩ := h.mix.own r trivial hh
    rw [e] at hb
    have e2 : r.blk sk = b := Option.some.inj hb
    exact ⟨hh, e2.symm, by omega, by omega⟩
  · rw [h.mix.nil r trivial hr hh] at hb
    cases hb
theorem OwnSt.apart (h : OwnSt sk L H f w) (hr : r.is L) (hn : ¬ D r) (hu : PK sk L H kd D u) : Culp.Apart (r.val sk) u := fun b hb hb2 => by
  obtain ⟨h1, h2, h3, h4⟩ := OwnSt.block h hr hb
  rcases hu with hu | ⟨r', -, hd, hr', rfl⟩
  · have := hu b hb2
    omega
  · obtain ⟨k1, k2, k3, k4⟩ := OwnSt.block h hr' hb2
    exact hn (h.mix.inj r r' trivial trivial h1 k1 (by omega) ▸ hd)
theorem OwnSt.row {n : Nat} {A : Option Addr} {c : Nat} (h : OwnSt sk L H f w) (hr : r.is L) (hv : r.val sk = .slice A n c) (hn : r.has L ↔ 0 < n) : ∃ xs, w.ownsRow H r.ty r.sz (r.val sk) n xs := by
  by_cases hh : r.has L
  · obtain ⟨h1, h2, n', cap, cs, e, h5, h6, h7, h8⟩ := h.mix.own r trivial hh
    have e2 := e
    rw [hv] at e2
    simp only [Value.slice.injEq] at e2
    obtain ⟨rfl, rfl, rfl⟩ := e2
    refine ⟨cs.toList.take (n * r.sz), ?_, .inr ⟨r.blk sk, c, cs, e, h1, h7, h5, h6, h8, rfl⟩⟩
    rw [List.length_take, Array.length_toList, h8]
    exact Nat.min_eq_left (Nat.mul_le_mul_right _ h5)
  · have e := h.mix.nil r trivial hr hh
    rw [hv] at e
    simp only [Value.slice.injEq] at e
    obtain ⟨rfl, rfl, rfl⟩ := e
    exact ⟨[], by simp, .inl ⟨hv, rfl⟩⟩
theorem PK.mono (h : PK sk L H kd D u) (hD : ∀ r : Row, r.is L → D r → D' r) : PK sk L H kd D' u := by
  rcases h with h | ⟨r, h1, h2, h3, h4⟩
  · exact .inl h
  · exact .inr ⟨r, h1, hD r h3 h2, h3, h4⟩
theorem PK.new (hr : r.is L) (hk : r.kd = kd) (h : PK sk L H kd D u ∨ u = r.val sk) : PK sk L H kd (fun x => D x ∨ x = r) u := by
  rcases h with h | h
  · exact h.mono fun _ _ h => .inl h
  · exact .inr ⟨r, hk, .inr rfl, hr, h⟩
theorem BagR.mono (h : BagR sk L H D g B Hb cs w) (hD : ∀ r : Row, r.is L → D r → D' r) : BagR sk L H D' g B Hb cs w := Bag4.mono h (fun _ h => h.mono hD) (fun _ h => h.mono hD) (fun _ h => h.mono hD) (fun _ h => h.mono hD)
end
def addM (m : Nat) (r : Row) : Prop := r = .all ∨ doneM m r
def addD (m k : Nat) (r : Row) : Prop := ((addM m r ∨ r = .imp m) ∨ r = .dfs m) ∨ ∃ i, i < k ∧ r = .nds m i
theorem addD_succ {m k : Nat} {r : Row} : addD m k r ∨ r = .nds m k → addD m (k + 1) r := by
  rintro ((h | ⟨i, hi, h⟩) | h)
  · exact .inl h
  · exact .inr ⟨i, by omega, h⟩
  · exact .inr ⟨k, by omega, h⟩
theorem addM_not {m : Nat} : ¬ addM m (.imp m) ∧ ¬ addM m (.dfs m) ∧ ∀ i, ¬ addM m (.nds m i) := by
  refine ⟨fun h => ?_, fun h => ?_, fun i h => ?_⟩ <;> rcases h with h | h
  · cases h
  · exact doneM_lt.1 h
  · cases h
  · exact doneM_lt.2.1 h
  · cases h
  · exact doneM_lt.2.2 i h
theorem addD_nds {m k : Nat} : ¬ addD m k (.nds m k) := by
  rintro (((h | h) | h) | ⟨i, hi, h⟩)
  · exact addM_not.2.2 k h
  · cases h
  · cases h
  · cases h; omega
theorem addM_succ {L : List Md} {m : Nat} {md : Md} {r : Row} (hm : L[m]? = some md) (hr : r.is L) (h : addD m md.defs.length r) : addM (m + 1) r := by
  rcases h with ((h | rfl) | rfl) | ⟨i, hi, rfl⟩
  · rcases h with h | h
    · exact .inl h
    · refine .inr ?_
      cases r with
      | all => exact h
      | imp j => have h : j < m := h; show j < m + 1; omega
      | dfs j => have h : j < m := h; show j < m + 1; omega
      | nds j i => have h : j < m := h; show j < m + 1; omega
  · exact .inr (Nat.lt_succ_self m)
  · exact .inr (Nat.lt_succ_self m)
  · exact .inr (Nat.lt_succ_self m)
/-- What lies there while a bag grows. -/
structure There (sk : Sk) (L : List Md) (H B Hb : Nat) (f : Pos → ByteArray) (w : World) : Prop where
  own : OwnSt sk L H f w
  up : Under sk Hb L
  base : B ≤ H
section
variable {sk : Sk} {L : List Md} {H B Hb : Nat} {f : Pos → ByteArray} {w w' : World}
theorem There.keep (h : There sk L H B Hb f w) (hb : Below Hb w w') : There sk L H B Hb f w' := { h with own := h.own.keep h.up hb }
theorem There.under (h : There sk L H B Hb f w) {r : Row} (hr : r.is L) (b : Nat) (hb : (r.val sk).ownBlock = some b) : b < Hb := by
  obtain ⟨h1, rfl, _⟩ := OwnSt.block h.own hr hb
  exact h.up.blk h1
end
def AddRes (sk : Sk) (L : List Md) (H : Nat) (D : Row → Prop) (gb B Hb : Nat) (w : World) (e : Ending) (w' : World) : Prop := e = .returned (.tuple #[]) ∧ Below Hb w w' ∧ KpM w w' ∧ ∃ cs', BagR sk L H D gb B Hb cs' w'
section
variable {sk : Sk} {L : List Md} {H B Hb gb m k : Nat} {f : Pos → ByteArray} {md : Md} {d : Df} {cs : Array Value}
set_option maxRecDepth 100000 in
set_option maxHeartbeats 1600000 in
theorem AddDef_any (w : World) (t : ByteArray) (A : Option Addr) (c : Nat) (h : BagR sk L H (addD m k) gb B Hb cs w) (hT : There sk L H B Hb f w) (hm : L[m]? = some md) (hd : md.defs[k]? = some d) (hv : sk.tv m k = .slice A d.tree.length c) (hn : d.tree.length ≤ 1000000) :
    Calls Tryz.prog 125 #[.pointer (some ⟨gb, 0, none⟩), .agg #[.string d.name, .bool d.out, .string t, .slice A d.tree.length c, .int .i64 d.line, .int .i64 d.col]] w (AddRes sk L H (addD m (k + 1)) gb B Hb w) := by
  have his : (Row.nds m k).is L := ⟨md, d, hm, hd⟩
  obtain ⟨xs, hr⟩ := OwnSt.row (r := .nds m k) hT.own his hv ⟨fun ⟨md', d', h1, h2, h3⟩ => by rw [hm] at h1; cases h1; rw [hd] at h2; cases h2; exact h3, fun h => ⟨md, d, hm, hd, h⟩⟩
  have hle : Hb ≤ w.heap.size := h.le
  have HBA := fun o => Lib.hid (show Below Hb w (w.alloc o) from (Below.refl _ _).alloc hle _)
  have HC := fun o => Lib.hid (AddNodes4_any _ _ _ _ gb B Hb d.tree.length (sk.tv m k) cs xs (w.alloc o) (Bag4.later h ((Below.refl _ _).alloc (Nat.le_refl _) o)) (own_base (own_later hr ((Below.refl _ _).alloc (Nat.le_refl _) o)) hT.base) hn (hT.under his) (fun u hu => OwnSt.apart hT.own his addD_nds hu))
  rw [hv] at HC
  have HV := Lib.hid hv
  clear h hT hr hv
  go_enter Tryz.func125, Tryz.ntmps125
  go_wp2_with fail
  refine (HC _).out.mono ?_
  rintro e w' ⟨rfl, hb, hk, cs', h'⟩
  have HB := Lib.hid ((HBA _).out.trans hb)
  have HKP := Lib.hid ((KpM.below ((Below.refl _ _).alloc (Nat.le_refl _) _)).trans hk)
  have HF := Lib.hid h'
  clear hb hk h' HC HBA
  go_wp2_with fail
  refine bodyPost_end (v := .tuple #[]) (by simp [results, Tryz.results125, go_sem]) rfl ⟨rfl, HB.out, HKP.out, cs', ?_⟩
  exact Bag4.mono HF.out (fun u hu => (PK.new (r := .nds m k) his rfl (by rw [show (Row.nds m k).val sk = sk.tv m k from rfl, HV.out]; exact hu)).mono fun _ _ h => addD_succ h) (fun _ h => h.mono fun _ _ h => addD_succ (.inl h)) (fun _ h => h.mono fun _ _ h => addD_succ (.inl h)) (fun _ h => h.mono fun _ _ h => addD_succ (.inl h))
end
end Go.Proofs.YtidholghbjljaaaGreatDoor

/- Walks of bags: defs and modules are gathered. -/
namespace Go.Proofs.YtidholghbjljaaaGreatDoor
set_option linter.unusedSimpArgs false
set_option linter.unusedVariables false
open Go.RowKit Go.Maps Culp Culp.Er
section
variable {sk : Sk} {L : List Md} {H B Hb gb m k : Nat} {f : Pos → ByteArray} {md : Md} {d : Df} {cs : Array Value}
/-- Modules that a bag can hold. -/
structure Few4 (L : List Md) : Prop where
  len : L.length ≤ 300
  imps : ∀ md ∈ L, md.imps.length ≤ 1000000
  defs : ∀ md ∈ L, md.defs.length ≤ 300
  trees : ∀ md ∈ L, ∀ d ∈ md.defs, d.tree.length ≤ 1000000
set_option maxRecDepth 100000 in
set_option maxHeartbeats 3200000 in
theorem AddDefs_any (w : World) (A : Option Addr) (c : Nat) (h : BagR sk L H (fun r => addM m r ∨ r = .imp m) gb B Hb cs w) (hT : There sk L H B Hb f w) (hm : L[m]? = some md) (hv : sk.dv m = .slice A md.defs.length c) (hn : md.defs.length ≤ 300) (hns : ∀ d ∈ md.defs, d.tree.length ≤ 1000000) :
    Calls Tryz.prog 103 #[.pointer (some ⟨gb, 0, none⟩), .slice A md.defs.length c] w (AddRes sk L H (addD m md.defs.length) gb B Hb w) := by
  have his : (Row.dfs m).is L := ⟨md, hm⟩
  obtain ⟨xs, hr⟩ := OwnSt.row (r := .dfs m) hT.own his hv ⟨fun ⟨md', h1, h3⟩ => by rw [hm] at h1; cases h1; exact h3, fun h => ⟨md, hm, h⟩⟩
  have hnot : ¬ (addM m (.dfs m) ∨ (Row.dfs m) = .imp m) := by
    rintro (h | h)
    · exact addM_not.2.1 h
    · cases h
  have hA : ∀ u, PK sk L H 2 (fun r => addM m r ∨ r = .imp m) u → Culp.Apart (sk.dv m) u := fun u hu => OwnSt.apart hT.own his hnot hu
  have hl : ∀ b, (sk.dv m).ownBlock = some b → b < Hb := hT.under his
  have hv1 : w.ownsRow B 84 6 (sk.dv m) md.defs.length xs := own_base hr hT.base
  have hto : ∀ (cs' : Array Value) (w' : World), Bag4 (PK sk L H 3 (fun r => addM m r ∨ r = .imp m)) (PK sk L H 1 (fun r => addM m r ∨ r = .imp m)) (fun u => PK sk L H 2 (fun r => addM m r ∨ r = .imp m) u ∨ u = sk.dv m) (PK sk L H 0 (fun r => addM m r ∨ r = .imp m)) gb B Hb cs' w' → BagR sk L H (addD m 0) gb B Hb cs' w' := fun cs' w' hh =>
    Bag4.mono hh (fun _ h => h.mono fun _ _ h => .inl (.inl h)) (fun _ h => h.mono fun _ _ h => .inl (.inl h)) (fun u hu => (PK.new (r := .dfs m) his rfl hu).mono fun _ _ h => .inl h) (fun _ h => h.mono fun _ _ h => .inl (.inl h))
  rw [hv] at hA hl hv1
  have HTO := Lib.hid hto
  obtain ⟨R, Ls, bv, hq⟩ := h.defs
  have c1 := h.bagis.cell hq.at_
  have f1 := h.bagis.free 13
  have HF := Lib.hid (show Bag4 _ _ _ _ gb B Hb cs w from h)
  have HQ := Lib.hid hq
  have HX := Lib.hid hv1
  have HAA := Lib.hid hA
  have HL := Lib.hid hl
  have HV := Lib.hid hv
  have HT := Lib.hid hT
  have HM := Lib.hid hm
  have HNS := Lib.hid hns
  have own4 := hq.bag
  have hB : Hb ≤ w.heap.size := h.le
  have hR2 := hq.len
  have HN : Hid (md.defs.length ≤ 1000000) := Lib.hid (by omega)
  obtain ⟨Ab, cb, rfl⟩ := own_shape hq.bag
  clear h hT hr hm hv hns hA hl hv1 hto hq his hnot
  go_enter Tryz.func103, Tryz.ntmps103
  by_cases hlt : R.length < 300
  · go_wp2_with (at_builtin; refine append_agg_at rfl (.tmp 15) (.tmp 17) 57 86 rfl Hb _ 1 24 Tryz.underlying57 bdefs_info rfl (by decide) _ _ _ rfl own4 [.slice A md.defs.length c] rfl w.heap.size rfl rfl ?_ ?_ ?_ hB ?_)
    · first
        | rfl
        | (intro y hy; simp only [List.mem_cons, List.not_mem_nil, or_false] at hy; subst hy; rfl)
    · omega
    · omega
    intro bv' w5 hown' hg' hb' hat
    have h5 : BagOf gb cs w5 := HF.out.bagis.grown hg' (HF.out.bagis.ne HQ.out.bag (by decide))
    obtain ⟨A5, k5, rfl⟩ := own_shape hown'
    have c5 := h5.cell HQ.out.at_
    have f5 := h5.free 13
    have hq2 := HQ.out.add HF.out.bagis (by decide) (by rw [HF.out.size]; decide) HX.out HN.out HL.out HAA.out hown' hg' hb' HF.out.ge hlt
    have hr1 := HF.out.nodes.other (K2 := 13) (bv' := .slice A5 (R.length + 1) k5) HF.out.bagis HQ.out.bag (by decide) hg' hb' HF.out.ge (by decide) (by decide) (by decide)
    have hr2 := HF.out.imps.other (K2 := 13) (bv' := .slice A5 (R.length + 1) k5) HF.out.bagis HQ.out.bag (by decide) hg' hb' HF.out.ge (by decide) (by decide) (by decide)
    have hr3 := HF.out.mods.other (K2 := 13) (bv' := .slice A5 (R.length + 1) k5) HF.out.bagis HQ.out.bag (by decide) hg' hb' HF.out.ge (by decide) (by decide) (by decide)
    have HB0 : Hid (Below Hb w (w5.setCell ⟨gb, 13, none⟩ (.slice A5 (R.length + 1) k5))) := Lib.hid (hb'.setCell (p := ⟨gb, 13, none⟩) HF.out.ge _)
    have hle : Hb ≤ (w5.setCell ⟨gb, 13, none⟩ (.slice A5 (R.length + 1) k5)).heap.size := Nat.le_trans HF.out.le HB0.out.size
    have HK0 : Hid (KpM w (w5.setCell ⟨gb, 13, none⟩ (.slice A5 (R.length + 1) k5))) := Lib.hid (KpM.add HF.out.bagis HQ.out.bag (by decide) hg')
    have hsz : (cs.setIfInBounds 13 (.slice A5 (R.length + 1) k5)).size = 18 := by simpa using HF.out.size
    have hnn : ∀ j, j < 18 → j ≠ 5 → j ≠ 10 → j ≠ 13 → j ≠ 14 → (cs.setIfInBounds 13 (.slice A5 (R.length + 1) k5))[j]? = some (.slice none 0 0) := fun j hj a b e d => bset_ne (fun he => e he.symm) (HF.out.none_ j hj a b e d)
    have HF0 := Lib.hid (HTO.out _ _ (by rw [HV.out]; exact { bagis := h5.put 13 (.slice A5 (R.length + 1) k5), size := hsz, none_ := hnn, le := hle, ge := HF.out.ge, nodes := hr1, imps := hr2, defs := hq2, mods := hr3 }))
    clear hown' hg' hb' hat own4 h5 hq2 hr1 hr2 hr3 hle hsz hnn c1 f1 HF HQ HX HAA HL HTO
    go_wp2_with fail
    clear c5 f5
    generalize w5.setCell ⟨gb, 13, none⟩ (.slice A5 (R.length + 1) k5) = w6 at *
    go_loopw [4] (fun i wr => ∃ (k : Nat) (cs' : Array Value), k ≤ md.defs.length ∧ i = .int .i64 k ∧ Hid (BagR sk L H (addD m k) gb B Hb cs' wr) ∧ Hid (Below Hb w wr) ∧ Hid (KpM w wr)) (fun i _ => md.defs.length - (intOf i).toNat)
    case atStart => exact ⟨0, _, Nat.zero_le _, rfl, HF0, HB0, HK0⟩
    case round =>
      clear HF0 HB0 HK0
      obtain ⟨k, cs', hk, rfl, HF, HB, HKR⟩ := hrel
      by_cases hlt : k < md.defs.length
      · have hd : md.defs[k]? = some md.defs[k] := List.getElem?_eq_getElem hlt
        have lt := HNS.out _ (List.mem_of_getElem? hd)
        have HD := Lib.hid hd
        generalize md.defs[k] = d at *
        have hTr := HT.out.keep HB.out
        obtain ⟨-, -, ⟨A', c', e1, -, hA'⟩, -, hdf, -⟩ := hTr.own.mat m md HM.out
        rw [HV.out] at e1
        simp only [Value.slice.injEq] at e1
        obtain ⟨rfl, -, rfl⟩ := e1
        obtain rfl := hA' (by omega)
        obtain ⟨⟨p0, p1, p2, p3, p4, p5⟩, Ag, cg, hgv, -, -⟩ := hdf k d hd
        rw [hgv] at p3
        have p0 : wr.cell? ⟨sk.db m, sk.do_ m + k * 6, none⟩ = some (.string d.name) := p0
        have p1 : wr.cell? ⟨sk.db m, sk.do_ m + k * 6 + 1, none⟩ = some (.bool d.out) := p1
        have p4 : wr.cell? ⟨sk.db m, sk.do_ m + k * 6 + 4, none⟩ = some (.int .i64 d.line) := p4
        have p5 : wr.cell? ⟨sk.db m, sk.do_ m + k * 6 + 5, none⟩ = some (.int .i64 d.col) := p5
        have HC := Lib.hid (AddDef_any wr (layDf f m k d).t Ag cg HF.out hTr HM.out hd hgv lt)
        generalize (layDf f m k d).t = t at *
        clear hTr hdf hd hgv hA'
        go_wp2_with fail
        refine HC.out.mono ?_
        rintro e w' ⟨rfl, hb, hkp, cs2, h2⟩
        have HK2 := Lib.hid (HKR.out.trans hkp)
        have HF2 := Lib.hid h2
        have HB2 := Lib.hid (HB.out.trans hb)
        clear hb hkp h2 HC HF HB HKR p0 p1 p2 p3 p4 p5
        go_wp2_with fail
        go_roundw
        case rel => exact ⟨k + 1, _, by omega, by go_num, HF2, HB2, HK2⟩
        case measure => simp [intOf]; omega
      · obtain rfl : k = md.defs.length := by omega
        go_wp2_with fail
        exact bodyPost_end (v := .tuple #[]) (by simp [results, Tryz.results103, go_sem]) rfl ⟨rfl, HB.out, HKR.out, _, HF.out⟩
  · have HF0 : Hid (BagR sk L H (addD m 0) gb B Hb cs w) := Lib.hid (HTO.out _ _ (Bag4.mono HF.out (fun _ h => h) (fun _ h => h) (fun _ h => .inl h) (fun _ h => h)))
    have HB0 : Hid (Below Hb w w) := Lib.hid (Below.refl _ _)
    have HK0 : Hid (KpM w w) := Lib.hid (KpM.refl _)
    clear HF HQ HX HAA HL own4 HTO
    go_wp2_with fail
    clear c1 f1
    go_loopw [4] (fun i wr => ∃ (k : Nat) (cs' : Array Value), k ≤ md.defs.length ∧ i = .int .i64 k ∧ Hid (BagR sk L H (addD m k) gb B Hb cs' wr) ∧ Hid (Below Hb w wr) ∧ Hid (KpM w wr)) (fun i _ => md.defs.length - (intOf i).toNat)
    case atStart => exact ⟨0, _, Nat.zero_le _, rfl, HF0, HB0, HK0⟩
    case round =>
      clear HF0 HB0 HK0
      obtain ⟨k, cs', hk, rfl, HF, HB, HKR⟩ := hrel
      by_cases hlt : k < md.defs.length
      · have hd : md.defs[k]? = some md.defs[k] := List.getElem?_eq_getElem hlt
        have lt := HNS.out _ (List.mem_of_getElem? hd)
        have HD := Lib.hid hd
        generalize md.defs[k] = d at *
        have hTr := HT.out.keep HB.out
        obtain ⟨-, -, ⟨A', c', e1, -, hA'⟩, -, hdf, -⟩ := hTr.own.mat m md HM.out
        rw [HV.out] at e1
        simp only [Value.slice.injEq] at e1
        obtain ⟨rfl, -, rfl⟩ := e1
        obtain rfl := hA' (by omega)
        obtain ⟨⟨p0, p1, p2, p3, p4, p5⟩, Ag, cg, hgv, -, -⟩ := hdf k d hd
        rw [hgv] at p3
        have p0 : wr.cell? ⟨sk.db m, sk.do_ m + k * 6, none⟩ = some (.string d.name) := p0
        have p1 : wr.cell? ⟨sk.db m, sk.do_ m + k * 6 + 1, none⟩ = some (.bool d.out) := p1
        have p4 : wr.cell? ⟨sk.db m, sk.do_ m + k * 6 + 4, none⟩ = some (.int .i64 d.line) := p4
        have p5 : wr.cell? ⟨sk.db m, sk.do_ m + k * 6 + 5, none⟩ = some (.int .i64 d.col) := p5
        have HC := Lib.hid (AddDef_any wr (layDf f m k d).t Ag cg HF.out hTr HM.out hd hgv lt)
        generalize (layDf f m k d).t = t at *
        clear hTr hdf hd hgv hA'
        go_wp2_with fail
        refine HC.out.mono ?_
        rintro e w' ⟨rfl, hb, hkp, cs2, h2⟩
        have HK2 := Lib.hid (HKR.out.trans hkp)
        have HF2 := Lib.hid h2
        have HB2 := Lib.hid (HB.out.trans hb)
        clear hb hkp h2 HC HF HB HKR p0 p1 p2 p3 p4 p5
        go_wp2_with fail
        go_roundw
        case rel => exact ⟨k + 1, _, by omega, by go_num, HF2, HB2, HK2⟩
        case measure => simp [intOf]; omega
      · obtain rfl : k = md.defs.length := by omega
        go_wp2_with fail
        exact bodyPost_end (v := .tuple #[]) (by simp [results, Tryz.results103, go_sem]) rfl ⟨rfl, HB.out, HKR.out, _, HF.out⟩
set_option maxRecDepth 100000 in
set_option maxHeartbeats 3200000 in
theorem AddModule_any (w : World) (Ai Ad : Option Addr) (ci cd : Nat) (h : BagR sk L H (addM m) gb B Hb cs w) (hT : There sk L H B Hb f w) (hm : L[m]? = some md) (hvi : sk.iv m = .slice Ai md.imps.length ci) (hvd : sk.dv m = .slice Ad md.defs.length cd) (hF : Few4 L) :
    Calls Tryz.prog 73 #[.pointer (some ⟨gb, 0, none⟩), .agg #[.string md.name, .slice Ai md.imps.length ci, .slice Ad md.defs.length cd, .int .i64 md.line, .int .i64 md.col]] w (AddRes sk L H (addM (m + 1)) gb B Hb w) := by
  have his : (Row.imp m).is L := ⟨md, hm⟩
  obtain ⟨xs, hr⟩ := OwnSt.row (r := .imp m) hT.own his hvi ⟨fun ⟨md', h1, h3⟩ => by rw [hm] at h1; cases h1; exact h3, fun h => ⟨md, hm, h⟩⟩
  have hle : Hb ≤ w.heap.size := h.le
  have hmem := List.mem_of_getElem? hm
  have HBA := fun o => Lib.hid (show Below Hb w (w.alloc o) from (Below.refl _ _).alloc hle _)
  have HBC := fun o => Lib.hid (show Below w.heap.size w (w.alloc o) from (Below.refl _ _).alloc (Nat.le_refl _) _)
  have HC := fun o => Lib.hid (AddImports4_any _ _ _ _ gb B Hb md.imps.length (sk.iv m) cs xs (w.alloc o) (Bag4.later h (HBC o).out) (own_base (own_later hr (HBC o).out) hT.base) (hF.imps _ hmem) (hT.under his) (fun u hu => OwnSt.apart hT.own his addM_not.1 hu))
  rw [hvi] at HC
  have HVI := Lib.hid hvi
  have HD := Lib.hid (fun cs' w' hh hb => AddDefs_any (gb := gb) (cs := cs') w' Ad cd hh (hT.keep hb) hm hvd (hF.defs _ hmem) (hF.trees _ hmem))
  have HM := Lib.hid hm
  clear h hT hr hvi hvd hF hm
  go_enter Tryz.func73, Tryz.ntmps73
  go_wp2_with fail
  refine (HC _).out.mono ?_
  rintro e w1 ⟨rfl, hb, hk, cs1, h1⟩
  have HK := Lib.hid ((KpM.below (HBC _).out).trans hk)
  have HB := Lib.hid ((HBA (.cells #[.string md.name, .slice Ai md.imps.length ci, .slice Ad md.defs.length cd, .int .i64 md.line, .int .i64 md.col] 88)).out.trans hb)
  have hbx : Blk w.heap.size #[.string md.name, .slice Ai md.imps.length ci, .slice Ad md.defs.length cd, .int .i64 md.line, .int .i64 md.col] 88 w1 := hk _ _ (Blk.alloc w _ _)
  have c2 := hbx.cell (i := 2) rfl
  have HF : Hid (BagR sk L H (fun r => addM m r ∨ r = .imp m) gb B Hb cs1 w1) := Lib.hid (Bag4.mono h1 (fun _ h => h.mono fun _ _ h => .inl h) (fun u hu => PK.new (r := .imp m) his rfl (by rw [show (Row.imp m).val sk = sk.iv m from rfl, HVI.out]; exact hu)) (fun _ h => h.mono fun _ _ h => .inl h) (fun _ h => h.mono fun _ _ h => .inl h))
  clear hb hk hbx h1 HC HBA HBC
  go_wp2_with fail
  refine (HD.out cs1 w1 HF.out HB.out).mono ?_
  rintro e w2 ⟨rfl, hb, hk, cs2, h2⟩
  have HK2 := Lib.hid (HK.out.trans hk)
  clear hk
  have HB2 := Lib.hid (HB.out.trans hb)
  have HF2 : Hid (BagR sk L H (addM (m + 1)) gb B Hb cs2 w2) := Lib.hid (h2.mono fun r hr hd => addM_succ HM.out hr hd)
  clear hb h2 HD HF HB
  go_wp2_with fail
  exact bodyPost_end (v := .tuple #[]) (by simp [results, Tryz.results73, go_sem]) rfl ⟨rfl, HB2.out, HK2.out, _, HF2.out⟩
set_option maxRecDepth 100000 in
set_option maxHeartbeats 3200000 in
theorem AddModules_any (w : World) (A : Option Addr) (c : Nat) (h : BagR sk L H (fun _ => False) gb B Hb cs w) (hT : There sk L H B Hb f w) (hv : sk.v = .slice A L.length c) (hs : 0 < L.length → A = some ⟨sk.b, sk.o, none⟩) (hF : Few4 L) :
    Calls Tryz.prog 25 #[.pointer (some ⟨gb, 0, none⟩), .slice A L.length c] w (AddRes sk L H (fun _ => True) gb B Hb w) := by
  have his : Row.all.is L := trivial
  obtain ⟨xs, hr⟩ := OwnSt.row (r := .all) hT.own his hv Iff.rfl
  have hA : ∀ u, PK sk L H 0 (fun _ => False) u → Culp.Apart sk.v u := fun u hu => OwnSt.apart (r := .all) hT.own his (fun h => h) hu
  have hl : ∀ b, sk.v.ownBlock = some b → b < Hb := hT.under his
  have hv1 : w.ownsRow B 88 5 sk.v L.length xs := own_base hr hT.base
  have hto : ∀ (cs' : Array Value) (w' : World), Bag4 (PK sk L H 3 (fun _ => False)) (PK sk L H 1 (fun _ => False)) (PK sk L H 2 (fun _ => False)) (fun u => PK sk L H 0 (fun _ => False) u ∨ u = sk.v) gb B Hb cs' w' → BagR sk L H (addM 0) gb B Hb cs' w' := fun cs' w' hh =>
    Bag4.mono hh (fun _ h => h.mono fun _ _ h => h.elim) (fun _ h => h.mono fun _ _ h => h.elim) (fun _ h => h.mono fun _ _ h => h.elim) (fun u hu => (PK.new (r := .all) his rfl hu).mono fun _ _ h => .inl (h.resolve_left id))
  rw [hv] at hA hl hv1
  have HTO := Lib.hid hto
  obtain ⟨R, Ls, bv, hq⟩ := h.mods
  have c1 := h.bagis.cell hq.at_
  have f1 := h.bagis.free 14
  have HF := Lib.hid (show Bag4 _ _ _ _ gb B Hb cs w from h)
  have HQ := Lib.hid hq
  have HX := Lib.hid hv1
  have HAA := Lib.hid hA
  have HL := Lib.hid hl
  have HV := Lib.hid hv
  have HT := Lib.hid hT
  have HSA := Lib.hid hs
  have HFW := Lib.hid hF
  have own4 := hq.bag
  have hB : Hb ≤ w.heap.size := h.le
  have hR2 := hq.len
  have hLn := hF.len
  have HN : Hid (L.length ≤ 1000000) := Lib.hid (by omega)
  obtain ⟨Ab, cb, rfl⟩ := own_shape hq.bag
  clear h hT hr hv hA hl hv1 hto hq his hs hF
  go_enter Tryz.func25, Tryz.ntmps25
  by_cases hlt : R.length < 300
  · go_wp2_with (at_builtin; refine append_agg_at rfl (.tmp 15) (.tmp 17) 58 22 rfl Hb _ 1 24 Tryz.underlying58 bmods_info rfl (by decide) _ _ _ rfl own4 [.slice A L.length c] rfl w.heap.size rfl rfl ?_ ?_ ?_ hB ?_)
    · first
        | rfl
        | (intro y hy; simp only [List.mem_cons, List.not_mem_nil, or_false] at hy; subst hy; rfl)
    · omega
    · omega
    intro bv' w5 hown' hg' hb' hat
    have h5 : BagOf gb cs w5 := HF.out.bagis.grown hg' (HF.out.bagis.ne HQ.out.bag (by decide))
    obtain ⟨A5, k5, rfl⟩ := own_shape hown'
    have c5 := h5.cell HQ.out.at_
    have f5 := h5.free 14
    have hq2 := HQ.out.add HF.out.bagis (by decide) (by rw [HF.out.size]; decide) HX.out HN.out HL.out HAA.out hown' hg' hb' HF.out.ge hlt
    have hr1 := HF.out.nodes.other (K2 := 14) (bv' := .slice A5 (R.length + 1) k5) HF.out.bagis HQ.out.bag (by decide) hg' hb' HF.out.ge (by decide) (by decide) (by decide)
    have hr2 := HF.out.imps.other (K2 := 14) (bv' := .slice A5 (R.length + 1) k5) HF.out.bagis HQ.out.bag (by decide) hg' hb' HF.out.ge (by decide) (by decide) (by decide)
    have hr3 := HF.out.defs.other (K2 := 14) (bv' := .slice A5 (R.length + 1) k5) HF.out.bagis HQ.out.bag (by decide) hg' hb' HF.out.ge (by decide) (by decide) (by decide)
    have HB0 : Hid (Below Hb w (w5.setCell ⟨gb, 14, none⟩ (.slice A5 (R.length + 1) k5))) := Lib.hid (hb'.setCell (p := ⟨gb, 14, none⟩) HF.out.ge _)
    have hle : Hb ≤ (w5.setCell ⟨gb, 14, none⟩ (.slice A5 (R.length + 1) k5)).heap.size := Nat.le_trans HF.out.le HB0.out.size
    have HK0 : Hid (KpM w (w5.setCell ⟨gb, 14, none⟩ (.slice A5 (R.length + 1) k5))) := Lib.hid (KpM.add HF.out.bagis HQ.out.bag (by decide) hg')
    have hsz : (cs.setIfInBounds 14 (.slice A5 (R.length + 1) k5)).size = 18 := by simpa using HF.out.size
    have hnn : ∀ j, j < 18 → j ≠ 5 → j ≠ 10 → j ≠ 13 → j ≠ 14 → (cs.setIfInBounds 14 (.slice A5 (R.length + 1) k5))[j]? = some (.slice none 0 0) := fun j hj a b e d => bset_ne (fun he => d he.symm) (HF.out.none_ j hj a b e d)
    have HF0 := Lib.hid (HTO.out _ _ (by rw [HV.out]; exact { bagis := h5.put 14 (.slice A5 (R.length + 1) k5), size := hsz, none_ := hnn, le := hle, ge := HF.out.ge, nodes := hr1, imps := hr2, defs := hr3, mods := hq2 }))
    clear hown' hg' hb' hat own4 h5 hq2 hr1 hr2 hr3 hle hsz hnn c1 f1 HF HQ HX HAA HL HTO
    go_wp2_with fail
    clear c5 f5
    generalize w5.setCell ⟨gb, 14, none⟩ (.slice A5 (R.length + 1) k5) = w6 at *
    go_loopw [4] (fun i wr => ∃ (k : Nat) (cs' : Array Value), k ≤ L.length ∧ i = .int .i64 k ∧ Hid (BagR sk L H (addM k) gb B Hb cs' wr) ∧ Hid (Below Hb w wr) ∧ Hid (KpM w wr)) (fun i _ => L.length - (intOf i).toNat)
    case atStart => exact ⟨0, _, Nat.zero_le _, rfl, HF0, HB0, HK0⟩
    case round =>
      clear HF0 HB0 HK0
      obtain ⟨k, cs', hk, rfl, HF, HB, HKR⟩ := hrel
      by_cases hlt : k < L.length
      · have hm : L[k]? = some L[k] := List.getElem?_eq_getElem hlt
        have HM := Lib.hid hm
        generalize L[k] = md at *
        obtain rfl := HSA.out (by omega)
        have hTr := HT.out.keep HB.out
        obtain ⟨⟨p0, p1, p2, p3, p4⟩, ⟨Ai, ci, hvi, -, -⟩, ⟨Ad, cd, hvd, -, -⟩, -, -, -⟩ := hTr.own.mat k md hm
        rw [hvi] at p1
        rw [hvd] at p2
        have HC := Lib.hid (AddModule_any wr Ai Ad ci cd HF.out hTr hm hvi hvd HFW.out)
        clear hTr hm hvi hvd
        go_wp2_with fail
        refine HC.out.mono ?_
        rintro e w' ⟨rfl, hb, hkp, cs2, h2⟩
        have HF2 := Lib.hid h2
        have HB2 := Lib.hid (HB.out.trans hb)
        have HK2 := Lib.hid (HKR.out.trans hkp)
        clear hb hkp h2 HC HF HB HKR p0 p1 p2 p3 p4
        go_wp2_with fail
        go_roundw
        case rel => exact ⟨k + 1, _, by omega, by go_num, HF2, HB2, HK2⟩
        case measure => simp [intOf]; omega
      · obtain rfl : k = L.length := by omega
        have HFE : Hid (BagR sk L H (fun _ => True) gb B Hb cs' wr) := Lib.hid (HF.out.mono fun _ _ _ => trivial)
        go_wp2_with fail
        exact bodyPost_end (v := .tuple #[]) (by simp [results, Tryz.results25, go_sem]) rfl ⟨rfl, HB.out, HKR.out, _, HFE.out⟩
  · have HF0 : Hid (BagR sk L H (addM 0) gb B Hb cs w) := Lib.hid (HTO.out _ _ (Bag4.mono HF.out (fun _ h => h) (fun _ h => h) (fun _ h => h) (fun _ h => .inl h)))
    have HB0 : Hid (Below Hb w w) := Lib.hid (Below.refl _ _)
    have HK0 : Hid (KpM w w) := Lib.hid (KpM.refl _)
    clear HF HQ HX HAA HL own4 HTO
    go_wp2_with fail
    clear c1 f1
    go_loopw [4] (fun i wr => ∃ (k : Nat) (cs' : Array Value), k ≤ L.length ∧ i = .int .i64 k ∧ Hid (BagR sk L H (addM k) gb B Hb cs' wr) ∧ Hid (Below Hb w wr) ∧ Hid (KpM w wr)) (fun i _ => L.length - (intOf i).toNat)
    case atStart => exact ⟨0, _, Nat.zero_le _, rfl, HF0, HB0, HK0⟩
    case round =>
      clear HF0 HB0 HK0
      obtain ⟨k, cs', hk, rfl, HF, HB, HKR⟩ := hrel
      by_cases hlt : k < L.length
      · have hm : L[k]? = some L[k] := List.getElem?_eq_getElem hlt
        have HM := Lib.hid hm
        generalize L[k] = md at *
        obtain rfl := HSA.out (by omega)
        have hTr := HT.out.keep HB.out
        obtain ⟨⟨p0, p1, p2, p3, p4⟩, ⟨Ai, ci, hvi, -, -⟩, ⟨Ad, cd, hvd, -, -⟩, -, -, -⟩ := hTr.own.mat k md hm
        rw [hvi] at p1
        rw [hvd] at p2
        have HC := Lib.hid (AddModule_any wr Ai Ad ci cd HF.out hTr hm hvi hvd HFW.out)
        clear hTr hm hvi hvd
        go_wp2_with fail
        refine HC.out.mono ?_
        rintro e w' ⟨rfl, hb, hkp, cs2, h2⟩
        have HF2 := Lib.hid h2
        have HB2 := Lib.hid (HB.out.trans hb)
        have HK2 := Lib.hid (HKR.out.trans hkp)
        clear hb hkp h2 HC HF HB HKR p0 p1 p2 p3 p4
        go_wp2_with fail
        go_roundw
        case rel => exact ⟨k + 1, _, by omega, by go_num, HF2, HB2, HK2⟩
        case measure => simp [intOf]; omega
      · obtain rfl : k = L.length := by omega
        have HFE : Hid (BagR sk L H (fun _ => True) gb B Hb cs' wr) := Lib.hid (HF.out.mono fun _ _ _ => trivial)
        go_wp2_with fail
        exact bodyPost_end (v := .tuple #[]) (by simp [results, Tryz.results25, go_sem]) rfl ⟨rfl, HB.out, HKR.out, _, HFE.out⟩
end
end Go.Proofs.YtidholghbjljaaaGreatDoor

/- Walks of bags: do nodes, imports, defs, modules lie apart? -/
namespace Go.Proofs.YtidholghbjljaaaGreatDoor
set_option linter.unusedSimpArgs false
set_option linter.unusedVariables false
open Go.RowKit Go.Maps Culp Culp.Er
theorem Qt.stays {e se e2 : TypeId} {sz K B Hb : Nat} {PP : Value → Prop} {cs : Array Value} {w w' : World} (h : Qt e se sz K B Hb PP cs w) (hs : BagS.Stays e2 w w') (h1 : se ≠ e2) (h2 : e ≠ e2) : Qt e se sz K B Hb PP cs w' := by
  obtain ⟨R, L, bv, h⟩ := h
  exact ⟨R, L, bv, { h with
    bag := hs.own h.bag h1
    rows := fun n v hv => by
      obtain ⟨⟨xs, hx⟩, hr⟩ := h.rows n v hv
      exact ⟨⟨xs, hs.own hx h2⟩, hr⟩ }⟩
set_option maxRecDepth 100000 in
set_option maxHeartbeats 3200000 in
theorem Apart4_any {PN PI PD PM : Value → Prop} {gb B Hb : Nat} {cs : Array Value} (w : World) (h : Bag4 PN PI PD PM gb B Hb cs w) (hBH : B ≤ Hb) (hP : Pw w) (hpB : 1 < B) :
    Calls Tryz.prog 17 #[.pointer (some ⟨gb, 0, none⟩)] w (fun e w' => e = .returned (.bool true) ∧ Below B w w') := by
  have HNO := Lib.hid h.none_
  have HG0 := Lib.hid h.bagis
  have HN0 := Lib.hid h.nodes
  have HI0 := Lib.hid h.imps
  have HD0 := Lib.hid h.defs
  have HM0 := Lib.hid h.mods
  have HP0 := Lib.hid hP
  have HB0 : Hid (Below B w w) := Lib.hid (Below.refl _ _)
  have HL0 : Hid (B ≤ w.heap.size) := Lib.hid (Nat.le_trans hBH h.le)
  have HBH := Lib.hid hBH
  have HPB := Lib.hid hpB
  clear h hBH hP hpB
  go_enter Tryz.func17, Tryz.ntmps17
  go_wp2_with fail
  refine (apartBytes_none gb _ (HG0.out.cell (HNO.out 0 (by decide) (by decide) (by decide) (by decide) (by decide)))).mono ?_
  rintro e w' ⟨rfl, rfl⟩
  go_wp2_with fail
  refine (apartInts_none gb _ (HG0.out.cell (HNO.out 1 (by decide) (by decide) (by decide) (by decide) (by decide)))).mono ?_
  rintro e w' ⟨rfl, rfl⟩
  go_wp2_with fail
  refine (apartLongs_none gb _ (HG0.out.cell (HNO.out 2 (by decide) (by decide) (by decide) (by decide) (by decide)))).mono ?_
  rintro e w' ⟨rfl, rfl⟩
  go_wp2_with fail
  refine (apartBools_none gb _ (HG0.out.cell (HNO.out 3 (by decide) (by decide) (by decide) (by decide) (by decide)))).mono ?_
  rintro e w' ⟨rfl, rfl⟩
  go_wp2_with fail
  refine (apartTexts_none gb _ (HG0.out.cell (HNO.out 4 (by decide) (by decide) (by decide) (by decide) (by decide)))).mono ?_
  rintro e w' ⟨rfl, rfl⟩
  go_wp2_with fail
  obtain ⟨R1, L1, bv1, hq1⟩ := HN0.out
  refine (apartNodes_any gb B R1 L1 bv1 _ cs HG0.out hq1.at_ HL0.out (own_base hq1.bag HBH.out) (fun n v hv => (hq1.rows n v hv).1) hq1.apart hq1.len hq1.small).mono ?_
  rintro e w1 ⟨rfl, hb1, hi1⟩
  have HB1 := Lib.hid (HB0.out.trans hb1)
  have HG1 := Lib.hid (HG0.out.stays hi1 (by decide))
  have HI1 := Lib.hid (HI0.out.stays hi1 (by decide) (by decide))
  have HD1 := Lib.hid (HD0.out.stays hi1 (by decide) (by decide))
  have HM1 := Lib.hid (HM0.out.stays hi1 (by decide) (by decide))
  have HP1 := Lib.hid (HP0.out.later hb1 HPB.out)
  have HL1 : Hid (B ≤ w1.heap.size) := Lib.hid (Nat.le_trans HL0.out hb1.size)
  clear hb1 hi1 hq1 HB0 HG0 HN0 HI0 HD0 HM0 HP0 HL0
  go_wp2_with fail
  refine (apartCos_none gb _ (HG1.out.cell (HNO.out 6 (by decide) (by decide) (by decide) (by decide) (by decide)))).mono ?_
  rintro e w' ⟨rfl, rfl⟩
  go_wp2_with fail
  refine (apartSeen_none gb _ (HG1.out.cell (HNO.out 7 (by decide) (by decide) (by decide) (by decide) (by decide)))).mono ?_
  rintro e w' ⟨rfl, rfl⟩
  go_wp2_with fail
  refine (apartSites_none gb _ (HG1.out.cell (HNO.out 8 (by decide) (by decide) (by decide) (by decide) (by decide)))).mono ?_
  rintro e w' ⟨rfl, rfl⟩
  go_wp2_with fail
  refine (apartIns_none gb _ (HG1.out.cell (HNO.out 9 (by decide) (by decide) (by decide) (by decide) (by decide)))).mono ?_
  rintro e w' ⟨rfl, rfl⟩
  go_wp2_with fail
  obtain ⟨R2, L2, bv2, hq2⟩ := HI1.out
  refine (apartImports_any gb B R2 L2 bv2 _ cs HG1.out hq2.at_ HL1.out (own_base hq2.bag HBH.out) (fun n v hv => (hq2.rows n v hv).1) hq2.apart hq2.len hq2.small HP1.out HPB.out).mono ?_
  rintro e w2 ⟨rfl, hb2, hi2⟩
  have HB2 := Lib.hid (HB1.out.trans hb2)
  have HG2 := Lib.hid (HG1.out.stays hi2 (by decide))
  have HD2 := Lib.hid (HD1.out.stays hi2 (by decide) (by decide))
  have HM2 := Lib.hid (HM1.out.stays hi2 (by decide) (by decide))
  have HP2 := Lib.hid (HP1.out.later hb2 HPB.out)
  have HL2 : Hid (B ≤ w2.heap.size) := Lib.hid (Nat.le_trans HL1.out hb2.size)
  clear hb2 hi2 hq2 HB1 HG1 HI1 HD1 HM1 HP1 HL1
  go_wp2_with fail
  refine (apartTraps_none gb _ (HG2.out.cell (HNO.out 11 (by decide) (by decide) (by decide) (by decide) (by decide)))).mono ?_
  rintro e w' ⟨rfl, rfl⟩
  go_wp2_with fail
  refine (apartRows_none gb _ (HG2.out.cell (HNO.out 12 (by decide) (by decide) (by decide) (by decide) (by decide)))).mono ?_
  rintro e w' ⟨rfl, rfl⟩
  go_wp2_with fail
  obtain ⟨R3, L3, bv3, hq3⟩ := HD2.out
  refine (apartDefs_any gb B R3 L3 bv3 _ cs HG2.out hq3.at_ HL2.out (own_base hq3.bag HBH.out) (fun n v hv => (hq3.rows n v hv).1) hq3.apart hq3.len hq3.small HP2.out HPB.out).mono ?_
  rintro e w3 ⟨rfl, hb3, hi3⟩
  have HB3 := Lib.hid (HB2.out.trans hb3)
  have HG3 := Lib.hid (HG2.out.stays hi3 (by decide))
  have HM3 := Lib.hid (HM2.out.stays hi3 (by decide) (by decide))
  have HP3 := Lib.hid (HP2.out.later hb3 HPB.out)
  have HL3 : Hid (B ≤ w3.heap.size) := Lib.hid (Nat.le_trans HL2.out hb3.size)
  clear hb3 hi3 hq3 HB2 HG2 HD2 HM2 HP2 HL2
  go_wp2_with fail
  obtain ⟨R4, L4, bv4, hq4⟩ := HM3.out
  refine (apartModules_any gb B R4 L4 bv4 _ cs HG3.out hq4.at_ HL3.out (own_base hq4.bag HBH.out) (fun n v hv => (hq4.rows n v hv).1) hq4.apart hq4.len hq4.small HP3.out HPB.out).mono ?_
  rintro e w4 ⟨rfl, hb4, hi4⟩
  have HB4 := Lib.hid (HB3.out.trans hb4)
  have HG4 := Lib.hid (HG3.out.stays hi4 (by decide))
  clear hb4 hi4 hq4 HB3 HG3 HM3 HP3 HL3
  go_wp2_with fail
  refine (apartFunctions_none gb _ (HG4.out.cell (HNO.out 15 (by decide) (by decide) (by decide) (by decide) (by decide)))).mono ?_
  rintro e w' ⟨rfl, rfl⟩
  go_wp2_with fail
  refine (apartWaits_none gb _ (HG4.out.cell (HNO.out 16 (by decide) (by decide) (by decide) (by decide) (by decide)))).mono ?_
  rintro e w' ⟨rfl, rfl⟩
  go_wp2_with fail
  refine (apartTrees_none gb _ (HG4.out.cell (HNO.out 17 (by decide) (by decide) (by decide) (by decide) (by decide)))).mono ?_
  rintro e w' ⟨rfl, rfl⟩
  go_wp2_with fail
  go_ret
  exact ⟨rfl, HB4.out⟩
end Go.Proofs.YtidholghbjljaaaGreatDoor

/- The walk of the statement EraseLays. -/
namespace Go.Proofs.YtidholghbjljaaaGreatDoor
set_option linter.unusedSimpArgs false
set_option linter.unusedVariables false
open Go.RowKit Go.Maps Culp Culp.Er
def noSk : Sk := ⟨0, 0, fun _ => 0, fun _ => 0, fun _ => 0, fun _ => 0, fun _ _ => 0, fun _ _ => 0, fun _ => undef, fun _ => undef, fun _ _ => undef, .slice none 0 0⟩
theorem out_nil (f : Pos → ByteArray) (H : Nat) (w : World) : OutRes [] f H (.slice none 0 0) w := by
  have hno : ∀ r : Row, ¬ r.has [] := fun r h => by
    cases r with
    | all => exact Nat.lt_irrefl 0 h
    | imp m => obtain ⟨_, h, _⟩ := h; simp at h
    | dfs m => obtain ⟨_, h, _⟩ := h; simp at h
    | nds m i => obtain ⟨_, _, h, _⟩ := h; simp at h
  refine ⟨noSk, ⟨none, 0, rfl, Nat.le_refl _, fun h => absurd h (Nat.lt_irrefl _)⟩, ⟨fun m md h => by simp at h, fun r _ _ _ hr => absurd hr (hno r), fun r _ hr => absurd hr (hno r), fun r _ hi _ => ?_, fun r hd => absurd trivial hd⟩, rfl⟩
  cases r with
  | all => rfl
  | imp m => obtain ⟨_, h⟩ := hi; simp at h
  | dfs m => obtain ⟨_, h⟩ := hi; simp at h
  | nds m i => obtain ⟨_, _, h, _⟩ := hi; simp at h
/-- The answer's error and modules are the input's alone. -/
theorem lay_ans (L : List Md) (slot : Int) (t : ByteArray) : ∃ (n : Nat) (L' : List Md) (f : Pos → ByteArray), (L' = [] ∨ (L' = L ∧ Mo.mods L = 0)) ∧ ∀ w E w', LayRes L slot t w E w' → Below w.heap.size w w' ∧ ∃ v, E = .returned (.tuple #[v, .int .i64 (n : Nat)]) ∧ OutRes L' f w.heap.size v w' := by
  by_cases h0 : Mo.mods L = 0
  · by_cases h1 : layOk L slot t
    · refine ⟨0, L, layTo (slots L) (note L) slot t (slots L).length, .inr ⟨rfl, h0⟩, fun w E w' h => ⟨h.1, ?_⟩⟩
      rcases h.2 with ⟨h2, _⟩ | ⟨_, h2, _⟩ | ⟨_, _, h2⟩
      · exact absurd h0 h2
      · exact absurd h1 h2
      · exact h2
    · refine ⟨1, [], fun _ => no, .inl rfl, fun w E w' h => ⟨h.1, ?_⟩⟩
      rcases h.2 with ⟨h2, _⟩ | ⟨_, _, h2⟩ | ⟨_, h2, _⟩
      · exact absurd h0 h2
      · exact ⟨_, h2, out_nil _ _ _⟩
      · exact absurd h2 h1
  · refine ⟨Mo.mods L, [], fun _ => no, .inl rfl, fun w E w' h => ⟨h.1, ?_⟩⟩
    rcases h.2 with ⟨_, h2⟩ | ⟨h2, _⟩ | ⟨h2, _⟩
    · exact ⟨_, h2, out_nil _ _ _⟩
    · exact absurd h2 h0
    · exact absurd h2 h0
theorem keep_ans (L : List Md) (keep : List Bool) : ∃ (n : Nat) (L' : List Md) (f : Pos → ByteArray), (L' = [] ∨ (L' = L ∧ Mo.mods L = 0)) ∧ ∀ w E w', KeepRes L keep w E w' → Below w.heap.size w w' ∧ ∃ v, E = .returned (.tuple #[v, .int .i64 (n : Nat)]) ∧ OutRes L' f w.heap.size v w' := by
  by_cases h0 : Mo.mods L = 0
  · by_cases h1 : (keepAt keep (slots L) (note L) (slots L).length).1 = keep.length
    · refine ⟨0, L, (keepAt keep (slots L) (note L) (slots L).length).2, .inr ⟨rfl, h0⟩, fun w E w' h => ⟨h.1, ?_⟩⟩
      rcases h.2 with ⟨h2, _⟩ | ⟨_, h2, _⟩ | ⟨_, _, h2⟩
      · exact absurd h0 h2
      · exact absurd h1 h2
      · exact h2
    · refine ⟨1, [], fun _ => no, .inl rfl, fun w E w' h => ⟨h.1, ?_⟩⟩
      rcases h.2 with ⟨h2, _⟩ | ⟨_, _, h2⟩ | ⟨_, h2, _⟩
      · exact absurd h0 h2
      · exact ⟨_, h2, out_nil _ _ _⟩
      · exact absurd h2 h1
  · refine ⟨Mo.mods L, [], fun _ => no, .inl rfl, fun w E w' h => ⟨h.1, ?_⟩⟩
    rcases h.2 with ⟨_, h2⟩ | ⟨h2, _⟩ | ⟨h2, _⟩
    · exact ⟨_, h2, out_nil _ _ _⟩
    · exact absurd h2 h0
    · exact absurd h2 h0
/-- Lengths, whatever is laid. -/
structure Short (M : List Md) : Prop where
  len : M.length ≤ 1000000000000000
  each : ∀ m ∈ M, m.imps.length ≤ 1000000000000000 ∧ m.defs.length ≤ 1000000000000000 ∧ ∀ d ∈ m.defs, d.tree.length ≤ 100000000000
theorem short_lay {L L' : List Md} {f : Pos → ByteArray} (h : L' = [] ∨ (L' = L ∧ Mo.mods L = 0)) : Short (lay f L') := by
  rcases h with rfl | ⟨rfl, h0⟩
  · exact ⟨by show (0 : Nat) ≤ _; omega, fun m hm => by
      have : (lay f []) = [] := rfl
      rw [this] at hm; cases hm⟩
  · obtain ⟨h1, h2⟩ := eq_lens h0
    refine ⟨by rw [show (lay f L').length = L'.length from layM_len 0 L']; exact h1, fun x hx => ?_⟩
    obtain ⟨m, md, hm, rfl⟩ := lay_mem.1 hx
    obtain ⟨a, b, c⟩ := h2 md (List.mem_of_getElem? hm)
    have e1 : (layMd f m md).imps.length = md.imps.length := layI_len m 0 _
    have e2 : (layMd f m md).defs.length = md.defs.length := layD_len m 0 _
    refine ⟨by omega, by omega, fun d hd => ?_⟩
    obtain ⟨i, z, hz, rfl⟩ := layD_mem.1 hd
    have e3 : (layDf f m i z).tree.length = z.tree.length := layT_len m i 0 _
    have := c z (List.mem_of_getElem? hz)
    omega
theorem few_out {L L' : List Md} (h : L' = [] ∨ (L' = L ∧ Mo.mods L = 0)) : Few4 L' := by
  rcases h with rfl | ⟨rfl, h0⟩
  · exact ⟨by show (0 : Nat) ≤ _; omega, fun m hm => (by cases hm), fun m hm => (by cases hm), fun m hm => (by cases hm)⟩
  · obtain ⟨h1, h2, h3⟩ := mods_zero.1 h0
    have hf := Mo.few_len h1
    refine ⟨by omega, fun m hm => by have := hf.2 m hm; omega, fun m hm => by have := hf.2 m hm; omega, fun m hm d hd => ?_⟩
    have := Mo.check_small ((modE_zero.1 (h3 m hm)).2 d hd).2
    omega
theorem OutRes.keep {L : List Md} {f : Pos → ByteArray} {H : Nat} {v : Value} {w w' : World} (h : OutRes L f H v w) (hb : Below w.heap.size w w') : OutRes L f H v w' := by
  obtain ⟨sk, h1, h2, h3⟩ := h
  exact ⟨sk, h1, h2.keep h2.under hb, h3⟩
theorem OutRes.form {L : List Md} {f : Pos → ByteArray} {H : Nat} {v : Value} {w : World} (h : OutRes L f H v w) : ∃ A c, v = .slice A L.length c := by
  obtain ⟨sk, ⟨A, c, rfl, _⟩, _⟩ := h
  exact ⟨A, c, rfl⟩
/-- Modules of one's own below a bound. -/
def OutLow (L : List Md) (f : Pos → ByteArray) (H K : Nat) (v : Value) (w : World) : Prop := ∃ sk, SlOk v sk.b sk.o L.length ∧ OwnSt sk L H f w ∧ sk.v = v ∧ Under sk K L
theorem OutRes.low {L : List Md} {f : Pos → ByteArray} {H : Nat} {v : Value} {w : World} (h : OutRes L f H v w) : OutLow L f H w.heap.size v w := by
  obtain ⟨sk, h1, h2, h3⟩ := h
  exact ⟨sk, h1, h2, h3, h2.under⟩
theorem OutLow.keep {L : List Md} {f : Pos → ByteArray} {H K K' : Nat} {v : Value} {w w' : World} (h : OutLow L f H K v w) (hk : K ≤ K') (hb : Below K' w w') : OutLow L f H K v w' := by
  obtain ⟨sk, h1, h2, h3, h4⟩ := h
  exact ⟨sk, h1, h2.keep (h4.mono hk) hb, h3, h4⟩
/-- A bag whose lists all lie below a bound. -/
def BagLo (K g B Hb : Nat) (w : World) : Prop := ∃ cs, Bag4 (Lo K) (Lo K) (Lo K) (Lo K) g B Hb cs w
theorem AddOut_any {L' : List Md} {f : Pos → ByteArray} {H K gb B Hb : Nat} {v : Value} (w : World) (hb : BagLo H gb B Hb w) (ho : OutLow L' f H K v w) (hBH : B ≤ H) (hHK : H ≤ K) (hK : K ≤ Hb) (hF : Few4 L') :
    Calls Tryz.prog 25 #[.pointer (some ⟨gb, 0, none⟩), v] w (fun e w' => e = .returned (.tuple #[]) ∧ Below Hb w w' ∧ BagLo K gb B Hb w') := by
  obtain ⟨cs, hb⟩ := hb
  obtain ⟨sk, ⟨A, c, rfl, hc, hA⟩, h2, h3, h4⟩ := ho
  refine (AddModules_any w A c (hb.mono (fun u h => .inl h) (fun u h => .inl h) (fun u h => .inl h) (fun u h => .inl h)) ⟨h2, h4.mono hK, hBH⟩ h3 hA hF).mono ?_
  rintro e w' ⟨rfl, hb', -, cs', h'⟩
  have key : ∀ kd u, PK sk L' H kd (fun _ => True) u → Lo K u := fun kd u hu b hbb => by
    rcases hu with hu | ⟨r, -, -, hr, rfl⟩
    · exact Nat.lt_of_lt_of_le (hu b hbb) hHK
    · obtain ⟨k1, rfl, _⟩ := OwnSt.block h2 hr hbb
      exact h4.blk k1
  exact ⟨rfl, hb', cs', Bag4.mono h' (key 3) (key 1) (key 2) (key 0)⟩
set_option maxRecDepth 100000 in
set_option maxHeartbeats 12800000 in
theorem eraselays_walk (L : List Md) (v kv : Value) (keep : List Bool) (slot : Int) (t : ByteArray) (w : World) (hn : Mods w v L) (hk : Bools w kv keep) (hkp : keep.length ≤ 140737488351232) (hS : Sp w) (hP : Pw w) (hl : L.length ≤ 1000000000000000) (hz : ∀ m ∈ L, MdSz m) :
    Calls Tryz.prog 4 #[v, .int .i64 slot, .string t, kv] w (Makes (.bool true) w) := by
  have HN := Lib.hid hn
  have HK := Lib.hid hk
  have HS := Lib.hid hS
  have HP := Lib.hid hP
  have HZ := Lib.hid hz
  have HKP := Lib.hid hkp
  obtain ⟨A, c, rfl⟩ := hn.form
  obtain ⟨Ak, ck, bk, ok, rfl, -⟩ := id hk
  obtain ⟨n1, L1, f1, hL1, hA1⟩ := lay_ans L slot t
  obtain ⟨n2, L2, f2, hL2, hA2⟩ := keep_ans L keep
  have HL1 := Lib.hid hL1
  have HL2 := Lib.hid hL2
  have HA1 := Lib.hid hA1
  have HA2 := Lib.hid hA2
  clear hn hS hP hz hk hkp hL1 hL2 hA1 hA2
  go_enter Tryz.func4, Tryz.ntmps4
  go_wp2_with fail
  refine (eworks_any _ HS.out).mono ?_
  rintro e w1 ⟨rfl, hb1⟩
  have HB1 := Lib.hid hb1
  clear hb1
  go_wp2_with fail
  refine (SizeModules_any L _ _ (HN.out.later HB1.out) hl HZ.out).mono ?_
  rintro e w2 ⟨z, rfl, hb2, hle⟩
  have HB2 := Lib.hid (below_later hb2 HB1.out)
  clear hb2 HB1
  by_cases hbig : 4000 < z
  · go_wp2_with fail
    go_ret
    exact Makes.mk rfl HB2.out
  by_cases htb : (1000 : Int) < (t.size : Int)
  · go_wp2_with fail
    go_ret
    exact Makes.mk rfl HB2.out
  have HLE := Lib.hid (hle 4000 (by omega) (by omega))
  clear hle
  have hL2' : L.length ≤ 4000 := HLE.out.1
  have HZ1 : Hid (∀ m ∈ L, m.imps.length ≤ 100000000000 ∧ m.defs.length ≤ 100000000000 ∧ ∀ d ∈ m.defs, d.tree.length ≤ 100000000000) := Lib.hid fun m hm => by
    obtain ⟨a, b, d⟩ := HLE.out.2 m hm
    exact ⟨by omega, by omega, fun x hx => by have := d x hx; omega⟩
  have HZ2 : Hid (∀ m ∈ L, m.imps.length ≤ 1000000000000000 ∧ m.defs.length ≤ 1000000000000000 ∧ ∀ d ∈ m.defs, d.tree.length ≤ 100000000000) := Lib.hid fun m hm => by
    obtain ⟨a, b, d⟩ := HLE.out.2 m hm
    exact ⟨by omega, by omega, fun x hx => by have := d x hx; omega⟩
  have HLN : Hid (Lens L) := Lib.hid ⟨by have := HLE.out.1; omega, fun md hm => by have := (HLE.out.2 md hm).1; omega, fun md hm => by have := (HLE.out.2 md hm).2.1; omega, fun md hm d hd => by have := (HLE.out.2 md hm).2.2 d hd; omega⟩
  clear HLE
  go_wp2_with fail
  clear hbig htb
  refine (WideModules_any L _ _ (HN.out.later HB2.out) (by omega) HZ1.out (HP.out.later HB2.out HP.out.lt)).mono ?_
  rintro e w3 ⟨g, hg, rfl, hw3, hb3⟩
  have HB3 := Lib.hid (below_later hb3 HB2.out)
  have HW3 := Lib.hid hw3
  clear hw3 hb3 hg HB2
  go_wp2_with fail
  refine (WideBools_any keep _ _ (HK.out.later HB3.out) HKP.out).mono ?_
  rintro e w4 ⟨g2, hg2, rfl, hw4, hb4⟩
  have HB4 := Lib.hid (below_later hb4 HB3.out)
  have HW4 := Lib.hid (HW3.out.later hb4)
  have HV4 := Lib.hid hw4
  clear hw4 hb4 hg2 HB3 HW3
  go_wp2_with fail
  refine (Lay_any L _ slot t _ HW4.out.mods (HS.out.later HB4.out) HLN.out HZ.out).mono ?_
  rintro e w5 hr
  obtain ⟨hb5, va, rfl, ho5⟩ := HA1.out _ _ _ hr
  have H45 := Lib.hid hb5
  have HA5 := Lib.hid ho5
  obtain ⟨Aa, ca, rfl⟩ := ho5.form
  have h5 : w4.heap.size ≤ w5.heap.size := hb5.size
  clear hb5 ho5 hr
  go_wp2_with fail
  refine (Keep_any L _ _ keep _ (HW4.out.later H45.out).mods (HV4.out.later H45.out).bools (by have := HKP.out; omega) (HS.out.later (HB4.out.trans (H45.out.mono HB4.out.size))) HLN.out HZ.out).mono ?_
  rintro e w6 hr
  obtain ⟨hb6, vb, rfl, ho6⟩ := HA2.out _ _ _ hr
  have H46 := Lib.hid (H45.out.trans (hb6.mono h5))
  have HA6 := Lib.hid (HA5.out.low.keep (Nat.le_refl _) hb6)
  have HO6 := Lib.hid ho6
  obtain ⟨Ab, cb, rfl⟩ := ho6.form
  have h6 : w5.heap.size ≤ w6.heap.size := hb6.size
  clear hb6 ho6 hr HA5 H45
  go_wp2_with fail
  refine (Keep_any L _ _ keep _ (HW4.out.later H46.out).mods (HV4.out.later H46.out).bools (by have := HKP.out; omega) (HS.out.later (HB4.out.trans (H46.out.mono HB4.out.size))) HLN.out HZ.out).mono ?_
  rintro e w7 hr
  obtain ⟨hb7, vc, rfl, ho7⟩ := HA2.out _ _ _ hr
  have H47 := Lib.hid (H46.out.trans (hb7.mono (Nat.le_trans h5 h6)))
  have HA7 := Lib.hid (HA6.out.keep h6 hb7)
  have HC7 := Lib.hid (HO6.out.low.keep (Nat.le_refl _) hb7)
  have HO7 := Lib.hid ho7
  obtain ⟨Ac, cc, rfl⟩ := ho7.form
  have h7 : w6.heap.size ≤ w7.heap.size := hb7.size
  clear hb7 ho7 hr HA6 HO6 H46
  go_wp2_with fail
  refine (rLay_any copySpec L _ slot t _ (HN.out.later (HB4.out.trans (H47.out.mono HB4.out.size))) hl HZ.out).mono ?_
  rintro e w8 hr
  obtain ⟨hb8, vd, rfl, ho8⟩ := HA1.out _ _ _ hr
  have H48 := Lib.hid (H47.out.trans (hb8.mono (by omega)))
  have HA8 := Lib.hid (HA7.out.keep (by omega) hb8)
  have HC8 := Lib.hid (HC7.out.keep h7 hb8)
  have HE8 := Lib.hid (HO7.out.low.keep (Nat.le_refl _) hb8)
  have HD8 := Lib.hid ho8.mods
  obtain ⟨Ad, cd, rfl⟩ := ho8.form
  have h8 : w7.heap.size ≤ w8.heap.size := hb8.size
  clear hb8 ho8 hr HA7 HC7 HO7 H47
  go_wp2_with fail
  refine (rKeep_any copySpec L _ _ keep _ (HN.out.later (HB4.out.trans (H48.out.mono HB4.out.size))) (HK.out.later (HB4.out.trans (H48.out.mono HB4.out.size))) (by have := HKP.out; omega) hl HZ.out).mono ?_
  rintro e w9 hr
  obtain ⟨hb9, ve, rfl, ho9⟩ := HA2.out _ _ _ hr
  have H49 := Lib.hid (H48.out.trans (hb9.mono (by omega)))
  have HA9 := Lib.hid (HA8.out.keep (by omega) hb9)
  have HC9 := Lib.hid (HC8.out.keep (by omega) hb9)
  have HE9 := Lib.hid (HE8.out.keep h8 hb9)
  have HD9 := Lib.hid (HD8.out.later hb9)
  have HF9 := Lib.hid ho9.mods
  obtain ⟨Ae, ce, rfl⟩ := ho9.form
  have h9 : w8.heap.size ≤ w9.heap.size := hb9.size
  clear hb9 ho9 hr HA8 HC8 HE8 HD8 H48
  have e1 : ((n1 : Int) != (n1 : Int)) = false := by simp
  have e2 : ((n2 : Int) != (n2 : Int)) = false := by simp
  have HMA : Hid (Mods w9 (.slice Aa L1.length ca) (lay f1 L1)) := Lib.hid (by obtain ⟨sk, a, b, _⟩ := HA9.out; exact b.mat.mods a)
  have HMB : Hid (Mods w9 (.slice Ab L2.length cb) (lay f2 L2)) := Lib.hid (by obtain ⟨sk, a, b, _⟩ := HC9.out; exact b.mat.mods a)
  have HMC : Hid (Mods w9 (.slice Ac L2.length cc) (lay f2 L2)) := Lib.hid (by obtain ⟨sk, a, b, _⟩ := HE9.out; exact b.mat.mods a)
  have HSH1 := Lib.hid (short_lay (f := f1) HL1.out)
  have HSH2 := Lib.hid (short_lay (f := f2) HL2.out)
  go_wp2_with fail
  clear e1 e2
  refine (EqModules_same (lay f1 L1) _ _ w9 HMA.out HD9.out HSH1.out.len HSH1.out.each).mono ?_
  rintro e wa ⟨rfl, hba⟩
  have HMBa := Lib.hid (HMB.out.later hba)
  have HMCa := Lib.hid (HMC.out.later hba)
  have HFa := Lib.hid (HF9.out.later hba)
  have HBa := Lib.hid hba
  clear hba HMA HD9 HMB HMC HF9
  go_wp2_with fail
  refine (EqModules_same (lay f2 L2) _ _ wa HMBa.out HFa.out HSH2.out.len HSH2.out.each).mono ?_
  rintro e wb ⟨rfl, hbb⟩
  have HMCb := Lib.hid (HMCa.out.later hbb)
  have HFb := Lib.hid (HFa.out.later hbb)
  have HBb := Lib.hid (below_later hbb HBa.out)
  clear hbb HMBa HMCa HFa HBa
  go_wp2_with fail
  refine (EqModules_same (lay f2 L2) _ _ wb HMCb.out HFb.out HSH2.out.len HSH2.out.each).mono ?_
  rintro e wc ⟨rfl, hbc⟩
  have HBc := Lib.hid (below_later hbc HBb.out)
  clear hbc HMCb HFb HBb
  have hc9 : w9.heap.size ≤ wc.heap.size := HBc.out.size
  have HAc := Lib.hid (HA9.out.keep (by omega) HBc.out)
  have HCc := Lib.hid (HC9.out.keep (by omega) HBc.out)
  have HEc := Lib.hid (HE9.out.keep (by omega) HBc.out)
  have H4c := Lib.hid (H49.out.trans (HBc.out.mono (by omega)))
  clear HA9 HC9 HE9 H49 HBc
  have HBAG : Hid (BagLo w4.heap.size wc.heap.size w4.heap.size wc.heap.size (wc.alloc (.cells nilCells4 63))) := Lib.hid ⟨_, Bag4.start⟩
  have hbw : Below wc.heap.size wc (wc.alloc (.cells nilCells4 63)) := (Below.refl _ _).alloc (Nat.le_refl _) _
  have HAw := Lib.hid (HAc.out.keep (K' := wc.heap.size) (by omega) hbw)
  have HCw := Lib.hid (HCc.out.keep (K' := wc.heap.size) (by omega) hbw)
  have HEw := Lib.hid (HEc.out.keep (K' := wc.heap.size) (by omega) hbw)
  have H4w := Lib.hid (H4c.out.trans (hbw.mono (by omega)))
  clear hbw HAc HCc HEc
  unfold nilCells4 at HBAG HAw HCw HEw H4w
  go_wp2_with fail
  generalize wc.alloc (.cells #[.slice none 0 0, .slice none 0 0, .slice none 0 0, .slice none 0 0, .slice none 0 0, .slice none 0 0, .slice none 0 0, .slice none 0 0, .slice none 0 0, .slice none 0 0, .slice none 0 0, .slice none 0 0, .slice none 0 0, .slice none 0 0, .slice none 0 0, .slice none 0 0, .slice none 0 0, .slice none 0 0] 63) = wd at *
  have h4 : w4.heap.size ≤ wc.heap.size := H4c.out.size
  obtain ⟨hb, hhb⟩ : ∃ hb, hb = wc.heap.size := ⟨_, rfl⟩
  rw [← hhb] at HBAG h4 hc9 ⊢
  clear H4c hhb
  refine (AddOut_any wd HBAG.out HAw.out (Nat.le_refl _) h5 (by omega) (few_out HL1.out)).mono ?_
  rintro e we ⟨rfl, hbe, hge⟩
  have HBe := Lib.hid hge
  have HCe := Lib.hid (HCw.out.keep (by omega) hbe)
  have HEe := Lib.hid (HEw.out.keep (by omega) hbe)
  have H4e := Lib.hid (H4w.out.trans (hbe.mono h4))
  clear hbe hge HBAG HAw HCw HEw H4w
  go_wp2_with fail
  refine (AddOut_any we HBe.out HCe.out h5 h6 (by omega) (few_out HL2.out)).mono ?_
  rintro e wf ⟨rfl, hbf, hgf⟩
  have HBf := Lib.hid hgf
  have HEf := Lib.hid (HEe.out.keep (by omega) hbf)
  have H4f := Lib.hid (H4e.out.trans (hbf.mono h4))
  clear hbf hgf HBe HCe HEe H4e
  go_wp2_with fail
  refine (AddOut_any wf HBf.out HEf.out (by omega) h7 (by omega) (few_out HL2.out)).mono ?_
  rintro e wg ⟨rfl, hbg, hgg⟩
  have HBg := Lib.hid hgg
  have H4g := Lib.hid (H4f.out.trans (hbg.mono h4))
  clear hbg hgg HBf HEf H4f
  obtain ⟨cs, hbag⟩ := HBg.out
  have HPg := Lib.hid (HP.out.later (HB4.out.trans (H4g.out.mono HB4.out.size)) HP.out.lt)
  have hpb : 1 < w4.heap.size := Nat.lt_of_lt_of_le HP.out.lt HB4.out.size
  have HAP := Lib.hid (Apart4_any wg hbag h4 HPg.out hpb)
  clear hbag HPg HBg hpb
  go_wp2_with fail
  refine HAP.out.mono ?_
  rintro e wh ⟨rfl, hbh⟩
  have H4h := Lib.hid (H4g.out.trans hbh)
  have HBh : Hid (Below w.heap.size w wh) := Lib.hid (HB4.out.trans (H4h.out.mono HB4.out.size))
  have HWh := Lib.hid (HW4.out.later H4h.out)
  have HVh := Lib.hid (HV4.out.later H4h.out)
  clear hbh HAP H4g H4h HW4 HV4
  go_wp2_with fail
  refine (EqModules_same L _ _ _ HWh.out.mods (HN.out.later HBh.out) hl HZ2.out).mono ?_
  rintro e wi ⟨rfl, hbi⟩
  have HBi := Lib.hid (below_later hbi HBh.out)
  have HWi := Lib.hid (HWh.out.later hbi)
  have HVi := Lib.hid (HVh.out.later hbi)
  clear hbi HBh HWh HVh
  go_wp2_with fail
  refine (SpareModules_any L g _ HWi.out (by omega) HZ1.out (HP.out.later HBi.out HP.out.lt)).mono ?_
  rintro e wj ⟨rfl, hbj⟩
  have HBj := Lib.hid (below_later hbj HBi.out)
  have HVj := Lib.hid (HVi.out.later hbj)
  clear hbj HBi HWi HVi
  go_wp2_with fail
  refine (EqBools_same keep _ _ _ HVj.out.bools (HK.out.later HBj.out) (by have := HKP.out; omega)).mono ?_
  rintro e wk ⟨rfl, hbk⟩
  have HBk := Lib.hid (below_later hbk HBj.out)
  have HVk := Lib.hid (HVj.out.later hbk)
  clear hbk HBj HVj
  go_wp2_with fail
  refine (SpareBools_any keep g2 _ HVk.out HKP.out).mono ?_
  rintro e wl ⟨rfl, hbl⟩
  have HBl := Lib.hid (below_later hbl HBk.out)
  clear hbl
  go_wp2_with fail
  go_ret
  exact Makes.mk rfl HBl.out
end Go.Proofs.YtidholghbjljaaaGreatDoor

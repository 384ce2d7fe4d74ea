
/- Memory: modules whose rows' places are told, with any texts in their slots; a text is laid in a slot. No program in sight. -/
import Derived.Test.YtidholghbjljaaaDoorWa
namespace Culp.Er
set_option linter.unusedSimpArgs false
set_option linter.unusedVariables false
open Go Go.RowKit Culp
/-- Where the rows of modules lie. -/
structure Sk where
  b : Nat
  o : Nat
  ib : Nat → Nat
  io : Nat → Nat
  db : Nat → Nat
  do_ : Nat → Nat
  tb : Nat → Nat → Nat
  to_ : Nat → Nat → Nat
  iv : Nat → Value
  dv : Nat → Value
  tv : Nat → Nat → Value
/-- A slice over a row. -/
def SlOk (v : Value) (b o n : Nat) : Prop := ∃ A c, v = .slice A n c ∧ n ≤ c ∧ (0 < n → A = some ⟨b, o, none⟩)
/-- A node's cells, one by one. -/
def NdAt (w : World) (b o : Nat) (x : Nd) : Prop := ∀ j u, x.cells[j]? = some u → w.cell? ⟨b, o + j, none⟩ = some u
structure MdOk (sk : Sk) (w : World) (f : Pos → ByteArray) (m : Nat) (md : Md) : Prop where
  cells : MdAt w sk.b (sk.o + m * 5) md (sk.iv m) (sk.dv m)
  iv : SlOk (sk.iv m) (sk.ib m) (sk.io m) md.imps.length
  dv : SlOk (sk.dv m) (sk.db m) (sk.do_ m) md.defs.length
  imps : ∀ i x, md.imps[i]? = some x → ImAt w (sk.ib m) (sk.io m + i * 5) (layIm f m i x)
  defs : ∀ i d, md.defs[i]? = some d → DfAt w (sk.db m) (sk.do_ m + i * 6) (layDf f m i d) (sk.tv m i) ∧ SlOk (sk.tv m i) (sk.tb m i) (sk.to_ m i) d.tree.length
  nodes : ∀ i d, md.defs[i]? = some d → ∀ k x, d.tree[k]? = some x → NdAt w (sk.tb m i) (sk.to_ m i + k * 8) (layX f m i k x)
def MAt (sk : Sk) (w : World) (L : List Md) (f : Pos → ByteArray) : Prop := ∀ m md, L[m]? = some md → MdOk sk w f m md
/-- All rows lie below. -/
structure Under (sk : Sk) (H : Nat) (L : List Md) : Prop where
  b : 0 < L.length → sk.b < H
  ib : ∀ m md, L[m]? = some md → 0 < md.imps.length → sk.ib m < H
  db : ∀ m md, L[m]? = some md → 0 < md.defs.length → sk.db m < H
  tb : ∀ m md, L[m]? = some md → ∀ i d, md.defs[i]? = some d → 0 < d.tree.length → sk.tb m i < H
section
variable {sk : Sk} {H : Nat} {w w' : World} {L : List Md} {f : Pos → ByteArray}
theorem len_pos {α : Type} {l : List α} {i : Nat} {x : α} (h : l[i]? = some x) : 0 < l.length := by
  have := (List.getElem?_eq_some_iff.1 h).1
  omega
theorem cellB {b o : Nat} {u : Value} (hb : Below H w w') (h : b < H) (hc : w.cell? ⟨b, o, none⟩ = some u) : w'.cell? ⟨b, o, none⟩ = some u := by
  rw [hb.cell (p := ⟨b, o, none⟩) h]; exact hc
theorem MAt.keep (h : MAt sk w L f) (hu : Under sk H L) (hb : Below H w w') : MAt sk w' L f := fun m md hm => by
  obtain ⟨hc, hi, hd, im, df, nd⟩ := h m md hm
  refine ⟨?_, hi, hd, fun i x hx => ?_, fun i d hx => ⟨?_, (df i d hx).2⟩, fun i d hx k x hk j u hj => ?_⟩
  · have hB := hu.b (len_pos hm)
    exact ⟨cellB hb hB hc.1, cellB hb hB hc.2.1, cellB hb hB hc.2.2.1, cellB hb hB hc.2.2.2.1, cellB hb hB hc.2.2.2.2⟩
  · have hB := hu.ib m md hm (len_pos hx)
    have hc := im i x hx
    exact ⟨cellB hb hB hc.1, cellB hb hB hc.2.1, cellB hb hB hc.2.2.1, cellB hb hB hc.2.2.2.1, cellB hb hB hc.2.2.2.2⟩
  · have hB := hu.db m md hm (len_pos hx)
    have hc := (df i d hx).1
    exact ⟨cellB hb hB hc.1, cellB hb hB hc.2.1, cellB hb hB hc.2.2.1, cellB hb hB hc.2.2.2.1, cellB hb hB hc.2.2.2.2.1, cellB hb hB hc.2.2.2.2.2⟩
  · exact cellB hb (hu.tb m md hm i d hx (len_pos hk)) (nd i d hx k x hk j u hj)
theorem Under.mono {K : Nat} (h : Under sk H L) (hk : H ≤ K) : Under sk K L := ⟨fun a => Nat.lt_of_lt_of_le (h.b a) hk, fun m md a b => Nat.lt_of_lt_of_le (h.ib m md a b) hk, fun m md a b => Nat.lt_of_lt_of_le (h.db m md a b) hk, fun m md a i d b c => Nat.lt_of_lt_of_le (h.tb m md a i d b c) hk⟩
/-- They read as modules. -/
theorem MAt.mods {v : Value} (h : MAt sk w L f) (hv : SlOk v sk.b sk.o L.length) : Mods w v (lay f L) := by
  obtain ⟨A, c, rfl, hc, hA⟩ := hv
  have hl : (lay f L).length = L.length := by unfold lay; exact layM_len 0 L
  refine ⟨A, c, by rw [hl], by rw [hl]; exact hc, fun h0 => ?_⟩
  rw [hl] at h0
  refine ⟨sk.b, sk.o, hA h0, fun m md' hm => ?_⟩
  rw [lay_at] at hm
  obtain ⟨md, hmd, rfl⟩ := Option.map_eq_some_iff.1 hm
  obtain ⟨hcl, hi, hd, im, df, nd⟩ := h m md hmd
  refine ⟨(layMd f m md).cells (sk.iv m) (sk.dv m), ⟨sk.iv m, sk.dv m, rfl, ?_, ?_⟩, rfl, fun j u hj => ?_⟩
  · obtain ⟨A, c, he, hc, hA⟩ := hi
    have hl : (layMd f m md).imps.length = md.imps.length := by unfold layMd; exact layI_len m 0 _
    refine ⟨A, c, by rw [hl]; exact he, by rw [hl]; exact hc, fun h0 => ?_⟩
    rw [hl] at h0
    refine ⟨sk.ib m, sk.io m, hA h0, fun i x' hx => ?_⟩
    have hx2 : (layI f m 0 md.imps)[i]? = some x' := hx
    rw [layI_at, Nat.zero_add] at hx2
    obtain ⟨x, hxx, rfl⟩ := Option.map_eq_some_iff.1 hx2
    obtain ⟨q0, q1, q2, q3, q4⟩ := im i x hxx
    refine ⟨_, rfl, rfl, fun j u hj => ?_⟩
    match j, hj with
    | 0, hj => cases hj; exact q0
    | 1, hj => cases hj; exact q1
    | 2, hj => cases hj; exact q2
    | 3, hj => cases hj; exact q3
    | 4, hj => cases hj; exact q4
    | j + 5, hj => simp [Im.cells] at hj
  · obtain ⟨A, c, he, hc, hA⟩ := hd
    have hl : (layMd f m md).defs.length = md.defs.length := by unfold layMd; exact layD_len m 0 _
    refine ⟨A, c, by rw [hl]; exact he, by rw [hl]; exact hc, fun h0 => ?_⟩
    rw [hl] at h0
    refine ⟨sk.db m, sk.do_ m, hA h0, fun i d' hx => ?_⟩
    have hx2 : (layD f m 0 md.defs)[i]? = some d' := hx
    rw [layD_at, Nat.zero_add] at hx2
    obtain ⟨d, hdd, rfl⟩ := Option.map_eq_some_iff.1 hx2
    obtain ⟨⟨q0, q1, q2, q3, q4, q5⟩, At, ct, he, hc, hA⟩ := df i d hdd
    have hl : (layDf f m i d).tree.length = d.tree.length := by unfold layDf; exact layT_len m i 0 _
    refine ⟨(layDf f m i d).cells (sk.tv m i), ⟨sk.tv m i, rfl, At, ct, by rw [hl]; exact he, by rw [hl]; exact hc, fun h0 => ?_⟩, rfl, fun j u hj => ?_⟩
    · rw [hl] at h0
      refine ⟨sk.tb m i, sk.to_ m i, hA h0, fun k x' hk j u hj => ?_⟩
      have hk2 : (layT f m i 0 d.tree)[k]? = some x' := hk
      rw [layT_at, Nat.zero_add] at hk2
      obtain ⟨x, hxx, rfl⟩ := Option.map_eq_some_iff.1 hk2
      exact nd i d hdd k x hxx j u hj
    · match j, hj with
      | 0, hj => cases hj; exact q0
      | 1, hj => cases hj; exact q1
      | 2, hj => cases hj; exact q2
      | 3, hj => cases hj; exact q3
      | 4, hj => cases hj; exact q4
      | 5, hj => cases hj; exact q5
      | j + 6, hj => simp [Df.cells] at hj
  · obtain ⟨q0, q1, q2, q3, q4⟩ := hcl
    match j, hj with
    | 0, hj => cases hj; exact q0
    | 1, hj => cases hj; exact q1
    | 2, hj => cases hj; exact q2
    | 3, hj => cases hj; exact q3
    | 4, hj => cases hj; exact q4
    | j + 5, hj => simp [Md.cells] at hj
end
end Culp.Er

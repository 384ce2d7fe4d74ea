
/- The slots of modules, plain: where an annotation may stand. -/
import Derived.Test.YtidholghbjljaaaGreatDoorVc
namespace Culp.Er
set_option linter.unusedSimpArgs false
set_option linter.unusedVariables false
open Culp
/-- Where a slot is: its sort (0 an import's, 1 a def's, 2 a T, 3 a U), its module, item, node. -/
abbrev Pos := Nat × Nat × Nat × Nat
/-- A slot, but for its text. -/
structure Sl where
  pos : Pos
  mod : ByteArray
  imp : Bool
  item : Nat
  node : Int
  res : Bool
  absent : Bool
def both (k : Int) : Bool := decide (k = 5) || decide (k = 6)
def one (k : Int) : Bool := both k || decide (k = 8) || decide (k = 29)
def slX (nm : ByteArray) (m i k : Nat) (x : Nd) : List Sl := (if one x.kind = true then [⟨(2, m, i, k), nm, false, i, k, false, decide (x.kind ≠ 29)⟩] else []) ++ (if both x.kind = true then [⟨(3, m, i, k), nm, false, i, k, true, true⟩] else [])
def slT (nm : ByteArray) (m i : Nat) : Nat → List Nd → List Sl
  | _, [] => []
  | k, x :: T => slX nm m i k x ++ slT nm m i (k + 1) T
def slD (nm : ByteArray) (m : Nat) : Nat → List Df → List Sl
  | _, [] => []
  | i, d :: D => ⟨(1, m, i, 0), nm, false, i, -1, false, true⟩ :: (slT nm m i 0 d.tree ++ slD nm m (i + 1) D)
def slI (nm : ByteArray) (m : Nat) : Nat → List Im → List Sl
  | _, [] => []
  | i, _ :: I => ⟨(0, m, i, 0), nm, true, i, -1, false, true⟩ :: slI nm m (i + 1) I
def slM : Nat → List Md → List Sl
  | _, [] => []
  | m, md :: L => slI md.name m 0 md.imps ++ (slD md.name m 0 md.defs ++ slM (m + 1) L)
def slots (L : List Md) : List Sl := slM 0 L
def no : ByteArray := ⟨#[]⟩
/-- What stands in the slots. -/
def note (L : List Md) (p : Pos) : ByteArray :=
  match L[p.2.1]? with
  | none => no
  | some md => if p.1 = 0 then (match md.imps[p.2.2.1]? with | some x => x.t | none => no)
    else match md.defs[p.2.2.1]? with
      | none => no
      | some d => if p.1 = 1 then d.t else match d.tree[p.2.2.2]? with
        | none => no
        | some x => if p.1 = 2 then x.t else x.u
def layX (f : Pos → ByteArray) (m i k : Nat) (x : Nd) : Nd := { x with t := f (2, m, i, k), u := f (3, m, i, k) }
def layT (f : Pos → ByteArray) (m i : Nat) : Nat → List Nd → List Nd
  | _, [] => []
  | k, x :: T => layX f m i k x :: layT f m i (k + 1) T
def layDf (f : Pos → ByteArray) (m i : Nat) (d : Df) : Df := { d with t := f (1, m, i, 0), tree := layT f m i 0 d.tree }
def layD (f : Pos → ByteArray) (m : Nat) : Nat → List Df → List Df
  | _, [] => []
  | i, d :: D => layDf f m i d :: layD f m (i + 1) D
def layIm (f : Pos → ByteArray) (m i : Nat) (x : Im) : Im := { x with t := f (0, m, i, 0) }
def layI (f : Pos → ByteArray) (m : Nat) : Nat → List Im → List Im
  | _, [] => []
  | i, x :: I => layIm f m i x :: layI f m (i + 1) I
def layMd (f : Pos → ByteArray) (m : Nat) (md : Md) : Md := { md with imps := layI f m 0 md.imps, defs := layD f m 0 md.defs }
def layM (f : Pos → ByteArray) : Nat → List Md → List Md
  | _, [] => []
  | m, md :: L => layMd f m md :: layM f (m + 1) L
/-- The modules with other texts in their slots (and in what is no slot). -/
def lay (f : Pos → ByteArray) (L : List Md) : List Md := layM f 0 L
def upd (f : Pos → ByteArray) (p : Pos) (t : ByteArray) : Pos → ByteArray := fun q => if q = p then t else f q
section
variable {f : Pos → ByteArray}
theorem layT_len (m i : Nat) : ∀ (k : Nat) (T : List Nd), (layT f m i k T).length = T.length
  | _, [] => rfl
  | k, x :: T => by rw [layT, List.length_cons, List.length_cons, layT_len m i (k + 1) T]
theorem layD_len (m : Nat) : ∀ (i : Nat) (D : List Df), (layD f m i D).length = D.length
  | _, [] => rfl
  | i, d :: D => by rw [layD, List.length_cons, List.length_cons, layD_len m (i + 1) D]
theorem layI_len (m : Nat) : ∀ (i : Nat) (I : List Im), (layI f m i I).length = I.length
  | _, [] => rfl
  | i, x :: I => by rw [layI, List.length_cons, List.length_cons, layI_len m (i + 1) I]
theorem layM_len : ∀ (m : Nat) (L : List Md), (layM f m L).length = L.length
  | _, [] => rfl
  | m, x :: L => by rw [layM, List.length_cons, List.length_cons, layM_len (m + 1) L]
theorem layT_at (m i : Nat) : ∀ (k : Nat) (T : List Nd) (j : Nat), (layT f m i k T)[j]? = (T[j]?).map (layX f m i (k + j))
  | _, [], j => by simp [layT]
  | k, x :: T, 0 => by simp [layT]
  | k, x :: T, j + 1 => by
    rw [layT, List.getElem?_cons_succ, List.getElem?_cons_succ, layT_at m i (k + 1) T j]
    rw [show k + 1 + j = k + (j + 1) by omega]
theorem layD_at (m : Nat) : ∀ (i : Nat) (D : List Df) (j : Nat), (layD f m i D)[j]? = (D[j]?).map (layDf f m (i + j))
  | _, [], j => by simp [layD]
  | i, x :: T, 0 => by simp [layD]
  | i, x :: T, j + 1 => by
    rw [layD, List.getElem?_cons_succ, List.getElem?_cons_succ, layD_at m (i + 1) T j]
    rw [show i + 1 + j = i + (j + 1) by omega]
theorem layI_at (m : Nat) : ∀ (i : Nat) (I : List Im) (j : Nat), (layI f m i I)[j]? = (I[j]?).map (layIm f m (i + j))
  | _, [], j => by simp [layI]
  | i, x :: T, 0 => by simp [layI]
  | i, x :: T, j + 1 => by
    rw [layI, List.getElem?_cons_succ, List.getElem?_cons_succ, layI_at m (i + 1) T j]
    rw [show i + 1 + j = i + (j + 1) by omega]
theorem layM_at : ∀ (m : Nat) (L : List Md) (j : Nat), (layM f m L)[j]? = (L[j]?).map (layMd f (m + j))
  | _, [], j => by simp [layM]
  | m, x :: T, 0 => by simp [layM]
  | m, x :: T, j + 1 => by
    rw [layM, List.getElem?_cons_succ, List.getElem?_cons_succ, layM_at (m + 1) T j]
    rw [show m + 1 + j = m + (j + 1) by omega]
theorem lay_at (L : List Md) (m : Nat) : (lay f L)[m]? = (L[m]?).map (layMd f m) := by
  unfold lay
  rw [layM_at, Nat.zero_add]
end
/-- With what stands in the slots they are as they were. -/
theorem lay_note (L : List Md) : lay (note L) L = L := by
  apply List.ext_getElem?
  intro m
  rw [lay_at]
  cases hm : L[m]? with
  | none => rfl
  | some md =>
    simp only [Option.map_some, Option.some.injEq]
    have hI : layI (note L) m 0 md.imps = md.imps := by
      apply List.ext_getElem?
      intro i
      rw [layI_at, Nat.zero_add]
      cases hi : md.imps[i]? with
      | none => rfl
      | some x => simp [layIm, note, hm, hi]
    have hD : layD (note L) m 0 md.defs = md.defs := by
      apply List.ext_getElem?
      intro i
      rw [layD_at, Nat.zero_add]
      cases hi : md.defs[i]? with
      | none => rfl
      | some d =>
        have hT : layT (note L) m i 0 d.tree = d.tree := by
          apply List.ext_getElem?
          intro k
          rw [layT_at, Nat.zero_add]
          cases hk : d.tree[k]? with
          | none => rfl
          | some x => simp [layX, note, hm, hi, hk]
        simp [layDf, note, hm, hi, hT]
    simp [layMd, hI, hD]
end Culp.Er

/- Memory: modules whose rows' places are told, with any texts in their slots; a text is laid in a slot. No program in sight. -/
namespace Culp.Er
set_option linter.unusedSimpArgs false
set_option linter.unusedVariables false
open Go Go.RowKit Culp
/-- Where the rows of modules lie. -/
structure Sk where
  b : Nat
  o : Nat
  ib : Nat → Nat
  io : Nat → Nat
  db : Nat → Nat
  do_ : Nat → Nat
  tb : Nat → Nat → Nat
  to_ : Nat → Nat → Nat
  iv : Nat → Value
  dv : Nat → Value
  tv : Nat → Nat → Value
  v : Value
/-- A slice over a row. -/
def SlOk (v : Value) (b o n : Nat) : Prop := ∃ A c, v = .slice A n c ∧ n ≤ c ∧ (0 < n → A = some ⟨b, o, none⟩)
/-- A node's cells, one by one. -/
def NdAt (w : World) (b o : Nat) (x : Nd) : Prop := ∀ j u, x.cells[j]? = some u → w.cell? ⟨b, o + j, none⟩ = some u
structure MdOk (sk : Sk) (w : World) (f : Pos → ByteArray) (m : Nat) (md : Md) : Prop where
  cells : MdAt w sk.b (sk.o + m * 5) md (sk.iv m) (sk.dv m)
  iv : SlOk (sk.iv m) (sk.ib m) (sk.io m) md.imps.length
  dv : SlOk (sk.dv m) (sk.db m) (sk.do_ m) md.defs.length
  imps : ∀ i x, md.imps[i]? = some x → ImAt w (sk.ib m) (sk.io m + i * 5) (layIm f m i x)
  defs : ∀ i d, md.defs[i]? = some d → DfAt w (sk.db m) (sk.do_ m + i * 6) (layDf f m i d) (sk.tv m i) ∧ SlOk (sk.tv m i) (sk.tb m i) (sk.to_ m i) d.tree.length
  nodes : ∀ i d, md.defs[i]? = some d → ∀ k x, d.tree[k]? = some x → NdAt w (sk.tb m i) (sk.to_ m i + k * 8) (layX f m i k x)
def MAt (sk : Sk) (w : World) (L : List Md) (f : Pos → ByteArray) : Prop := ∀ m md, L[m]? = some md → MdOk sk w f m md
/-- All rows lie below. -/
structure Under (sk : Sk) (H : Nat) (L : List Md) : Prop where
  b : 0 < L.length → sk.b < H
  ib : ∀ m md, L[m]? = some md → 0 < md.imps.length → sk.ib m < H
  db : ∀ m md, L[m]? = some md → 0 < md.defs.length → sk.db m < H
  tb : ∀ m md, L[m]? = some md → ∀ i d, md.defs[i]? = some d → 0 < d.tree.length → sk.tb m i < H
section
variable {sk : Sk} {H : Nat} {w w' : World} {L : List Md} {f : Pos → ByteArray}
theorem len_pos {α : Type} {l : List α} {i : Nat} {x : α} (h : l[i]? = some x) : 0 < l.length := by
  have := (List.getElem?_eq_some_iff.1 h).1
  omega
theorem cellB {b o : Nat} {u : Value} (hb : Below H w w') (h : b < H) (hc : w.cell? ⟨b, o, none⟩ = some u) : w'.cell? ⟨b, o, none⟩ = some u := by
  rw [hb.cell (p := ⟨b, o, none⟩) h]; exact hc
theorem MAt.keep (h : MAt sk w L f) (hu : Under sk H L) (hb : Below H w w') : MAt sk w' L f := fun m md hm => by
  obtain ⟨hc, hi, hd, im, df, nd⟩ := h m md hm
  refine ⟨?_, hi, hd, fun i x hx => ?_, fun i d hx => ⟨?_, (df i d hx).2⟩, fun i d hx k x hk j u hj => ?_⟩
  · have hB := hu.b (len_pos hm)
    exact ⟨cellB hb hB hc.1, cellB hb hB hc.2.1, cellB hb hB hc.2.2.1, cellB hb hB hc.2.2.2.1, cellB hb hB hc.2.2.2.2⟩
  · have hB := hu.ib m md hm (len_pos hx)
    have hc := im i x hx
    exact ⟨cellB hb hB hc.1, cellB hb hB hc.2.1, cellB hb hB hc.2.2.1, cellB hb hB hc.2.2.2.1, cellB hb hB hc.2.2.2.2⟩
  · have hB := hu.db m md hm (len_pos hx)
    have hc := (df i d hx).1
    exact ⟨cellB hb hB hc.1, cellB hb hB hc.2.1, cellB hb hB hc.2.2.1, cellB hb hB hc.2.2.2.1, cellB hb hB hc.2.2.2.2.1, cellB hb hB hc.2.2.2.2.2⟩
  · exact cellB hb (hu.tb m md hm i d hx (len_pos hk)) (nd i d hx k x hk j u hj)
theorem Under.mono {K : Nat} (h : Under sk H L) (hk : H ≤ K) : Under sk K L := ⟨fun a => Nat.lt_of_lt_of_le (h.b a) hk, fun m md a b => Nat.lt_of_lt_of_le (h.ib m md a b) hk, fun m md a b => Nat.lt_of_lt_of_le (h.db m md a b) hk, fun m md a i d b c => Nat.lt_of_lt_of_le (h.tb m md a i d b c) hk⟩
/-- They read as modules. -/
theorem MAt.mods {v : Value} (h : MAt sk w L f) (hv : SlOk v sk.b sk.o L.length) : Mods w v (lay f L) := by
  obtain ⟨A, c, rfl, hc, hA⟩ := hv
  have hl : (lay f L).length = L.length := by unfold lay; exact layM_len 0 L
  refine ⟨A, c, by rw [hl], by rw [hl]; exact hc, fun h0 => ?_⟩
  rw [hl] at h0
  refine ⟨sk.b, sk.o, hA h0, fun m md' hm => ?_⟩
  rw [lay_at] at hm
  obtain ⟨md, hmd, rfl⟩ := Option.map_eq_some_iff.1 hm
  obtain ⟨hcl, hi, hd, im, df, nd⟩ := h m md hmd
  refine ⟨(layMd f m md).cells (sk.iv m) (sk.dv m), ⟨sk.iv m, sk.dv m, rfl, ?_, ?_⟩, rfl, fun j u hj => ?_⟩
  · obtain ⟨A, c, he, hc, hA⟩ := hi
    have hl : (layMd f m md).imps.length = md.imps.length := by unfold layMd; exact layI_len m 0 _
    refine ⟨A, c, by rw [hl]; exact he, by rw [hl]; exact hc, fun h0 => ?_⟩
    rw [hl] at h0
    refine ⟨sk.ib m, sk.io m, hA h0, fun i x' hx => ?_⟩
    have hx2 : (layI f m 0 md.imps)[i]? = some x' := hx
    rw [layI_at, Nat.zero_add] at hx2
    obtain ⟨x, hxx, rfl⟩ := Option.map_eq_some_iff.1 hx2
    obtain ⟨q0, q1, q2, q3, q4⟩ := im i x hxx
    refine ⟨_, rfl, rfl, fun j u hj => ?_⟩
    match j, hj with
    | 0, hj => cases hj; exact q0
    | 1, hj => cases hj; exact q1
    | 2, hj => cases hj; exact q2
    | 3, hj => cases hj; exact q3
    | 4, hj => cases hj; exact q4
    | j + 5, hj => simp [Im.cells] at hj
  · obtain ⟨A, c, he, hc, hA⟩ := hd
    have hl : (layMd f m md).defs.length = md.defs.length := by unfold layMd; exact layD_len m 0 _
    refine ⟨A, c, by rw [hl]; exact he, by rw [hl]; exact hc, fun h0 => ?_⟩
    rw [hl] at h0
    refine ⟨sk.db m, sk.do_ m, hA h0, fun i d' hx => ?_⟩
    have hx2 : (layD f m 0 md.defs)[i]? = some d' := hx
    rw [layD_at, Nat.zero_add] at hx2
    obtain ⟨d, hdd, rfl⟩ := Option.map_eq_some_iff.1 hx2
    obtain ⟨⟨q0, q1, q2, q3, q4, q5⟩, At, ct, he, hc, hA⟩ := df i d hdd
    have hl : (layDf f m i d).tree.length = d.tree.length := by unfold layDf; exact layT_len m i 0 _
    refine ⟨(layDf f m i d).cells (sk.tv m i), ⟨sk.tv m i, rfl, At, ct, by rw [hl]; exact he, by rw [hl]; exact hc, fun h0 => ?_⟩, rfl, fun j u hj => ?_⟩
    · rw [hl] at h0
      refine ⟨sk.tb m i, sk.to_ m i, hA h0, fun k x' hk j u hj => ?_⟩
      have hk2 : (layT f m i 0 d.tree)[k]? = some x' := hk
      rw [layT_at, Nat.zero_add] at hk2
      obtain ⟨x, hxx, rfl⟩ := Option.map_eq_some_iff.1 hk2
      exact nd i d hdd k x hxx j u hj
    · match j, hj with
      | 0, hj => cases hj; exact q0
      | 1, hj => cases hj; exact q1
      | 2, hj => cases hj; exact q2
      | 3, hj => cases hj; exact q3
      | 4, hj => cases hj; exact q4
      | 5, hj => cases hj; exact q5
      | j + 6, hj => simp [Df.cells] at hj
  · obtain ⟨q0, q1, q2, q3, q4⟩ := hcl
    match j, hj with
    | 0, hj => cases hj; exact q0
    | 1, hj => cases hj; exact q1
    | 2, hj => cases hj; exact q2
    | 3, hj => cases hj; exact q3
    | 4, hj => cases hj; exact q4
    | j + 5, hj => simp [Md.cells] at hj
end
end Culp.Er

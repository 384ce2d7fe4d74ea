
/- Memory: lists of structs that lie in memory, modules, and what holds of them later. No program in sight. -/
import Derived.Test.YtidholghbjljaaaGreatDoorR4W
import Derived.Test.YtidholghbjljaaaGreatDoorOpen
namespace Culp
set_option linter.unusedSimpArgs false
set_option linter.unusedVariables false
open Go Go.RowKit

/-- A slice whose elements are structs of so many cells each. -/
def RowsV {α : Type} (sz : Nat) (R : World → α → List Value → Prop) (w : World) (v : Value) (l : List α) : Prop :=
  ∃ A c, v = .slice A l.length c ∧ l.length ≤ c ∧ (0 < l.length → ∃ b off, A = some ⟨b, off, none⟩ ∧ ∀ i x, l[i]? = some x → ∃ cs, R w x cs ∧ cs.length = sz ∧ ∀ j u, cs[j]? = some u → w.cell? ⟨b, off + i * sz + j, none⟩ = some u)
theorem RowsV.later {α : Type} {sz : Nat} {R : World → α → List Value → Prop} {w w' : World} {v : Value} {l : List α} (h : RowsV sz R w v l) (hb : Below w.heap.size w w') (hR : ∀ x ∈ l, ∀ cs, R w x cs → R w' x cs) : RowsV sz R w' v l := by
  obtain ⟨A, c, h1, h2, h3⟩ := h
  refine ⟨A, c, h1, h2, fun h0 => ?_⟩
  obtain ⟨b, off, hA, hc⟩ := h3 h0
  refine ⟨b, off, hA, fun i x hx => ?_⟩
  obtain ⟨cs, k1, k2, k3⟩ := hc i x hx
  exact ⟨cs, hR x (List.mem_of_getElem? hx) cs k1, k2, fun j u hu => cell_later hb (k3 j u hu)⟩
theorem RowsV.nil {α : Type} {sz : Nat} {R : World → α → List Value → Prop} {w : World} : RowsV sz R w (.slice none 0 0) ([] : List α) := ⟨none, 0, rfl, Nat.le_refl _, fun h => absurd h (Nat.lt_irrefl _)⟩

/-- An import. -/
structure Im where
  src : ByteArray
  name : ByteArray
  t : ByteArray
  line : Int
  col : Int
/-- A def. -/
structure Df where
  name : ByteArray
  out : Bool
  t : ByteArray
  tree : List Nd
  line : Int
  col : Int
/-- A module. -/
structure Md where
  name : ByteArray
  imps : List Im
  defs : List Df
  line : Int
  col : Int
def Im.cells (x : Im) : List Value := [.string x.src, .string x.name, .string x.t, .int .i64 x.line, .int .i64 x.col]
def Df.cells (x : Df) (tv : Value) : List Value := [.string x.name, .bool x.out, .string x.t, tv, .int .i64 x.line, .int .i64 x.col]
def Md.cells (x : Md) (iv dv : Value) : List Value := [.string x.name, iv, dv, .int .i64 x.line, .int .i64 x.col]
def ImR (_ : World) (x : Im) (cs : List Value) : Prop := cs = x.cells
def Imps (w : World) (v : Value) (l : List Im) : Prop := RowsV 5 ImR w v l
def DfR (w : World) (x : Df) (cs : List Value) : Prop := ∃ tv, cs = x.cells tv ∧ Nodes w tv x.tree
def Defs (w : World) (v : Value) (l : List Df) : Prop := RowsV 6 DfR w v l
def MdR (w : World) (x : Md) (cs : List Value) : Prop := ∃ iv dv, cs = x.cells iv dv ∧ Imps w iv x.imps ∧ Defs w dv x.defs
def Mods (w : World) (v : Value) (l : List Md) : Prop := RowsV 5 MdR w v l
section
variable {w w' : World} {v : Value}
theorem Imps.later {l : List Im} (h : Imps w v l) (hb : Below w.heap.size w w') : Imps w' v l := RowsV.later h hb fun _ _ _ h => h
theorem DfR.later {x : Df} {cs : List Value} (h : DfR w x cs) (hb : Below w.heap.size w w') : DfR w' x cs := by
  obtain ⟨tv, h1, h2⟩ := h
  exact ⟨tv, h1, h2.later hb⟩
theorem Defs.later {l : List Df} (h : Defs w v l) (hb : Below w.heap.size w w') : Defs w' v l := RowsV.later h hb fun _ _ _ h => h.later hb
theorem MdR.later {x : Md} {cs : List Value} (h : MdR w x cs) (hb : Below w.heap.size w w') : MdR w' x cs := by
  obtain ⟨iv, dv, h1, h2, h3⟩ := h
  exact ⟨iv, dv, h1, h2.later hb, h3.later hb⟩
theorem Mods.later {l : List Md} (h : Mods w v l) (hb : Below w.heap.size w w') : Mods w' v l := RowsV.later h hb fun _ _ _ h => h.later hb
/-- The slice itself, and where its elements lie. -/
theorem Imps.form {l : List Im} (h : Imps w v l) : ∃ A c, v = .slice A l.length c := by
  obtain ⟨A, c, h1, _⟩ := h
  exact ⟨A, c, h1⟩
theorem Defs.form {l : List Df} (h : Defs w v l) : ∃ A c, v = .slice A l.length c := by
  obtain ⟨A, c, h1, _⟩ := h
  exact ⟨A, c, h1⟩
theorem Mods.form {l : List Md} (h : Mods w v l) : ∃ A c, v = .slice A l.length c := by
  obtain ⟨A, c, h1, _⟩ := h
  exact ⟨A, c, h1⟩
theorem Nodes.form {l : List Nd} (h : Nodes w v l) : ∃ A c, v = .slice A l.length c := by
  obtain ⟨A, c, h1, _⟩ := h
  exact ⟨A, c, h1⟩
/-- The cells of one import. -/
def ImAt (w : World) (b o : Nat) (x : Im) : Prop := w.cell? ⟨b, o, none⟩ = some (.string x.src) ∧ w.cell? ⟨b, o + 1, none⟩ = some (.string x.name) ∧ w.cell? ⟨b, o + 2, none⟩ = some (.string x.t) ∧ w.cell? ⟨b, o + 3, none⟩ = some (.int .i64 x.line) ∧ w.cell? ⟨b, o + 4, none⟩ = some (.int .i64 x.col)
/-- The cells of one def. -/
def DfAt (w : World) (b o : Nat) (x : Df) (tv : Value) : Prop := w.cell? ⟨b, o, none⟩ = some (.string x.name) ∧ w.cell? ⟨b, o + 1, none⟩ = some (.bool x.out) ∧ w.cell? ⟨b, o + 2, none⟩ = some (.string x.t) ∧ w.cell? ⟨b, o + 3, none⟩ = some tv ∧ w.cell? ⟨b, o + 4, none⟩ = some (.int .i64 x.line) ∧ w.cell? ⟨b, o + 5, none⟩ = some (.int .i64 x.col)
/-- The cells of one module. -/
def MdAt (w : World) (b o : Nat) (x : Md) (iv dv : Value) : Prop := w.cell? ⟨b, o, none⟩ = some (.string x.name) ∧ w.cell? ⟨b, o + 1, none⟩ = some iv ∧ w.cell? ⟨b, o + 2, none⟩ = some dv ∧ w.cell? ⟨b, o + 3, none⟩ = some (.int .i64 x.line) ∧ w.cell? ⟨b, o + 4, none⟩ = some (.int .i64 x.col)
theorem Imps.at_ {l : List Im} {A : Option Addr} {n c i : Nat} (h : Imps w (.slice A n c) l) (hi : i < l.length) : ∃ b off, A = some ⟨b, off, none⟩ ∧ ImAt w b (off + i * 5) l[i] := by
  obtain ⟨A, c, h1, h2, h3⟩ := h
  simp only [Value.slice.injEq] at h1
  obtain ⟨rfl, _, rfl⟩ := h1
  obtain ⟨b, off, rfl, hc⟩ := h3 (by omega)
  obtain ⟨cs, rfl, k2, k3⟩ := hc i _ (List.getElem?_eq_getElem hi)
  exact ⟨b, off, rfl, k3 0 _ rfl, k3 1 _ rfl, k3 2 _ rfl, k3 3 _ rfl, k3 4 _ rfl⟩
theorem Defs.at_ {l : List Df} {A : Option Addr} {n c i : Nat} (h : Defs w (.slice A n c) l) (hi : i < l.length) : ∃ b off tv, A = some ⟨b, off, none⟩ ∧ DfAt w b (off + i * 6) l[i] tv ∧ Nodes w tv l[i].tree := by
  obtain ⟨A, c, h1, h2, h3⟩ := h
  simp only [Value.slice.injEq] at h1
  obtain ⟨rfl, _, rfl⟩ := h1
  obtain ⟨b, off, rfl, hc⟩ := h3 (by omega)
  obtain ⟨cs, ⟨tv, rfl, kt⟩, k2, k3⟩ := hc i _ (List.getElem?_eq_getElem hi)
  exact ⟨b, off, tv, rfl, ⟨k3 0 _ rfl, k3 1 _ rfl, k3 2 _ rfl, k3 3 _ rfl, k3 4 _ rfl, k3 5 _ rfl⟩, kt⟩
theorem Mods.at_ {l : List Md} {A : Option Addr} {n c i : Nat} (h : Mods w (.slice A n c) l) (hi : i < l.length) : ∃ b off iv dv, A = some ⟨b, off, none⟩ ∧ MdAt w b (off + i * 5) l[i] iv dv ∧ Imps w iv l[i].imps ∧ Defs w dv l[i].defs := by
  obtain ⟨A, c, h1, h2, h3⟩ := h
  simp only [Value.slice.injEq] at h1
  obtain ⟨rfl, _, rfl⟩ := h1
  obtain ⟨b, off, rfl, hc⟩ := h3 (by omega)
  obtain ⟨cs, ⟨iv, dv, rfl, ki, kd⟩, k2, k3⟩ := hc i _ (List.getElem?_eq_getElem hi)
  exact ⟨b, off, iv, dv, rfl, ⟨k3 0 _ rfl, k3 1 _ rfl, k3 2 _ rfl, k3 3 _ rfl, k3 4 _ rfl⟩, ki, kd⟩
end
end Culp

/- Modules that may be, plain: no program in sight. -/
namespace Culp.Mo
set_option linter.unusedSimpArgs false
set_option linter.unusedVariables false
open Culp Culp.Tr
def impOk (i : Im) : Bool := Tx.isName i.src.data.toList && Tx.isName i.name.data.toList && note i.t.data.toList
def defE (d : Df) : Nat := if (Tx.isName d.name.data.toList && note d.t.data.toList) = true then (check d.tree).1 else 18
def headOk (m : Md) : Bool := Tx.isName m.name.data.toList && m.imps.all impOk
/-- The first that is not 0. -/
def firstE : List Nat → Nat
  | [] => 0
  | e :: l => if e = 0 then firstE l else e
def modE (m : Md) : Nat := if headOk m = true then firstE (m.defs.map defE) else 18
def nodesD (l : List Df) : Nat := (l.map fun d => d.tree.length).sum
def nodesM (l : List Md) : Nat := (l.map fun m => nodesD m.defs).sum
def small (m : Md) : Bool := decide (m.imps.length + m.defs.length ≤ 64)
def few (l : List Md) : Bool := decide (l.length ≤ 8) && l.all small
/-- What is told of modules. -/
def mods (l : List Md) : Nat := if few l = true then (if firstE (l.map modE) = 0 then (if 4096 < nodesM l then 17 else 0) else firstE (l.map modE)) else 17
theorem firstE_append : ∀ (a b : List Nat), firstE (a ++ b) = if firstE a = 0 then firstE b else firstE a
  | [], b => by simp [firstE]
  | e :: a, b => by
    rw [List.cons_append, firstE, firstE]
    by_cases h : e = 0
    · simp only [if_pos h]; exact firstE_append a b
    · simp only [if_neg h]
section
variable {α : Type} {f : α → Nat} {l : List α} {k : Nat} {x : α}
theorem firstE_step (h : firstE ((l.take k).map f) = 0) (hx : l[k]? = some x) (h0 : f x = 0) : firstE ((l.take (k + 1)).map f) = 0 := by
  rw [List.take_add_one, hx, List.map_append, firstE_append, if_pos h]
  simp [firstE, h0]
theorem firstE_hit (h : firstE ((l.take k).map f) = 0) (hx : l[k]? = some x) (h0 : f x ≠ 0) : firstE (l.map f) = f x := by
  have hk := (List.getElem?_eq_some_iff.1 hx).1
  have e : l = l.take k ++ x :: l.drop (k + 1) := by
    have h1 := (List.take_append_drop k l).symm
    rw [List.drop_eq_getElem_cons hk] at h1
    have h2 : l[k] = x := (List.getElem?_eq_some_iff.1 hx).2
    rw [h2] at h1
    exact h1
  rw [e, List.map_append, firstE_append, if_pos h, List.map_cons, firstE, if_neg h0]
theorem firstE_all (h : firstE ((l.take k).map f) = 0) (hk : l.length ≤ k) : firstE (l.map f) = 0 := by
  rwa [List.take_of_length_le hk] at h
theorem all_step {p : α → Bool} (hx : l[k]? = some x) : (l.take (k + 1)).all p = ((l.take k).all p && p x) := by
  rw [List.take_add_one, hx, List.all_append]
  simp
theorem all_no {p : α → Bool} (hx : l[k]? = some x) (h : p x = false) : l.all p = false := by
  rw [Bool.eq_false_iff]
  intro ha
  have := List.all_eq_true.1 ha x (List.mem_of_getElem? hx)
  rw [h] at this
  cases this
theorem sum_step {g : α → Nat} (hx : l[k]? = some x) : ((l.take (k + 1)).map g).sum = ((l.take k).map g).sum + g x := by
  rw [List.take_add_one, hx, List.map_append, List.sum_append]
  simp
end
theorem defE_no {d : Df} (h : (Tx.isName d.name.data.toList && note d.t.data.toList) = false) : defE d = 18 := by
  unfold defE
  rw [h]
  rfl
theorem defE_yes {d : Df} (h : (Tx.isName d.name.data.toList && note d.t.data.toList) = true) : defE d = (check d.tree).1 := by
  unfold defE
  rw [h]
  rfl
theorem modE_no {m : Md} (h : headOk m = false) : modE m = 18 := by
  unfold modE
  rw [h]
  rfl
theorem modE_yes {m : Md} (h : headOk m = true) : modE m = firstE (m.defs.map defE) := by
  unfold modE
  rw [h]
  rfl
theorem mods_many {l : List Md} (h : few l = false) : mods l = 17 := by
  unfold mods
  rw [h]
  rfl
theorem mods_bad {l : List Md} (h : few l = true) (h2 : firstE (l.map modE) ≠ 0) : mods l = firstE (l.map modE) := by
  unfold mods
  rw [if_pos h, if_neg h2]
theorem mods_big {l : List Md} (h : few l = true) (h2 : firstE (l.map modE) = 0) (h3 : 4096 < nodesM l) : mods l = 17 := by
  unfold mods
  rw [if_pos h, if_pos h2, if_pos h3]
theorem mods_ok {l : List Md} (h : few l = true) (h2 : firstE (l.map modE) = 0) (h3 : ¬ 4096 < nodesM l) : mods l = 0 := by
  unfold mods
  rw [if_pos h, if_pos h2, if_neg h3]
theorem few_len {l : List Md} (h : few l = true) : l.length ≤ 8 ∧ ∀ m ∈ l, m.imps.length + m.defs.length ≤ 64 := by
  unfold few at h
  rw [Bool.and_eq_true, decide_eq_true_eq, List.all_eq_true] at h
  exact ⟨h.1, fun m hm => by have := h.2 m hm; unfold small at this; exact of_decide_eq_true this⟩
theorem check_small {T : List Nd} (h : (check T).1 = 0) : T.length ≤ 4096 := by
  unfold check at h
  split at h
  · cases h
  · omega
end Culp.Mo

/- Arguments: modules that came in. -/
namespace Go.Proofs.YtidholghbjljaaaGreatDoor
set_option linter.unusedSimpArgs false
set_option linter.unusedVariables false
open Go.RowKit Culp Go.ChangeShapes Go.WideShapes Go.Deep
theorem vsz (s : ByteArray) : s.data.toList.length = s.size := by simp
/-- A list's datum. -/
def RowsDat {H α : Type} (D : α → DataW H → Prop) (l : List α) (d : DataW H) : Prop := (d = .nil ∧ l = []) ∨ ∃ (ds more : List (DataW H)), d = .slice ds more ∧ ds.length = l.length ∧ ∀ (i : Nat) (x : α) (e : DataW H), l[i]? = some x → ds[i]? = some e → D x e
def NodesDat {H : Type} (T : List Nd) (d : DataW H) : Prop := ((d = .nil ∧ T = []) ∨ ∃ more : List (DataW H), d = .slice (T.map nodeD) more) ∧ ∀ y ∈ T, NumOk y
def ImDat {H : Type} (x : Im) (d : DataW H) : Prop := d = .agg [.lit (.string x.src.data.toList), .lit (.string x.name.data.toList), .lit (.string x.t.data.toList), .agg [.lit (.int .i64 x.line), .lit (.int .i64 x.col)]]
def DfDat {H : Type} (x : Df) (d : DataW H) : Prop := ∃ dT, d = .agg [.lit (.string x.name.data.toList), .lit (.bool x.out), .lit (.string x.t.data.toList), dT, .agg [.lit (.int .i64 x.line), .lit (.int .i64 x.col)]] ∧ NodesDat x.tree dT
def MdDat {H : Type} (x : Md) (d : DataW H) : Prop := ∃ dI dD, d = .agg [.lit (.string x.name.data.toList), dI, dD, .agg [.lit (.int .i64 x.line), .lit (.int .i64 x.col)]] ∧ RowsDat ImDat x.imps dI ∧ RowsDat DfDat x.defs dD
theorem c_im : Tryz.prog.cellsOf 90 = 5 := by kernel_rfl
theorem c_df : Tryz.prog.cellsOf 84 = 6 := by kernel_rfl
theorem c_md : Tryz.prog.cellsOf 88 = 5 := by kernel_rfl
theorem c_bool : Tryz.prog.cellsOf 4 = 1 := by kernel_rfl
theorem c_ims : Tryz.prog.cellsOf 85 = 1 := by kernel_rfl
theorem c_dfs : Tryz.prog.cellsOf 86 = 1 := by kernel_rfl
theorem c_nds : Tryz.prog.cellsOf 82 = 1 := by kernel_rfl
section
variable {H : Type} {enc : TypeId × Value → H} {w : World} {base : Nat} {spare : Nat → Bool} {held : Bool}
set_option maxRecDepth 100000 in
theorem open_nodesV {n : Nat} {v : Value} {y : DataW H × List MemPlace} (h : DataW.trod enc Tryz.prog w base spare held n 82 [v] = some y) : ∃ T : List Nd, Nodes w v T ∧ NodesDat T y.1 := by
  have hv : ∃ A len cap, v = .slice A len cap := by
    rcases open_slice Tryz.underlying82 h with ⟨h0, _⟩ | ⟨a, len', cap', m, n, D, Pl, hcs, _⟩
    · exact ⟨none, 0, 0, by simpa using h0⟩
    · exact ⟨_, _, _, by simpa using hcs⟩
  obtain ⟨A, len, cap, rfl⟩ := hv
  obtain ⟨T, h1, _, h3, _, h5⟩ := open_nodesN rfl (d := y.1) (p := y.2) ⟨n, h⟩
  exact ⟨T, h1, h3, h5⟩
/-- A list of structs that came in. -/
theorem open_rowsV {α : Type} [Inhabited α] {sz : Nat} {R : World → α → List Value → Prop} {D : α → DataW H → Prop} {t e : TypeId} (ht : Tryz.prog.underlying t = some (.slice e)) (hsz : Tryz.prog.cellsOf e = sz) (h0 : 0 < sz)
    (he : ∀ n cs y, DataW.trod enc Tryz.prog w base spare held n e cs = some y → ∃ x : α, R w x cs ∧ D x y.1) {n : Nat} {v : Value} {y : DataW H × List MemPlace} (h : DataW.trod enc Tryz.prog w base spare held n t [v] = some y) :
    ∃ l : List α, RowsV sz R w v l ∧ RowsDat D l y.1 := by
  rcases open_slice ht h with ⟨h1, h2⟩ | ⟨a, len, cap, m, n, Dt, Pl, hcs, hb, hl, hm, hmm, hx, hi⟩
  · simp only [List.cons.injEq, and_true] at h1
    subst h1
    exact ⟨[], .nil, .inl ⟨by rw [h2], rfl⟩⟩
  · simp only [List.cons.injEq, and_true] at hcs
    subst hcs
    have hlm : len ≤ m := by rw [hmm]; split <;> omega
    have hch : ∀ i, ∃ x : α, i < len → (∃ cs, R w x cs ∧ cs.length = sz ∧ ∀ j u, cs[j]? = some u → w.cell? (a.add (i * sz + j)) = some u) ∧ D x (Dt i) := by
      intro i
      by_cases him : i < len
      · obtain ⟨cs', hc, htr⟩ := hi i (by omega)
        obtain ⟨x, hR, hD⟩ := he _ _ _ htr
        obtain ⟨_, hcl, hat⟩ := World.cells?_some hc
        rw [hsz] at hcl hat
        refine ⟨x, fun _ => ⟨⟨cs', hR, hcl, fun j u hu => ?_⟩, hD⟩⟩
        have hj : j < sz := by have := (List.getElem?_eq_some_iff.1 hu).1; omega
        have := hat j hj
        rw [Go.Deep.add_add] at this
        rw [this]; exact hu
      · exact ⟨default, fun h => absurd h him⟩
    let X : Nat → α := fun i => (hch i).choose
    have hX : ∀ i, i < len → (∃ cs, R w (X i) cs ∧ cs.length = sz ∧ ∀ j u, cs[j]? = some u → w.cell? (a.add (i * sz + j)) = some u) ∧ D (X i) (Dt i) := fun i => (hch i).choose_spec
    have hlen : ((List.range len).map X).length = len := by simp
    refine ⟨(List.range len).map X, ⟨some a, cap, by rw [hlen], by rw [hlen]; exact hl, fun hp => ?_⟩, .inr ⟨_, _, by rw [hx], by simp, fun i x d h1 h2 => ?_⟩⟩
    · rw [hlen] at hp
      have hsp : a.spot = none := by
        obtain ⟨⟨cs, _, hcl, hat⟩, _⟩ := hX 0 hp
        have := hat 0 _ (List.getElem?_eq_getElem (by omega))
        simpa [Addr.add] using World.cell?_spot this
      obtain ⟨b, off, sp⟩ := a
      simp only at hsp
      subst hsp
      refine ⟨b, off, rfl, fun i x hx => ?_⟩
      have hil : i < len := by have := (List.getElem?_eq_some_iff.1 hx).1; simpa using this
      rw [List.getElem?_map, List.getElem?_range hil] at hx
      simp at hx
      subst hx
      obtain ⟨⟨cs, hR, hcl, hat⟩, _⟩ := hX i hil
      refine ⟨cs, hR, hcl, fun j u hu => ?_⟩
      have := hat j u hu
      have hadd : (⟨b, off, none⟩ : Addr).add (i * sz + j) = ⟨b, off + i * sz + j, none⟩ := by
        unfold Addr.add; split
        · rename_i h0
          have h1 : i * sz = 0 := by omega
          have h2 : j = 0 := by omega
          simp [h1, h2]
        · simp [Nat.add_assoc]
      rw [hadd] at this
      exact this
    · have hil : i < len := by have := (List.getElem?_eq_some_iff.1 h1).1; simpa using this
      rw [List.getElem?_map, List.getElem?_range hil] at h1 h2
      simp only [Option.map_some, Option.some.injEq] at h1 h2
      subst h1 h2
      exact (hX i hil).2
set_option maxRecDepth 100000 in
theorem open_place {n : Nat} {cs : List Value} {y : DataW H × List MemPlace} (h : DataW.trod enc Tryz.prog w base spare held n 79 cs = some y) : ∃ l c : Int, cs = [.int .i64 l, .int .i64 c] ∧ y.1 = .agg [.lit (.int .i64 l), .lit (.int .i64 c)] := by
  obtain ⟨zs, m, _, rfl, hl6, hyl6, hf6⟩ := DataW.trod_struct Tryz.underlying79 h
  rw [k5] at hl6
  match cs, hl6, zs, hyl6 with
  | [c0, c1], _, [x0, x1], _ =>
    have g0 := hf6 0 _ rfl
    have g1 := hf6 1 _ rfl
    simp [k2] at g0 g1
    obtain ⟨b0, f0, q0, _⟩ := DataW.trod_int Tryz.underlying3 g0
    obtain ⟨b1, f1, q1, _⟩ := DataW.trod_int Tryz.underlying3 g1
    simp at f0 f1
    subst f0 f1
    exact ⟨b0, b1, rfl, by subst q0 q1; rfl⟩
set_option maxRecDepth 100000 in
theorem open_im {n : Nat} {cs : List Value} {y : DataW H × List MemPlace} (h : DataW.trod enc Tryz.prog w base spare held n 90 cs = some y) : ∃ x : Im, ImR w x cs ∧ ImDat x y.1 := by
  obtain ⟨ys, n', _, rfl, hlen, hyl, hf⟩ := DataW.trod_struct Tryz.underlying90 h
  rw [c_im] at hlen
  match cs, hlen, ys, hyl with
  | [c0, c1, c2, c3, c4], _, [y0, y1, y2, y3], _ =>
    have h0 := hf 0 _ rfl
    have h1 := hf 1 _ rfl
    have h2 := hf 2 _ rfl
    have h3 := hf 3 _ rfl
    simp [k4, k5] at h0 h1 h2 h3
    obtain ⟨a0, e0, z0, _⟩ := DataW.trod_string Tryz.underlying9 h0
    obtain ⟨a1, e1, z1, _⟩ := DataW.trod_string Tryz.underlying9 h1
    obtain ⟨a2, e2, z2, _⟩ := DataW.trod_string Tryz.underlying9 h2
    obtain ⟨l, c, e3, z3⟩ := open_place h3
    simp at e0 e1 e2 e3
    obtain ⟨rfl, rfl⟩ := e3
    subst e0 e1 e2
    refine ⟨⟨a0, a1, a2, l, c⟩, rfl, ?_⟩
    subst z0 z1 z2
    show DataW.agg _ = _
    simp only [List.map_cons, List.map_nil, z3]
set_option maxRecDepth 100000 in
theorem open_df {n : Nat} {cs : List Value} {y : DataW H × List MemPlace} (h : DataW.trod enc Tryz.prog w base spare held n 84 cs = some y) : ∃ x : Df, DfR w x cs ∧ DfDat x y.1 := by
  obtain ⟨ys, n', _, rfl, hlen, hyl, hf⟩ := DataW.trod_struct Tryz.underlying84 h
  rw [c_df] at hlen
  match cs, hlen, ys, hyl with
  | [c0, c1, c2, c3, c4, c5], _, [y0, y1, y2, y3, y4], _ =>
    have h0 := hf 0 _ rfl
    have h1 := hf 1 _ rfl
    have h2 := hf 2 _ rfl
    have h3 := hf 3 _ rfl
    have h4 := hf 4 _ rfl
    simp [k4, k5, c_bool, c_nds] at h0 h1 h2 h3 h4
    obtain ⟨a0, e0, z0, _⟩ := DataW.trod_string Tryz.underlying9 h0
    obtain ⟨a1, e1, z1⟩ := DataW.trod_bool Tryz.underlying4 h1
    obtain ⟨a2, e2, z2, _⟩ := DataW.trod_string Tryz.underlying9 h2
    obtain ⟨T, hT, hTD⟩ := open_nodesV h3
    obtain ⟨l, c, e3, z3⟩ := open_place h4
    simp at e0 e1 e2 e3
    obtain ⟨rfl, rfl⟩ := e3
    subst e0 e1 e2
    refine ⟨⟨a0, a1, a2, T, l, c⟩, ⟨c3, rfl, hT⟩, y3.1, ?_, hTD⟩
    subst z0 z1 z2
    show DataW.agg _ = _
    simp only [List.map_cons, List.map_nil, z3]
instance : Inhabited Im := ⟨⟨⟨#[]⟩, ⟨#[]⟩, ⟨#[]⟩, 0, 0⟩⟩
instance : Inhabited Df := ⟨⟨⟨#[]⟩, false, ⟨#[]⟩, [], 0, 0⟩⟩
instance : Inhabited Md := ⟨⟨⟨#[]⟩, [], [], 0, 0⟩⟩
set_option maxRecDepth 100000 in
theorem open_md {n : Nat} {cs : List Value} {y : DataW H × List MemPlace} (h : DataW.trod enc Tryz.prog w base spare held n 88 cs = some y) : ∃ x : Md, MdR w x cs ∧ MdDat x y.1 := by
  obtain ⟨ys, n', _, rfl, hlen, hyl, hf⟩ := DataW.trod_struct Tryz.underlying88 h
  rw [c_md] at hlen
  match cs, hlen, ys, hyl with
  | [c0, c1, c2, c3, c4], _, [y0, y1, y2, y3], _ =>
    have h0 := hf 0 _ rfl
    have h1 := hf 1 _ rfl
    have h2 := hf 2 _ rfl
    have h3 := hf 3 _ rfl
    simp [k4, k5, c_ims, c_dfs] at h0 h1 h2 h3
    obtain ⟨a0, e0, z0, _⟩ := DataW.trod_string Tryz.underlying9 h0
    obtain ⟨I, hI, hID⟩ := open_rowsV (R := ImR) (D := ImDat) Tryz.underlying85 c_im (by decide) (fun n cs y h => open_im h) h1
    obtain ⟨L, hL, hLD⟩ := open_rowsV (R := DfR) (D := DfDat) Tryz.underlying86 c_df (by decide) (fun n cs y h => open_df h) h2
    obtain ⟨l, c, e3, z3⟩ := open_place h3
    simp at e0 e3
    obtain ⟨rfl, rfl⟩ := e3
    subst e0
    refine ⟨⟨a0, I, L, l, c⟩, ⟨c1, c2, rfl, hI, hL⟩, y1.1, y2.1, ?_, hID, hLD⟩
    subst z0
    show DataW.agg _ = _
    simp only [List.map_cons, List.map_nil, z3]
set_option maxRecDepth 100000 in
theorem open_mods {v : Value} {d : DataW H} {p : List MemPlace} {r : Reach} {b0 : Nat} (hv : Value.okWide Tryz.prog w r b0 22 v) (h : DataW.Trod enc Tryz.prog w base spare held 22 v d p) : ∃ L : List Md, Mods w v L ∧ RowsDat MdDat L d := by
  obtain ⟨A, len, cap, rfl⟩ := okWide_slice Tryz.underlying22 hv
  obtain ⟨fuel, hf⟩ := h
  have hf' : DataW.trod enc Tryz.prog w base spare held fuel 22 [.slice A len cap] = some (d, p) := by simpa [Value.cells] using hf
  exact open_rowsV (R := MdR) (D := MdDat) Tryz.underlying22 c_md (by decide) (fun n cs y h => open_md h) hf'
end
/-- It is no larger than what fits into a machine. -/
def Fit {H : Type} (t : TypeId) (d : DataW H) : Prop := ∀ n ∈ d.weights Tryz.prog t, n ≤ reachBytes
section
variable {H : Type} {t e : TypeId} {d : DataW H}
theorem fit_of {ts : List TypeId} {ds : List (DataW H)} (h : (DataW.weightsEach Tryz.prog ts ds).all (· ≤ reachBytes) = true) {j : Nat} (ht : ts[j]? = some t) (hd : ds[j]? = some d) : Fit t d := fun n hn => by
  have := List.all_eq_true.1 h _ (DataW.weights_mem_each ht hd n hn)
  simpa using this
set_option maxRecDepth 100000 in
theorem fit_slice {l more : List (DataW H)} (hu : Tryz.prog.underlying t = some (.slice e)) (h : Fit t (.slice l more)) : l.length * Tryz.prog.bytesOf e ≤ reachBytes ∧ ∀ d ∈ l, Fit e d := by
  constructor
  · have := h ((l.length + more.length) * Tryz.prog.bytesOf e) (by simp [DataW.weights, hu])
    exact Nat.le_trans (Nat.mul_le_mul_right _ (Nat.le_add_right _ _)) this
  · intro d hd n hn
    refine h n ?_
    simp only [DataW.weights, hu, List.mem_cons, List.mem_append]
    exact .inr (.inl (weightsAll_mem hd hn))
end
def NdSz (x : Nd) : Prop := x.s.size ≤ 140737488351232 ∧ x.t.size ≤ 140737488351232 ∧ x.u.size ≤ 140737488351232 ∧ x.n ≤ 9223372036854775807
def TrSz (T : List Nd) : Prop := T.length ≤ 1000000000000000 ∧ (∀ y ∈ T, NdSz y) ∧ ∀ y ∈ T, y.kids ≤ 9223372036854775807
def ImSz (x : Im) : Prop := x.src.size ≤ 140737488351232 ∧ x.name.size ≤ 140737488351232 ∧ x.t.size ≤ 140737488351232
def DfSz (x : Df) : Prop := x.name.size ≤ 140737488351232 ∧ x.t.size ≤ 140737488351232 ∧ TrSz x.tree
def MdSz (x : Md) : Prop := x.name.size ≤ 140737488351232 ∧ (x.imps.length ≤ 1000000000000000 ∧ ∀ i ∈ x.imps, ImSz i) ∧ (x.defs.length ≤ 1000000000000000 ∧ ∀ d ∈ x.defs, DfSz d)
section
variable {H : Type} {d : DataW H}
set_option maxRecDepth 100000 in
theorem fit_nodes {T : List Nd} (hd : NodesDat T d) (h : Fit 82 d) : TrSz T := by
  obtain ⟨hd, hk⟩ := hd
  rcases hd with ⟨rfl, rfl⟩ | ⟨more, rfl⟩
  · exact ⟨by simp, by simp, by simp⟩
  · obtain ⟨h1, h2⟩ := fit_slice Tryz.underlying82 h
    have hb : Tryz.prog.bytesOf 81 = 88 := by kernel_rfl
    have hr : reachBytes = 140737488351232 := rfl
    rw [hb, List.length_map] at h1
    refine ⟨by omega, fun y hy => ?_, fun y hy => (hk y hy).1⟩
    have h3 := h2 _ (List.mem_map_of_mem hy)
    obtain ⟨a, b, c⟩ := node_weights (H := H) y
    have q1 := h3 _ a
    have q2 := h3 _ b
    have q3 := h3 _ c
    rw [vsz] at q1 q2 q3
    exact ⟨q1, q2, q3, (hk y hy).2⟩
set_option maxRecDepth 100000 in
theorem fit_rows {α : Type} {t e : TypeId} {D : α → DataW H → Prop} {S : α → Prop} {l : List α} (hu : Tryz.prog.underlying t = some (.slice e)) (hb : 1 ≤ Tryz.prog.bytesOf e) (he : ∀ x d, D x d → Fit e d → S x) (hd : RowsDat D l d) (h : Fit t d) : l.length ≤ 1000000000000000 ∧ ∀ x ∈ l, S x := by
  rcases hd with ⟨rfl, rfl⟩ | ⟨ds, more, rfl, hl, hx⟩
  · exact ⟨by simp, by simp⟩
  · obtain ⟨h1, h2⟩ := fit_slice hu h
    have hr : reachBytes = 140737488351232 := rfl
    constructor
    · have := Nat.mul_le_mul_left ds.length hb
      omega
    · intro x hx'
      obtain ⟨i, hi⟩ := List.getElem?_of_mem hx'
      have hil := (List.getElem?_eq_some_iff.1 hi).1
      have hdi : ds[i]? = some ds[i] := List.getElem?_eq_getElem (by omega)
      exact he x _ (hx i x _ hi hdi) (h2 _ (List.mem_of_getElem? hdi))
set_option maxRecDepth 100000 in
theorem fit_im {x : Im} (hd : ImDat x d) (h : Fit 90 d) : ImSz x := by
  unfold ImDat at hd
  subst hd
  have key : ∀ s : ByteArray, s.data.toList.length ∈ (DataW.agg [.lit (.string x.src.data.toList), .lit (.string x.name.data.toList), .lit (.string x.t.data.toList), .agg [.lit (.int .i64 x.line), .lit (.int .i64 x.col)]] : DataW H).weights Tryz.prog 90 → s.size ≤ 140737488351232 := fun s hs => by
    have := h _ hs
    rw [vsz] at this
    exact this
  exact ⟨key x.src (by simp [DataW.weights, Tryz.underlying90, DataW.weightsEach]), key x.name (by simp [DataW.weights, Tryz.underlying90, DataW.weightsEach]), key x.t (by simp [DataW.weights, Tryz.underlying90, DataW.weightsEach])⟩
set_option maxRecDepth 100000 in
theorem fit_df {x : Df} (hd : DfDat x d) (h : Fit 84 d) : DfSz x := by
  obtain ⟨dT, rfl, hT⟩ := hd
  have key : ∀ s : ByteArray, s.data.toList.length ∈ (DataW.agg [.lit (.string x.name.data.toList), .lit (.bool x.out), .lit (.string x.t.data.toList), dT, .agg [.lit (.int .i64 x.line), .lit (.int .i64 x.col)]] : DataW H).weights Tryz.prog 84 → s.size ≤ 140737488351232 := fun s hs => by
    have := h _ hs
    rw [vsz] at this
    exact this
  refine ⟨key x.name (by simp [DataW.weights, Tryz.underlying84, DataW.weightsEach]), key x.t (by simp [DataW.weights, Tryz.underlying84, DataW.weightsEach]), fit_nodes hT fun n hn => h n ?_⟩
  simp only [DataW.weights, Tryz.underlying84]
  exact DataW.weights_mem_each (j := 3) rfl rfl n hn
set_option maxRecDepth 100000 in
theorem fit_md {x : Md} (hd : MdDat x d) (h : Fit 88 d) : MdSz x := by
  obtain ⟨dI, dD, rfl, hI, hD⟩ := hd
  have hs : x.name.data.toList.length ≤ reachBytes := h _ (by simp [DataW.weights, Tryz.underlying88, DataW.weightsEach])
  rw [vsz] at hs
  refine ⟨hs, fit_rows Tryz.underlying85 (by decide +kernel) (fun x d => fit_im) hI fun n hn => h n ?_, fit_rows Tryz.underlying86 (by decide +kernel) (fun x d => fit_df) hD fun n hn => h n ?_⟩
  · simp only [DataW.weights, Tryz.underlying88]
    exact DataW.weights_mem_each (j := 1) rfl rfl n hn
  · simp only [DataW.weights, Tryz.underlying88]
    exact DataW.weights_mem_each (j := 2) rfl rfl n hn
set_option maxRecDepth 100000 in
theorem fit_mods {L : List Md} (hd : RowsDat MdDat L d) (h : Fit 22 d) : L.length ≤ 1000000000000000 ∧ ∀ x ∈ L, MdSz x := fit_rows Tryz.underlying22 (by decide +kernel) (fun x d => fit_md) hd h
end
end Go.Proofs.YtidholghbjljaaaGreatDoor

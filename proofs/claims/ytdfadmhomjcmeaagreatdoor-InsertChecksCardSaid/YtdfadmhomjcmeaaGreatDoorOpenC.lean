
/- Walks of what statements lean on: sizes, marks. -/
import Derived.Test.YtdfadmhomjcmeaaGreatDoorR4W
import Derived.OwnWalk
import Derived.Deep.Slices
import Derived.ChangeSame
import Derived.SizedLaws
import Derived.OpenShut
import Derived.Test.YtdfadmhomjcmeaaGreatDoorLb
import Derived.SliceStrings
import Derived.Lib.SmallJoins
namespace Go.Proofs.YtdfadmhomjcmeaaGreatDoor
set_option linter.unusedSimpArgs false
set_option linter.unusedVariables false
open Go.RowKit Culp

/-- The marks behind a list. -/
def markN (i : Nat) : Nd := ⟨0, 9437184 + (i : Int) + 1, 0, ⟨#[]⟩, ⟨#[]⟩, ⟨#[]⟩, 0, 0⟩
def marks (n : Nat) : List Nd := (List.range 64).map fun k => markN (n + k)
end Go.Proofs.YtdfadmhomjcmeaaGreatDoor

/- Arguments: a list of nodes that came in, as its cells. -/
namespace Go.Proofs.YtdfadmhomjcmeaaGreatDoor
set_option linter.unusedSimpArgs false
set_option linter.unusedVariables false
open Go.RowKit Culp Go.ChangeShapes Go.WideShapes Go.Deep

/-- A node's datum. -/
def nodeD {H : Type} (x : Nd) : DataW H := .agg [.lit (.int .i8 x.kind), .lit (.int .i64 x.kids), .lit (.int .i64 x.n), .lit (.string x.s.data.toList), .lit (.string x.t.data.toList), .lit (.string x.u.data.toList), .agg [.lit (.int .i64 x.line), .lit (.int .i64 x.col)]]
theorem k1 : Tryz.prog.cellsOf 34 = 1 := by kernel_rfl
theorem k2 : Tryz.prog.cellsOf 3 = 1 := by kernel_rfl
theorem k3 : Tryz.prog.cellsOf 2 = 1 := by kernel_rfl
theorem k4 : Tryz.prog.cellsOf 9 = 1 := by kernel_rfl
theorem k5 : Tryz.prog.cellsOf 36 = 2 := by kernel_rfl
theorem k6 : Tryz.prog.cellsOf 38 = 8 := by kernel_rfl

section
variable {H : Type} {enc : TypeId × Value → H} {w : World} {base : Nat} {spare : Nat → Bool} {held : Bool}
set_option maxRecDepth 100000 in
theorem open_node {n : Nat} {cs : List Value} {y : DataW H × List MemPlace} (h : DataW.trod enc Tryz.prog w base spare held n 38 cs = some y) : ∃ x : Nd, cs = x.cells ∧ y.1 = nodeD x ∧ x.kids ≤ 9223372036854775807 := by
  obtain ⟨ys, n', _, rfl, hlen, hyl, hf⟩ := DataW.trod_struct Tryz.underlying38 h
  rw [k6] at hlen
  match cs, hlen, ys, hyl with
  | [c0, c1, c2, c3, c4, c5, c6, c7], _, [y0, y1, y2, y3, y4, y5, y6], _ =>
    have h0 := hf 0 _ rfl
    have h1 := hf 1 _ rfl
    have h2 := hf 2 _ rfl
    have h3 := hf 3 _ rfl
    have h4 := hf 4 _ rfl
    have h5 := hf 5 _ rfl
    have h6 := hf 6 _ rfl
    simp [k1, k2, k3, k4, k5] at h0 h1 h2 h3 h4 h5 h6
    obtain ⟨a0, e0, z0, _⟩ := DataW.trod_int Tryz.underlying34 h0
    obtain ⟨a1, e1, z1, w1⟩ := DataW.trod_int Tryz.underlying3 h1
    obtain ⟨a2, e2, z2, _⟩ := DataW.trod_int Tryz.underlying2 h2
    obtain ⟨a3, e3, z3, _⟩ := DataW.trod_string Tryz.underlying9 h3
    obtain ⟨a4, e4, z4, _⟩ := DataW.trod_string Tryz.underlying9 h4
    obtain ⟨a5, e5, z5, _⟩ := DataW.trod_string Tryz.underlying9 h5
    obtain ⟨zs, m, _, z6, hl6, hyl6, hf6⟩ := DataW.trod_struct Tryz.underlying36 h6
    match zs, hyl6 with
    | [x0, x1], _ =>
      have g0 := hf6 0 _ rfl
      have g1 := hf6 1 _ rfl
      simp [k2] at g0 g1
      obtain ⟨b0, f0, q0, _⟩ := DataW.trod_int Tryz.underlying3 g0
      obtain ⟨b1, f1, q1, _⟩ := DataW.trod_int Tryz.underlying3 g1
      simp at e0 e1 e2 e3 e4 e5 f0 f1
      subst e0 e1 e2 e3 e4 e5 f0 f1
      refine ⟨⟨a0, a1, a2, a3, a4, a5, b0, b1⟩, rfl, ?_, (bounds_i64 w1).2⟩
      subst z0 z1 z2 z3 z4 z5 q0 q1 z6
      rfl
set_option maxRecDepth 100000 in
/-- A list of nodes that came in. -/
theorem open_nodes0 {A : Option Addr} {len cap : Nat} {v : Value} (hv : v = .slice A len cap) {d : DataW H} {p : List MemPlace} (h : DataW.Trod enc Tryz.prog w base spare held 22 v d p) :
    ∃ T : List Nd, Nodes w v T ∧ T.length ≤ maxLen ∧ ((d = .nil ∧ T = []) ∨ ∃ more : List (DataW H), d = .slice (T.map nodeD) more) ∧ (0 < T.length → ∃ a, v = .slice (some a) T.length (match v with | .slice _ _ c => c | _ => 0) ∧ base ≤ a.block) ∧ ∀ x ∈ T, x.kids ≤ 9223372036854775807 := by
  subst hv
  obtain ⟨fuel, hf⟩ := h
  rcases open_slice Tryz.underlying22 hf with ⟨h0, h1⟩ | ⟨a, len', cap', m, n, D, Pl, hcs, hb, hl, hm, hmm, hx, hi⟩
  · simp [Value.cells] at h0
    obtain ⟨rfl, rfl, rfl⟩ := h0
    simp only [Prod.mk.injEq] at h1
    exact ⟨[], ⟨none, 0, rfl, by simp, fun h => by simp at h⟩, by unfold maxLen; simp, .inl ⟨h1.1, rfl⟩, (fun h => by simp at h), by simp⟩
  · simp [Value.cells] at hcs
    obtain ⟨rfl, rfl, rfl⟩ := hcs
    have hlm : len ≤ m := by rw [hmm]; split <;> omega
    have hch : ∀ i, ∃ x : Nd, i < m → (∀ j u, x.cells[j]? = some u → w.cell? (a.add (i * 8 + j)) = some u) ∧ D i = nodeD x ∧ x.kids ≤ 9223372036854775807 := by
      intro i
      by_cases him : i < m
      · obtain ⟨cs', hc, ht⟩ := hi i him
        obtain ⟨x, rfl, hD⟩ := open_node ht
        refine ⟨x, fun _ => ⟨fun j u hu => ?_, hD⟩⟩
        obtain ⟨_, hcl, hat⟩ := World.cells?_some hc
        have hj : j < 8 := by have := (List.getElem?_eq_some_iff.1 hu).1; simpa [Nd.cells] using this
        have := hat j (by rw [k6]; exact hj)
        rw [k6, Go.Deep.add_add] at this
        rw [this]; exact hu
      · exact ⟨⟨0, 0, 0, ⟨#[]⟩, ⟨#[]⟩, ⟨#[]⟩, 0, 0⟩, fun h => absurd h him⟩
    let X : Nat → Nd := fun i => (hch i).choose
    have hX : ∀ i, i < m → (∀ j u, (X i).cells[j]? = some u → w.cell? (a.add (i * 8 + j)) = some u) ∧ D i = nodeD (X i) ∧ (X i).kids ≤ 9223372036854775807 := fun i => (hch i).choose_spec
    have hlen : ((List.range len).map X).length = len := by simp
    refine ⟨(List.range len).map X, ⟨some a, cap, by rw [hlen], by rw [hlen]; exact hl, fun h0 => ?_⟩, by rw [hlen]; omega, .inr ?_, (fun _ => ⟨a, by rw [hlen], hb⟩), ?_⟩
    · rw [hlen] at h0
      have hsp : a.spot = none := by
        have := (hX 0 (by omega)).1 0 _ rfl
        simpa [Addr.add] using World.cell?_spot this
      obtain ⟨b, off, sp⟩ := a
      simp only at hsp
      subst hsp
      refine ⟨b, off, rfl, fun i x hx j u hu => ?_⟩
      have hil : i < len := by have := (List.getElem?_eq_some_iff.1 hx).1; simpa using this
      rw [List.getElem?_map, List.getElem?_range hil] at hx
      simp at hx
      subst hx
      have := (hX i (by omega)).1 j u hu
      have hadd : (⟨b, off, none⟩ : Addr).add (i * 8 + j) = ⟨b, off + i * 8 + j, none⟩ := by
        unfold Addr.add; split
        · rename_i h0; simp [show i = 0 by omega, show j = 0 by omega]
        · simp [Nat.add_assoc]
      rw [hadd] at this
      exact this
    · simp only [Prod.mk.injEq] at hx
      refine ⟨(List.range (m - len)).map fun j => D (len + j), hx.1.trans ?_⟩
      congr 1
      rw [List.map_map]
      refine List.map_congr_left fun i hi => ?_
      exact (hX i (by have := List.mem_range.1 hi; omega)).2.1
    · intro x hx2
      obtain ⟨i, hi, rfl⟩ := List.mem_map.1 hx2
      exact (hX i (by have := List.mem_range.1 hi; omega)).2.2
set_option maxRecDepth 100000 in
theorem open_nodes {r : Reach} {b0 : Nat} {v : Value} {d : DataW H} {p : List MemPlace} (hv : Value.okWide Tryz.prog w r b0 22 v) (h : DataW.Trod enc Tryz.prog w base spare held 22 v d p) :
    ∃ T : List Nd, Nodes w v T ∧ T.length ≤ maxLen ∧ ((d = .nil ∧ T = []) ∨ ∃ more : List (DataW H), d = .slice (T.map nodeD) more) ∧ (0 < T.length → ∃ a, v = .slice (some a) T.length (match v with | .slice _ _ c => c | _ => 0) ∧ base ≤ a.block) ∧ ∀ x ∈ T, x.kids ≤ 9223372036854775807 := by
  obtain ⟨A, len, cap, rfl⟩ := okWide_slice Tryz.underlying22 hv
  exact open_nodes0 rfl h
end

theorem weightsAll_mem {H : Type} {P : Program} {t : TypeId} {d : DataW H} {n : Nat} : ∀ {l : List (DataW H)}, d ∈ l → n ∈ d.weights P t → n ∈ DataW.weightsAll P t l
  | [], h, _ => by cases h
  | x :: l, h, hn => by
    simp only [DataW.weightsAll, List.mem_append]
    rcases List.mem_cons.1 h with rfl | h
    · exact .inl hn
    · exact .inr (weightsAll_mem h hn)
theorem node_weights {H : Type} (x : Nd) : x.s.data.toList.length ∈ (nodeD x : DataW H).weights Tryz.prog 38 ∧ x.t.data.toList.length ∈ (nodeD x : DataW H).weights Tryz.prog 38 ∧ x.u.data.toList.length ∈ (nodeD x : DataW H).weights Tryz.prog 38 := by
  simp [nodeD, DataW.weights, Tryz.underlying38, DataW.weightsEach]
theorem sized_nodes2 {H : Type} {ts : List TypeId} {ds : List (DataW H)} (h : (DataW.weightsEach Tryz.prog ts ds).all (· ≤ reachBytes) = true) {j : Nat} {T : List Nd} {more : List (DataW H)} (ht : ts[j]? = some 22) (hd : ds[j]? = some (.slice (T.map nodeD) more)) :
    T.length ≤ 1000000000000000 ∧ ∀ x ∈ T, x.s.size ≤ 140737488351232 ∧ x.t.size ≤ 140737488351232 ∧ x.u.size ≤ 140737488351232 := by
  have hr : reachBytes = 140737488351232 := rfl
  constructor
  · have := sized_slice h ht hd Tryz.underlying22
    have hb : Tryz.prog.bytesOf 38 = 88 := by kernel_rfl
    rw [hb] at this
    simp at this
    omega
  · intro x hx
    have key : ∀ n, n ∈ (nodeD x : DataW H).weights Tryz.prog 38 → n ≤ reachBytes := fun n hn => by
      have hm : n ∈ (DataW.slice (T.map nodeD) more : DataW H).weights Tryz.prog 22 := by
        simp only [DataW.weights, Tryz.underlying22, List.mem_cons, List.mem_append]
        exact .inr (.inl (weightsAll_mem (List.mem_map_of_mem hx) hn))
      have := List.all_eq_true.1 h _ (DataW.weights_mem_each ht hd n hm)
      simpa using this
    obtain ⟨a, b, c⟩ := node_weights (H := H) x
    have h1 := key _ a
    have h2 := key _ b
    have h3 := key _ c
    simp at h1 h2 h3
    exact ⟨by omega, by omega, by omega⟩
end Go.Proofs.YtdfadmhomjcmeaaGreatDoor

/- Arguments: a tree with an environment that came in. -/
namespace Go.Proofs.YtdfadmhomjcmeaaGreatDoor
set_option linter.unusedSimpArgs false
set_option linter.unusedVariables false
open Go.RowKit Culp Go.ChangeShapes Go.WideShapes Go.Deep
section
variable {H : Type} {enc : TypeId × Value → H} {w : World} {base : Nat} {spare : Nat → Bool} {held : Bool} {n : Nat} {v : Value} {y : DataW H × List MemPlace}
end
section
variable {H : Type} {enc : TypeId × Value → H} {w : World} {base : Nat} {spare : Nat → Bool} {held : Bool}
end
end Go.Proofs.YtdfadmhomjcmeaaGreatDoor

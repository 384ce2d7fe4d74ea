
/- Memory: lists of nodes, environments; what a call may change beside what it makes. No program in sight. -/
import Derived.Test.YtdobaililmkkcaaGreatDoorMem
import Derived.Test.YtdobaililmkkcaaGreatDoorKeep
import Derived.Test.YtdobaililmkkcaaGreatDoorCore
namespace Culp
set_option linter.unusedSimpArgs false
set_option linter.unusedVariables false
open Go Go.RowKit

/-- A node's cells. -/
def Nd.cells (x : Nd) : List Value := [.int .i8 x.kind, .int .i64 x.kids, .int .i64 x.n, .string x.s, .string x.t, .string x.u, .int .i64 x.line, .int .i64 x.col]
def Nd.val (x : Nd) : Value := .agg x.cells.toArray

/-- Nodes lie from a place of a block on. -/
def NodesAt (w : World) (b off : Nat) (l : List Nd) : Prop := ∀ i x, l[i]? = some x → ∀ j u, x.cells[j]? = some u → w.cell? ⟨b, off + i * 8 + j, none⟩ = some u
/-- A slice that reads as nodes. -/
def Nodes (w : World) (v : Value) (l : List Nd) : Prop := ∃ A c, v = .slice A l.length c ∧ l.length ≤ c ∧ (0 < l.length → ∃ b off, A = some ⟨b, off, none⟩ ∧ NodesAt w b off l)
/-- A slice of types' texts. -/
def Tys (w : World) (v : Value) (l : List Ty) : Prop := (l = [] ∧ v = .slice none 0 0) ∨ ∃ g c, v = .slice (some ⟨g, 0, none⟩) l.length c ∧ ∀ i (h : i < l.length), w.cell? ⟨g, i, none⟩ = some (.string (l[i]).str)

/-- A block of three cells. -/
def Trio (g : Nat) (t : TypeId) (x y z : Value) (w : World) : Prop := w.heap[g]? = some (.cells #[x, y, z] t (0, 0))
section
variable {g : Nat} {t : TypeId} {x y z : Value} {w w' : World}
theorem Trio.lt (h : Trio g t x y z w) : g < w.heap.size := by
  rcases Nat.lt_or_ge g w.heap.size with hlt | hge
  · exact hlt
  · unfold Trio at h; rw [Array.getElem?_eq_none hge] at h; cases h
theorem Trio.c0 (h : Trio g t x y z w) : w.cell? ⟨g, 0, none⟩ = some x := by unfold Trio at h; simp [World.cell?, h]
theorem Trio.c1 (h : Trio g t x y z w) : w.cell? ⟨g, 1, none⟩ = some y := by unfold Trio at h; simp [World.cell?, h]
theorem Trio.c2 (h : Trio g t x y z w) : w.cell? ⟨g, 2, none⟩ = some z := by unfold Trio at h; simp [World.cell?, h]
theorem Trio.free (h : Trio g t x y z w) (i : Nat) : w.frozen? ⟨g, i, none⟩ = false := by unfold Trio at h; simp [World.frozen?, h]
theorem Trio.later (h : Trio g t x y z w) (hb : Below w.heap.size w w') : Trio g t x y z w' := (hb.block g h.lt).trans h
theorem Trio.set1 (h : Trio g t x y z w) (u : Value) : Trio g t x u z (w.setCell ⟨g, 1, none⟩ u) := by
  unfold Trio at h ⊢
  simp [World.setCell, Array.getElem?_modify, h]
/-- Whatever else is read lies elsewhere. -/
theorem Trio.ne_ (h : Trio g t x y z w) {b i : Nat} {u : Value} (hu : w.cell? ⟨b, i, none⟩ = some u) (h0 : u ≠ x) (h1 : u ≠ y) (h2 : u ≠ z) : b ≠ g := by
  rintro rfl
  unfold Trio at h
  simp only [World.cell?, h] at hu
  match i, hu with
  | 0, hu => simp at hu; exact h0 hu.symm
  | 1, hu => simp at hu; exact h1 hu.symm
  | 2, hu => simp at hu; exact h2 hu.symm
  | i + 3, hu => simp at hu
end

/-- What is read beside a checker's block, whose cells are a slice, an int and a map: numbers of eight bits and texts tell that they lie elsewhere. -/
theorem Tys.keep {g : Nat} {t : TypeId} {x z : Value} {p : Int} {w w' : World} {v : Value} {l : List Ty} (h : Tys w v l) (hk : Keep g w w') (ht : Trio g t x (.int .i64 p) z w) (hx : ∀ s, x ≠ .string s) (hz : ∀ s, z ≠ .string s) : Tys w' v l := by
  rcases h with h | ⟨b, c, hv, hc⟩
  · exact .inl h
  · exact .inr ⟨b, c, hv, fun i hi => hk.cell (hc i hi) (ht.ne_ (hc i hi) (fun e => hx _ e.symm) (by simp) (fun e => hz _ e.symm))⟩
theorem Tys.later {w w' : World} {v : Value} {l : List Ty} (h : Tys w v l) (hb : Below w.heap.size w w') : Tys w' v l := by
  rcases h with h | ⟨b, c, hv, hc⟩
  · exact .inl h
  · exact .inr ⟨b, c, hv, fun i hi => cell_later hb (hc i hi)⟩
/-- A row of the call's own reads so. -/
theorem Tys.own {w : World} {base : Nat} {e : TypeId} {v : Value} {n : Nat} {l : List Ty} (h : w.ownsRow base e 1 v n (l.map fun t => .string t.str)) : Tys w v l := by
  have hl : n = l.length := by have := h.1; simp at this; omega
  subst hl
  rcases h.2 with ⟨rfl, h0⟩ | ⟨g, cap, cur, rfl, hb, hh, hc, _, hsz, htk⟩
  · exact .inl ⟨List.eq_nil_of_length_eq_zero h0, rfl⟩
  · refine .inr ⟨g, cap, rfl, fun i hi => ?_⟩
    rw [h.cellAt i (by omega)]
    simp [hi]
theorem NodesAt.later {w w' : World} {b off : Nat} {l : List Nd} (h : NodesAt w b off l) (hb : Below w.heap.size w w') : NodesAt w' b off l := fun i x hx j u hu => cell_later hb (h i x hx j u hu)
theorem Nodes.later {w w' : World} {v : Value} {l : List Nd} (h : Nodes w v l) (hb : Below w.heap.size w w') : Nodes w' v l := by
  obtain ⟨A, c, hv, hl, hh⟩ := h
  refine ⟨A, c, hv, hl, fun h0 => ?_⟩
  obtain ⟨b, off, hA, hc⟩ := hh h0
  exact ⟨b, off, hA, hc.later hb⟩
theorem Nodes.keep {g : Nat} {t : TypeId} {x z : Value} {p : Int} {w w' : World} {v : Value} {l : List Nd} (h : Nodes w v l) (hk : Keep g w w') (ht : Trio g t x (.int .i64 p) z w)
    (hx : ∀ k n, x ≠ .int k n) (hz : ∀ k n, z ≠ .int k n) : Nodes w' v l := by
  obtain ⟨A, c, hv, hl, hh⟩ := h
  refine ⟨A, c, hv, hl, fun h0 => ?_⟩
  obtain ⟨b, off, hA, hc⟩ := hh h0
  refine ⟨b, off, hA, fun i y hy j u hu => hk.cell (hc i y hy j u hu) ?_⟩
  have h8 := hc i y hy 0 _ rfl
  exact ht.ne_ h8 (fun e => hx _ _ e.symm) (by simp) (fun e => hz _ _ e.symm)
/-- The cells of the node at a place. -/
theorem NodesAt.at_ {w : World} {b off : Nat} {l : List Nd} (h : NodesAt w b off l) {i : Nat} {x : Nd} (hx : l[i]? = some x) :
    w.cell? ⟨b, off + i * 8, none⟩ = some (.int .i8 x.kind) ∧ w.cell? ⟨b, off + i * 8 + 1, none⟩ = some (.int .i64 x.kids) ∧ w.cell? ⟨b, off + i * 8 + 2, none⟩ = some (.int .i64 x.n) ∧ w.cell? ⟨b, off + i * 8 + 3, none⟩ = some (.string x.s) ∧
    w.cell? ⟨b, off + i * 8 + 4, none⟩ = some (.string x.t) ∧ w.cell? ⟨b, off + i * 8 + 5, none⟩ = some (.string x.u) ∧ w.cell? ⟨b, off + i * 8 + 6, none⟩ = some (.int .i64 x.line) ∧ w.cell? ⟨b, off + i * 8 + 7, none⟩ = some (.int .i64 x.col) :=
  ⟨h i x hx 0 _ rfl, h i x hx 1 _ rfl, h i x hx 2 _ rfl, h i x hx 3 _ rfl, h i x hx 4 _ rfl, h i x hx 5 _ rfl, h i x hx 6 _ rfl, h i x hx 7 _ rfl⟩
end Culp

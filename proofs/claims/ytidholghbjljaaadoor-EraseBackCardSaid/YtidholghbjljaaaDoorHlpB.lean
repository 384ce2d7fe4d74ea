
/- Walks of what statements lean on: lists of nodes that are made. -/
import Derived.Test.YtidholghbjljaaaDoorOpen
import Derived.Test.YtidholghbjljaaaDoorTrW
namespace Go.Proofs.YtidholghbjljaaaDoor
set_option linter.unusedSimpArgs false
set_option linter.unusedVariables false
open Go.RowKit Culp

/-- A row of nodes that is being filled. -/
def RowAt (R N : Nat) (w : World) : Prop := ∃ cs : Array Value, w.heap[R]? = some (.cells cs 46 (0, 0)) ∧ cs.size = N * 8
theorem RowAt.cell {R N : Nat} {w : World} (h : RowAt R N w) {i : Nat} (hi : i < N * 8) : ∃ v, w.cell? ⟨R, i, none⟩ = some v := by
  obtain ⟨cs, h1, h2⟩ := h
  exact ⟨cs[i]'(by omega), by simp [World.cell?, h1, show i < cs.size by omega]⟩
theorem RowAt.free {R N : Nat} {w : World} (h : RowAt R N w) (i : Nat) : w.frozen? ⟨R, i, none⟩ = false := by
  obtain ⟨cs, h1, _⟩ := h
  simp [World.frozen?, h1]

theorem RowAt.set {R N : Nat} {w : World} (h : RowAt R N w) (i : Nat) (u : Value) : RowAt R N (w.setCell ⟨R, i, none⟩ u) := by
  obtain ⟨cs, h1, h2⟩ := h
  exact ⟨cs.setIfInBounds i u, by simp [World.setCell, Array.getElem?_modify, h1], by simpa using h2⟩
/-- A node is laid. -/
def putNode (w : World) (R k : Nat) (x : Nd) : World :=
  ((((((((w.setCell ⟨R, k * 8, none⟩ (.int .i8 x.kind)).setCell ⟨R, k * 8 + 1, none⟩ (.int .i64 x.kids)).setCell ⟨R, k * 8 + 2, none⟩ (.int .i64 x.n)).setCell ⟨R, k * 8 + 3, none⟩ (.string x.s)).setCell ⟨R, k * 8 + 4, none⟩ (.string x.t)).setCell ⟨R, k * 8 + 5, none⟩ (.string x.u)).setCell ⟨R, k * 8 + 6, none⟩ (.int .i64 x.line)).setCell ⟨R, k * 8 + 7, none⟩ (.int .i64 x.col))
theorem RowAt.put {R N : Nat} {w : World} (h : RowAt R N w) (k : Nat) (x : Nd) : RowAt R N (putNode w R k x) :=
  (((((((h.set _ _).set _ _).set _ _).set _ _).set _ _).set _ _).set _ _).set _ _
theorem set_other {w : World} {R i j : Nat} {u v : Value} (h : w.cell? ⟨R, i, none⟩ = some v) (hij : i ≠ j) : (w.setCell ⟨R, j, none⟩ u).cell? ⟨R, i, none⟩ = some v := by
  rw [World.cell?_setCell_other]
  · exact h
  all_goals simp [hij]
theorem put_old {w : World} {R k i : Nat} {x : Nd} {v : Value} (h : w.cell? ⟨R, i, none⟩ = some v) (hi : i < k * 8) : (putNode w R k x).cell? ⟨R, i, none⟩ = some v := by
  unfold putNode
  exact set_other (set_other (set_other (set_other (set_other (set_other (set_other (set_other h (by omega)) (by omega)) (by omega)) (by omega)) (by omega)) (by omega)) (by omega)) (by omega)
theorem RowAt.same {R N : Nat} {w : World} (h : RowAt R N w) {i : Nat} (hi : i < N * 8) (u : Value) : (w.setCell ⟨R, i, none⟩ u).cell? ⟨R, i, none⟩ = some u := by
  obtain ⟨v, hv⟩ := h.cell hi
  exact World.cell?_setCell_same _ _ _ hv
theorem put_new {w : World} {R N k : Nat} {x : Nd} (h : RowAt R N w) (hk : k < N) : ∀ j u, x.cells[j]? = some u → (putNode w R k x).cell? ⟨R, k * 8 + j, none⟩ = some u := by
  intro j u hu
  unfold putNode
  have s0 := h.set (k * 8) (.int .i8 x.kind)
  have s1 := s0.set (k * 8 + 1) (.int .i64 x.kids)
  have s2 := s1.set (k * 8 + 2) (.int .i64 x.n)
  have s3 := s2.set (k * 8 + 3) (.string x.s)
  have s4 := s3.set (k * 8 + 4) (.string x.t)
  have s5 := s4.set (k * 8 + 5) (.string x.u)
  have s6 := s5.set (k * 8 + 6) (.int .i64 x.line)
  match j, hu with
  | 0, hu => cases hu; exact set_other (set_other (set_other (set_other (set_other (set_other (set_other (h.same (by omega) _) (by omega)) (by omega)) (by omega)) (by omega)) (by omega)) (by omega)) (by omega)
  | 1, hu => cases hu; exact set_other (set_other (set_other (set_other (set_other (set_other (s0.same (by omega) _) (by omega)) (by omega)) (by omega)) (by omega)) (by omega)) (by omega)
  | 2, hu => cases hu; exact set_other (set_other (set_other (set_other (set_other (s1.same (by omega) _) (by omega)) (by omega)) (by omega)) (by omega)) (by omega)
  | 3, hu => cases hu; exact set_other (set_other (set_other (set_other (s2.same (by omega) _) (by omega)) (by omega)) (by omega)) (by omega)
  | 4, hu => cases hu; exact set_other (set_other (set_other (s3.same (by omega) _) (by omega)) (by omega)) (by omega)
  | 5, hu => cases hu; exact set_other (set_other (s4.same (by omega) _) (by omega)) (by omega)
  | 6, hu => cases hu; exact set_other (s5.same (by omega) _) (by omega)
  | 7, hu => cases hu; exact s6.same (by omega) _
  | j + 8, hu => simp [Nd.cells] at hu
theorem NodesAt.put {w : World} {R N k : Nat} {x : Nd} {L : List Nd} (hr : RowAt R N w) (hk : k < N) (h : NodesAt w R 0 (L.take k)) (hx : L[k]? = some x) : NodesAt (putNode w R k x) R 0 (L.take (k + 1)) := by
  intro i y hy j u hu
  rw [Nat.zero_add]
  have hj : j < 8 := by have := (List.getElem?_eq_some_iff.1 hu).1; simpa [Nd.cells] using this
  rw [List.getElem?_take] at hy
  split at hy
  · rename_i hik
    rcases Nat.lt_or_ge i k with hlt | hge
    · have hy' : (L.take k)[i]? = some y := by rw [List.getElem?_take, if_pos hlt]; exact hy
      have := h i y hy' j u hu
      rw [Nat.zero_add] at this
      exact put_old this (by omega)
    · obtain rfl : i = k := by omega
      rw [hx] at hy
      cases hy
      exact put_new hr hk j u hu
  · cases hy
theorem below_put {B R k : Nat} {W w : World} {x : Nd} (h : Below B W w) (hR : B ≤ R) : Below B W (putNode w R k x) :=
  (((((((h.setCell hR _).setCell hR _).setCell hR _).setCell hR _).setCell hR _).setCell hR _).setCell hR _).setCell hR _

end Go.Proofs.YtidholghbjljaaaDoor

/- The walks of the statements TreeArities and TreeChecks. -/
namespace Go.Proofs.YtidholghbjljaaaDoor
set_option linter.unusedSimpArgs false
set_option linter.unusedVariables false
open Go.RowKit Go.Maps Culp

theorem wide_nodes {T : List Nd} {g : Nat} {w : World} (h : NodesAt w g 0 (T ++ marks T.length)) : Nodes w (.slice (some ⟨g, 0, none⟩) T.length (T.length + 64 : Nat)) T :=
  ⟨_, _, rfl, by omega, fun _ => ⟨g, 0, rfl, fun i x hx j u hu => h i x (by rw [List.getElem?_append_left (List.getElem?_eq_some_iff.1 hx).1]; exact hx) j u hu⟩⟩
theorem arV_is (k : Int) : arV k = .tuple #[.int .i64 (max (Tr.arit k) 0), .bool (decide (0 ≤ Tr.arit k))] := by
  unfold arV
  split
  · rename_i h
    rw [Int.max_eq_left h, decide_eq_true h]
  · rename_i h
    rw [Int.max_eq_right (by omega), decide_eq_false h]
end Go.Proofs.YtidholghbjljaaaDoor


/- Walks of what statements lean on: lists of nodes that a statement makes. -/
import Derived.Test.YtdobaililmkkcaaDoorHlpB
import Derived.OwnWalk
namespace Go.Proofs.YtdobaililmkkcaaDoor
set_option linter.unusedSimpArgs false
set_option linter.unusedVariables false
open Go.RowKit Culp

/-- The cells of a list of nodes, one behind the other. -/
def flat (L : List Nd) : List Value := L.flatMap Nd.cells
theorem cells_len (x : Nd) : x.cells.length = 8 := rfl
theorem flat_len (L : List Nd) : (flat L).length = L.length * 8 := by
  induction L with
  | nil => rfl
  | cons x L ih => simp only [flat, List.flatMap_cons, List.length_append, List.length_cons, cells_len] at *; omega
theorem flat_cons (x : Nd) (L : List Nd) : flat (x :: L) = x.cells ++ flat L := rfl
theorem flat_append (K L : List Nd) : flat (K ++ L) = flat K ++ flat L := by simp [flat]
theorem flat_at : ∀ (L : List Nd) (i : Nat) (x : Nd) (j : Nat) (u : Value), L[i]? = some x → x.cells[j]? = some u → (flat L)[i * 8 + j]? = some u := by
  intro L
  induction L with
  | nil => intro i x j u h; simp at h
  | cons y L ih =>
    intro i x j u h hu
    have hj : j < 8 := by have := (List.getElem?_eq_some_iff.1 hu).1; simpa [cells_len] using this
    cases i with
    | zero =>
      simp at h
      subst h
      rw [flat_cons, List.getElem?_append_left (by rw [cells_len]; omega)]
      simpa using hu
    | succ i =>
      rw [flat_cons, List.getElem?_append_right (by rw [cells_len]; omega), cells_len, show (i + 1) * 8 + j - 8 = i * 8 + j by omega]
      exact ih i x j u (by simpa using h) hu
theorem flat_of : ∀ (L : List Nd) (m : Nat) (u : Value), (flat L)[m]? = some u → ∃ x, L[m / 8]? = some x ∧ x.cells[m % 8]? = some u := by
  intro L
  induction L with
  | nil => intro m u h; simp [flat] at h
  | cons y L ih =>
    intro m u h
    rw [flat_cons] at h
    rcases Nat.lt_or_ge m 8 with hlt | hge
    · rw [List.getElem?_append_left (by rw [cells_len]; omega)] at h
      refine ⟨y, by rw [show m / 8 = 0 by omega]; rfl, by rw [show m % 8 = m by omega]; exact h⟩
    · rw [List.getElem?_append_right (by rw [cells_len]; omega), cells_len] at h
      obtain ⟨x, h1, h2⟩ := ih (m - 8) u h
      refine ⟨x, ?_, by rw [show m % 8 = (m - 8) % 8 by omega]; exact h2⟩
      rw [show m / 8 = (m - 8) / 8 + 1 by omega]
      simpa using h1
theorem flat_cell (L : List Nd) : ∀ u ∈ flat L, u.oneCell' = true := by
  intro u hu
  obtain ⟨x, _, hx⟩ := List.mem_flatMap.1 hu
  simp [Nd.cells] at hx
  rcases hx with rfl | rfl | rfl | rfl | rfl | rfl | rfl | rfl <;> rfl
theorem own_nodes {w : World} {base : Nat} {v : Value} {L : List Nd} (h : w.ownsRow base 32 8 v L.length (flat L)) : Nodes w v L := by
  rcases h.2 with ⟨rfl, h0⟩ | ⟨g, cap, cur, rfl, hb, hh, hc, hcm, hsz, htk⟩
  · have : L = [] := List.eq_nil_of_length_eq_zero h0
    subst this
    exact ⟨none, 0, rfl, by simp, fun h => by simp at h⟩
  · refine ⟨_, cap, rfl, hc, fun h0 => ⟨g, 0, rfl, fun i x hx j u hu => ?_⟩⟩
    have hf := flat_at L i x j u hx hu
    have hlt := (List.getElem?_eq_some_iff.1 hf).1
    rw [flat_len] at hlt
    rw [Nat.zero_add, h.cellAt (i * 8 + j) (by omega)]
    exact hf

/-- Some lists of nodes, in a row. -/
def KidsAt (w : World) (v : Value) (K : List (List Nd)) : Prop := ∃ g c, v = .slice (some ⟨g, 0, none⟩) K.length c ∧ ∀ i l, K[i]? = some l → 0 < l.length ∧ ∃ b off cl, w.cell? ⟨g, i, none⟩ = some (.slice (some ⟨b, off, none⟩) l.length cl) ∧ NodesAt w b off l
theorem KidsAt.later {w w' : World} {v : Value} {K : List (List Nd)} (h : KidsAt w v K) (hb : Below w.heap.size w w') : KidsAt w' v K := by
  obtain ⟨g, c, rfl, h⟩ := h
  refine ⟨g, c, rfl, fun i l hl => ?_⟩
  obtain ⟨h0, b, off, cl, h1, h2⟩ := h i l hl
  exact ⟨h0, b, off, cl, cell_later hb h1, h2.later hb⟩
def NodeRes (L : List Nd) (w : World) (e : Ending) (w' : World) : Prop := ∃ v, e = .returned v ∧ Nodes w' v L ∧ Below w.heap.size w w'
theorem flatten_take (K : List (List Nd)) (k : Nat) (l : List Nd) (h : K[k]? = some l) : (K.take (k + 1)).flatten = (K.take k).flatten ++ l := by
  have hk := (List.getElem?_eq_some_iff.1 h).1
  have e : K[k] = l := by rw [List.getElem?_eq_getElem hk] at h; exact Option.some.inj h
  rw [List.take_succ_eq_append_getElem hk, List.flatten_append, e]
  simp
theorem flatten_le (K : List (List Nd)) (k : Nat) : (K.take k).flatten.length ≤ K.flatten.length := by
  conv => rhs; rw [← List.take_append_drop k K, List.flatten_append, List.length_append]
  omega

end Go.Proofs.YtdobaililmkkcaaDoor

/- Walks of what statements lean on: copies of lists of nodes; the document's casts of a term. -/
namespace Go.Proofs.YtdobaililmkkcaaDoor
open Go.RowKit Culp

set_option maxHeartbeats 800000 in
theorem CopyNodes_any (T : List Nd) (tv : Value) (w : World) (hn : Nodes w tv T) (hT : T.length ≤ 100000) : Calls Tryd.prog 14 #[tv] w (NodeRes T w) := by
  have HN := Lib.hid hn
  obtain ⟨A, c, rfl, hlc, hN⟩ := hn
  obtain ⟨i0, hi, hz0, hz1, hz2⟩ := info_parts node_info
  have h0 := World.ownsRow_nil w w.heap.size 32 8
  cases A with
  | none =>
    have hT0 : T = [] := by
      rcases Nat.eq_zero_or_pos T.length with h | h
      · exact List.eq_nil_of_length_eq_zero h
      · obtain ⟨b, off, h1, _⟩ := hN h; cases h1
    subst hT0
    have hrun : ∀ w : World, (Builtin.append_ #[26, 26] 26 #[.slice none 0 0, .slice none 0 c]).run Tryd.prog w = .ok (.slice none 0 0) w := fun w => by
      simp [Builtin.append_, run_underlying Tryd.underlying26, Go.sizeOf, typeInfo, hi, Builtin.lenOf, Builtin.firstCells]
    clear hN h0
    go_enter Tryd.func14, Tryd.ntmps14
    go_wp2
    go_ret
    exact ⟨_, rfl, ⟨none, 0, rfl, by simp, fun h => by simp at h⟩, Below.refl _ _⟩
  | some a =>
    have hcells : ∀ j u, (flat T)[j]? = some u → w.cell? (a.add j) = some u := by
      intro j u hu
      have hjl := (List.getElem?_eq_some_iff.1 hu).1
      rw [flat_len] at hjl
      obtain ⟨b, off, h1, hM⟩ := hN (by omega)
      cases h1
      have hadd : (⟨b, off, none⟩ : Addr).add j = ⟨b, off + j, none⟩ := by
        unfold Addr.add; split
        · rename_i h0; subst h0; rfl
        · rfl
      rw [hadd]
      obtain ⟨y, hy, hyu⟩ := flat_of T j u hu
      have := hM _ _ hy _ _ hyu
      rw [show off + j / 8 * 8 + j % 8 = off + j by omega] at this
      exact this
    have HCe := Lib.hid hcells
    clear hN hcells
    go_enter Tryd.func14, Tryd.ntmps14
    go_wp2_with (at_builtin; refine wpList_append_own _ rfl (.tmp 4) (.tmp 5) 26 rfl w.heap.size 32 i0 _ 8 88 Tryd.underlying26 hi hz0 hz1 hz2 rfl (by decide) _ _ _ rfl h0 a T.length c (flat T) rfl (flat_len T) HCe.out (flat_cell T) (by unfold maxLen; omega) (by omega) (Nat.le_refl _) ?_)
    intro v' w' hown' hg _
    have hN2 : Nodes w' v' T := own_nodes (by simpa using hown')
    have hb' : Below w.heap.size w w' := (Below.refl _ _).grown hg (Nat.le_refl _) fun k hk => (h0.lt k hk).1
    have HN2 := Lib.hid hN2
    have HB := Lib.hid hb'
    clear hown' hg hb' hN2 h0
    go_wp2
    go_ret
    exact ⟨_, rfl, HN2.out, HB.out⟩

end Go.Proofs.YtdobaililmkkcaaDoor

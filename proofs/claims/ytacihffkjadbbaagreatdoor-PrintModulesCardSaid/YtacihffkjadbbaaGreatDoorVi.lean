
/- Memory: lists of modules with marks behind them. -/
import Derived.Test.YtacihffkjadbbaaGreatDoorVh
import Derived.Test.YtacihffkjadbbaaGreatDoorHlpB
import Derived.Test.YtacihffkjadbbaaGreatDoorHd
namespace Culp
set_option linter.unusedSimpArgs false
set_option linter.unusedVariables false
open Go Go.RowKit
/-- A row that is being filled. -/
def RowG (t : TypeId) (R n : Nat) (w : World) : Prop := ∃ cs : Array Value, w.heap[R]? = some (.cells cs t (0, 0)) ∧ cs.size = n
/-- Five cells, six cells are written. -/
def put5 (w : World) (R o : Nat) (a b c d e : Value) : World := ((((w.setCell ⟨R, o, none⟩ a).setCell ⟨R, o + 1, none⟩ b).setCell ⟨R, o + 2, none⟩ c).setCell ⟨R, o + 3, none⟩ d).setCell ⟨R, o + 4, none⟩ e
def put6 (w : World) (R o : Nat) (a b c d e f : Value) : World := (put5 w R o a b c d e).setCell ⟨R, o + 5, none⟩ f
section
variable {t : TypeId} {R n o i : Nat} {w w' : World} {v u a b c d e f : Value}
theorem RowG.lt (h : RowG t R n w) : R < w.heap.size := by
  obtain ⟨cs, h1, _⟩ := h
  exact (Array.getElem?_eq_some_iff.1 h1).1
theorem RowG.later (h : RowG t R n w) (hb : Below w.heap.size w w') : RowG t R n w' := by
  obtain ⟨cs, h1, h2⟩ := h
  exact ⟨cs, (hb.block R (Array.getElem?_eq_some_iff.1 h1).1).trans h1, h2⟩
theorem RowG.cell (h : RowG t R n w) (hi : i < n) : ∃ v, w.cell? ⟨R, i, none⟩ = some v := by
  obtain ⟨cs, h1, h2⟩ := h
  exact ⟨cs[i]'(by omega), by simp [World.cell?, h1, show i < cs.size by omega]⟩
theorem RowG.free (h : RowG t R n w) (i : Nat) : w.frozen? ⟨R, i, none⟩ = false := by
  obtain ⟨cs, h1, _⟩ := h
  simp [World.frozen?, h1]
theorem RowG.set (h : RowG t R n w) (i : Nat) (u : Value) : RowG t R n (w.setCell ⟨R, i, none⟩ u) := by
  obtain ⟨cs, h1, h2⟩ := h
  exact ⟨cs.setIfInBounds i u, by simp [World.setCell, Array.getElem?_modify, h1], by simpa using h2⟩
theorem RowG.put5 (h : RowG t R n w) : RowG t R n (put5 w R o a b c d e) := ((((h.set _ _).set _ _).set _ _).set _ _).set _ _
theorem RowG.put6 (h : RowG t R n w) : RowG t R n (put6 w R o a b c d e f) := (h.put5).set _ _
theorem set_else (h : w.cell? ⟨R, i, none⟩ = some v) (hij : i ≠ o) : (w.setCell ⟨R, o, none⟩ u).cell? ⟨R, i, none⟩ = some v := by
  rw [World.cell?_setCell_other]
  · exact h
  all_goals simp [hij]
theorem RowG.same (h : RowG t R n w) (hi : i < n) (u : Value) : (w.setCell ⟨R, i, none⟩ u).cell? ⟨R, i, none⟩ = some u := by
  obtain ⟨v, hv⟩ := h.cell hi
  exact World.cell?_setCell_same _ _ _ hv
theorem put5_old (h : w.cell? ⟨R, i, none⟩ = some v) (hi : i < o) : (put5 w R o a b c d e).cell? ⟨R, i, none⟩ = some v :=
  set_else (set_else (set_else (set_else (set_else h (by omega)) (by omega)) (by omega)) (by omega)) (by omega)
theorem put6_old (h : w.cell? ⟨R, i, none⟩ = some v) (hi : i < o) : (put6 w R o a b c d e f).cell? ⟨R, i, none⟩ = some v := set_else (put5_old h hi) (by omega)
theorem put5_new (h : RowG t R n w) (hn : o + 5 ≤ n) : ∀ j u, [a, b, c, d, e][j]? = some u → (put5 w R o a b c d e).cell? ⟨R, o + j, none⟩ = some u := by
  intro j u hu
  have s0 := h.set o a
  have s1 := s0.set (o + 1) b
  have s2 := s1.set (o + 2) c
  have s3 := s2.set (o + 3) d
  match j, hu with
  | 0, hu => cases hu; exact set_else (set_else (set_else (set_else (h.same (by omega) _) (by omega)) (by omega)) (by omega)) (by omega)
  | 1, hu => cases hu; exact set_else (set_else (set_else (s0.same (by omega) _) (by omega)) (by omega)) (by omega)
  | 2, hu => cases hu; exact set_else (set_else (s1.same (by omega) _) (by omega)) (by omega)
  | 3, hu => cases hu; exact set_else (s2.same (by omega) _) (by omega)
  | 4, hu => cases hu; exact s3.same (by omega) _
  | j + 5, hu => simp at hu
theorem put6_new (h : RowG t R n w) (hn : o + 6 ≤ n) : ∀ j u, [a, b, c, d, e, f][j]? = some u → (put6 w R o a b c d e f).cell? ⟨R, o + j, none⟩ = some u := by
  intro j u hu
  have k5 := put5_new (a := a) (b := b) (c := c) (d := d) (e := e) h (show o + 5 ≤ n by omega)
  match j, hu with
  | 0, hu => exact set_else (k5 0 u hu) (by omega)
  | 1, hu => exact set_else (k5 1 u hu) (by omega)
  | 2, hu => exact set_else (k5 2 u hu) (by omega)
  | 3, hu => exact set_else (k5 3 u hu) (by omega)
  | 4, hu => exact set_else (k5 4 u hu) (by omega)
  | 5, hu => cases hu; exact (h.put5 (o := o) (a := a) (b := b) (c := c) (d := d) (e := e)).same (by omega) _
  | j + 6, hu => simp at hu
theorem put5_keep : Keep R w (put5 w R o a b c d e) := (((((Keep.refl R w).setCell _ _).setCell _ _).setCell _ _).setCell _ _).setCell _ _
theorem put6_keep : Keep R w (put6 w R o a b c d e f) := (put5_keep).setCell _ _
theorem below_keep {B : Nat} {W : World} (h : Below B W w) (hk : Keep R w w') (hR : B ≤ R) (hl : R < w.heap.size) : Below B W w' :=
  h.trans ⟨hk.os, hk.tape, hk.output, hk.size, fun i hi => hk.block i (by omega) (by omega)⟩
end
/-- Structs one behind the other in a block. -/
def RowsAt {α : Type} (sz : Nat) (P : World → α → List Value → Prop) (w : World) (g : Nat) (l : List α) : Prop := ∀ i x, l[i]? = some x → ∃ cs, P w x cs ∧ cs.length = sz ∧ ∀ j u, cs[j]? = some u → w.cell? ⟨g, i * sz + j, none⟩ = some u
section
variable {α : Type} {sz g c : Nat} {P Q : World → α → List Value → Prop} {w w' : World} {l : List α}
theorem RowsAt.keep (h : RowsAt sz P w g l) (hc : ∀ j v, w.cell? ⟨g, j, none⟩ = some v → w'.cell? ⟨g, j, none⟩ = some v) (hP : ∀ x cs, P w x cs → P w' x cs) : RowsAt sz P w' g l := fun i x hx => by
  obtain ⟨cs, h1, h2, h3⟩ := h i x hx
  exact ⟨cs, hP x cs h1, h2, fun j u hu => hc _ _ (h3 j u hu)⟩
theorem RowsAt.rows (h : RowsAt sz P w g l) (hc : l.length ≤ c) (hP : ∀ x cs, P w x cs → Q w x cs) : RowsV sz Q w (.slice (some ⟨g, 0, none⟩) l.length c) l :=
  ⟨_, c, rfl, hc, fun _ => ⟨g, 0, rfl, fun i x hx => by
    obtain ⟨cs, h1, h2, h3⟩ := h i x hx
    exact ⟨cs, hP x cs h1, h2, fun j u hu => by rw [Nat.zero_add]; exact h3 j u hu⟩⟩⟩
theorem RowsAt.cut {k : Nat} (h : RowsAt sz P w g l) : RowsAt sz P w g (l.take k) := fun i x hx => by
  rw [List.getElem?_take] at hx
  split at hx
  · exact h i x hx
  · cases hx
theorem RowsAt.front {r : List α} (h : RowsAt sz P w g (l ++ r)) : RowsAt sz P w g l := fun i x hx => h i x (by rw [List.getElem?_append_left (List.getElem?_eq_some_iff.1 hx).1]; exact hx)
theorem RowsAt.step {k : Nat} {x : α} {cs : List Value} (h : RowsAt sz P w g (l.take k)) (hx : l[k]? = some x) (ho : ∀ j v, j < k * sz → w.cell? ⟨g, j, none⟩ = some v → w'.cell? ⟨g, j, none⟩ = some v) (hP : ∀ x cs, P w x cs → P w' x cs) (hn : P w' x cs) (hl : cs.length = sz) (hc : ∀ j u, cs[j]? = some u → w'.cell? ⟨g, k * sz + j, none⟩ = some u) : RowsAt sz P w' g (l.take (k + 1)) := fun i y hy => by
  rw [List.getElem?_take] at hy
  split at hy
  · rename_i hik
    rcases Nat.lt_or_ge i k with hlt | hge
    · obtain ⟨ds, h1, h2, h3⟩ := h i y (by rw [List.getElem?_take, if_pos hlt]; exact hy)
      refine ⟨ds, hP y ds h1, h2, fun j u hu => ho _ _ ?_ (h3 j u hu)⟩
      have hj : j < sz := by have := (List.getElem?_eq_some_iff.1 hu).1; omega
      have : (i + 1) * sz ≤ k * sz := Nat.mul_le_mul_right _ hlt
      rw [Nat.succ_mul] at this
      omega
    · obtain rfl : i = k := by omega
      rw [hx] at hy
      cases hy
      exact ⟨cs, hn, hl, hc⟩
  · cases hy
end
/-- A row whose first places are filled: with a list, then with marks. -/
structure Fill {α : Type} (sz : Nat) (P : World → α → List Value → Prop) (w : World) (g : Nat) (L : List α) (mc : Nat → List Value) (k : Nat) : Prop where
  row : RowsAt sz P w g (L.take k)
  mark : ∀ i, L.length ≤ i → i < k → ∀ j u, (mc i)[j]? = some u → w.cell? ⟨g, i * sz + j, none⟩ = some u
section
variable {α : Type} {sz g k c : Nat} {P Q : World → α → List Value → Prop} {w w' : World} {L : List α} {mc : Nat → List Value} {cs : List Value} {x : α}
theorem Fill.start : Fill sz P w g L mc 0 := ⟨fun i x hx => by simp at hx, fun i _ h => absurd h (Nat.not_lt_zero _)⟩
theorem Fill.keep (h : Fill sz P w g L mc k) (hc : ∀ j v, w.cell? ⟨g, j, none⟩ = some v → w'.cell? ⟨g, j, none⟩ = some v) (hP : ∀ x cs, P w x cs → P w' x cs) : Fill sz P w' g L mc k :=
  ⟨h.row.keep hc hP, fun i h1 h2 j u hu => hc _ _ (h.mark i h1 h2 j u hu)⟩
theorem Fill.put (h : Fill sz P w g L mc k) (hx : L[k]? = some x) (ho : ∀ j v, j < k * sz → w.cell? ⟨g, j, none⟩ = some v → w'.cell? ⟨g, j, none⟩ = some v) (hP : ∀ x cs, P w x cs → P w' x cs) (hn : P w' x cs) (hl : cs.length = sz) (hc : ∀ j u, cs[j]? = some u → w'.cell? ⟨g, k * sz + j, none⟩ = some u) : Fill sz P w' g L mc (k + 1) :=
  ⟨h.row.step hx ho hP hn hl hc, fun i h1 h2 => by
    have := (List.getElem?_eq_some_iff.1 hx).1
    omega⟩
theorem Fill.putMark (h : Fill sz P w g L mc k) (hk : L.length ≤ k) (hm : ∀ i, (mc i).length = sz) (ho : ∀ j v, j < k * sz → w.cell? ⟨g, j, none⟩ = some v → w'.cell? ⟨g, j, none⟩ = some v) (hP : ∀ x cs, P w x cs → P w' x cs) (hc : ∀ j u, (mc k)[j]? = some u → w'.cell? ⟨g, k * sz + j, none⟩ = some u) : Fill sz P w' g L mc (k + 1) := by
  have lt : ∀ {i j : Nat}, i < k → j < sz → i * sz + j < k * sz := fun {i j} hi hj => by
    have : (i + 1) * sz ≤ k * sz := Nat.mul_le_mul_right _ hi
    rw [Nat.succ_mul] at this
    omega
  refine ⟨fun i x hx => ?_, fun i h1 h2 j u hu => ?_⟩
  · have hil : i < L.length := by
      have := (List.getElem?_eq_some_iff.1 hx).1
      rw [List.length_take] at this
      omega
    obtain ⟨cs, a, b, c⟩ := h.row i x (by rw [List.getElem?_take, if_pos (by omega)]; rw [List.getElem?_take, if_pos (by omega)] at hx; exact hx)
    refine ⟨cs, hP x cs a, b, fun j u hu => ho _ _ (lt (by omega) ?_) (c j u hu)⟩
    have := (List.getElem?_eq_some_iff.1 hu).1
    omega
  · rcases Nat.lt_or_ge i k with hlt | hge
    · refine ho _ _ (lt hlt ?_) (h.mark i h1 hlt j u hu)
      have := (List.getElem?_eq_some_iff.1 hu).1
      rw [hm] at this
      exact this
    · obtain rfl : i = k := by omega
      exact hc j u hu
theorem Fill.rows (h : Fill sz P w g L mc k) (hk : L.length ≤ k) (hc : L.length ≤ c) (hP : ∀ x cs, P w x cs → Q w x cs) : RowsV sz Q w (.slice (some ⟨g, 0, none⟩) L.length c) L := by
  have := h.row
  rw [List.take_of_length_le hk] at this
  exact this.rows hc hP
end
end Culp
namespace Go.Proofs.YtacihffkjadbbaaGreatDoor
set_option linter.unusedSimpArgs false
set_option linter.unusedVariables false
open Go.RowKit Culp
def mcI (k : Nat) : List Value := [.string (txt 9 k), .string { data := #[] }, .string { data := #[] }, .int .i64 0, .int .i64 0]
def mcD (k : Nat) : List Value := [.string (txt 9 k), .bool false, .string { data := #[] }, .slice none 0 0, .int .i64 0, .int .i64 0]
def mcM (k : Nat) : List Value := [.string (txt 9 k), .slice none 0 0, .slice none 0 0, .int .i64 0, .int .i64 0]
/-- Imports, defs, modules with marks behind them; what they hold lies in younger blocks. -/
def ImsW (w : World) (g : Nat) (I : List Im) : Prop := Fill 5 ImR w g I mcI (I.length + 64)
def DfW (g : Nat) (w : World) (x : Df) (cs : List Value) : Prop := ∃ gt, g < gt ∧ cs = x.cells (.slice (some ⟨gt, 0, none⟩) x.tree.length (x.tree.length + 64 : Nat)) ∧ NodesAt w gt 0 (x.tree ++ marks x.tree.length)
def DfsW (w : World) (g : Nat) (D : List Df) : Prop := Fill 6 (DfW g) w g D mcD (D.length + 64)
def MdW (g : Nat) (w : World) (x : Md) (cs : List Value) : Prop := ∃ gi gd, g < gi ∧ g < gd ∧ cs = x.cells (.slice (some ⟨gi, 0, none⟩) x.imps.length (x.imps.length + 64 : Nat)) (.slice (some ⟨gd, 0, none⟩) x.defs.length (x.defs.length + 64 : Nat)) ∧ ImsW w gi x.imps ∧ DfsW w gd x.defs
def MdsW (w : World) (g : Nat) (L : List Md) : Prop := Fill 5 (MdW g) w g L mcM (L.length + 64)
section
variable {w w' : World} {g R : Nat} {I : List Im} {D : List Df} {L : List Md}
theorem keep_cells (hk : Keep R w w') (hne : g ≠ R) : ∀ j v, w.cell? ⟨g, j, none⟩ = some v → w'.cell? ⟨g, j, none⟩ = some v := fun j v hv => hk.cell hv hne
theorem later_cells (hb : Below w.heap.size w w') : ∀ j v, w.cell? ⟨g, j, none⟩ = some v → w'.cell? ⟨g, j, none⟩ = some v := fun j v hv => cell_later hb hv
theorem nodes_keep {gt : Nat} {T : List Nd} (h : NodesAt w gt 0 T) (hk : Keep R w w') (hne : gt ≠ R) : NodesAt w' gt 0 T := fun i x hx j u hu => hk.cell (h i x hx j u hu) hne
theorem ImsW.keep (h : ImsW w g I) (hk : Keep R w w') (hne : g ≠ R) : ImsW w' g I := Fill.keep h (keep_cells hk hne) fun _ _ h => h
theorem ImsW.later (h : ImsW w g I) (hb : Below w.heap.size w w') : ImsW w' g I := Fill.keep h (later_cells hb) fun _ _ h => h
theorem DfW.keep {x : Df} {cs : List Value} (h : DfW g w x cs) (hk : Keep R w w') (hle : R ≤ g) : DfW g w' x cs := by
  obtain ⟨gt, h1, h2, h3⟩ := h
  exact ⟨gt, h1, h2, nodes_keep h3 hk (by omega)⟩
theorem DfW.later {x : Df} {cs : List Value} (h : DfW g w x cs) (hb : Below w.heap.size w w') : DfW g w' x cs := by
  obtain ⟨gt, h1, h2, h3⟩ := h
  exact ⟨gt, h1, h2, h3.later hb⟩
theorem DfsW.keep (h : DfsW w g D) (hk : Keep R w w') (hlt : R < g) : DfsW w' g D := Fill.keep h (keep_cells hk (by omega)) fun _ _ h => h.keep hk (by omega)
theorem DfsW.later (h : DfsW w g D) (hb : Below w.heap.size w w') : DfsW w' g D := Fill.keep h (later_cells hb) fun _ _ h => h.later hb
theorem MdW.keep {x : Md} {cs : List Value} (h : MdW g w x cs) (hk : Keep R w w') (hle : R ≤ g) : MdW g w' x cs := by
  obtain ⟨gi, gd, h1, h2, h3, h4, h5⟩ := h
  exact ⟨gi, gd, h1, h2, h3, h4.keep hk (by omega), h5.keep hk (by omega)⟩
theorem MdW.later {x : Md} {cs : List Value} (h : MdW g w x cs) (hb : Below w.heap.size w w') : MdW g w' x cs := by
  obtain ⟨gi, gd, h1, h2, h3, h4, h5⟩ := h
  exact ⟨gi, gd, h1, h2, h3, h4.later hb, h5.later hb⟩
theorem MdsW.later (h : MdsW w g L) (hb : Below w.heap.size w w') : MdsW w' g L := Fill.keep h (later_cells hb) fun _ _ h => h.later hb
theorem wide_nd {gt : Nat} {T : List Nd} (h : NodesAt w gt 0 (T ++ marks T.length)) : Nodes w (.slice (some ⟨gt, 0, none⟩) T.length (T.length + 64 : Nat)) T :=
  ⟨some ⟨gt, 0, none⟩, T.length + 64, rfl, by omega, fun _ => ⟨gt, 0, rfl, fun i x hx j u hu => h i x (by rw [List.getElem?_append_left (List.getElem?_eq_some_iff.1 hx).1]; exact hx) j u hu⟩⟩
theorem ImsW.imps (h : ImsW w g I) : Imps w (.slice (some ⟨g, 0, none⟩) I.length (I.length + 64 : Nat)) I := Fill.rows h (by omega) (by omega) fun _ _ h => h
theorem DfsW.defs (h : DfsW w g D) : Defs w (.slice (some ⟨g, 0, none⟩) D.length (D.length + 64 : Nat)) D := Fill.rows h (by omega) (by omega) fun x cs h => by
  obtain ⟨gt, _, h2, h3⟩ := h
  exact ⟨_, h2, wide_nd h3⟩
theorem MdsW.mods (h : MdsW w g L) : Mods w (.slice (some ⟨g, 0, none⟩) L.length (L.length + 64 : Nat)) L := Fill.rows h (by omega) (by omega) fun x cs h => by
  obtain ⟨gi, gd, _, _, h3, h4, h5⟩ := h
  exact ⟨_, _, h3, h4.imps, h5.defs⟩
end
end Go.Proofs.YtacihffkjadbbaaGreatDoor

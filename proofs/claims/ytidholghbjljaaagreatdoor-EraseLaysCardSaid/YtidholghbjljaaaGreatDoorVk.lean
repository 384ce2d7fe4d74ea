
/- Memory: lists of modules with marks behind them. -/
import Derived.Test.YtidholghbjljaaaGreatDoorVh
import Derived.Test.YtidholghbjljaaaGreatDoorHlpB
import Derived.Test.YtidholghbjljaaaGreatDoorHd
import Derived.OwnWalk
namespace Culp
set_option linter.unusedSimpArgs false
set_option linter.unusedVariables false
open Go Go.RowKit
/-- A row that is being filled. -/
def RowG (t : TypeId) (R n : Nat) (w : World) : Prop := ∃ cs : Array Value, w.heap[R]? = some (.cells cs t (0, 0)) ∧ cs.size = n
/-- Five cells, six cells are written. -/
def put5 (w : World) (R o : Nat) (a b c d e : Value) : World := ((((w.setCell ⟨R, o, none⟩ a).setCell ⟨R, o + 1, none⟩ b).setCell ⟨R, o + 2, none⟩ c).setCell ⟨R, o + 3, none⟩ d).setCell ⟨R, o + 4, none⟩ e
def put6 (w : World) (R o : Nat) (a b c d e f : Value) : World := (put5 w R o a b c d e).setCell ⟨R, o + 5, none⟩ f
section
variable {t : TypeId} {R n o i : Nat} {w w' : World} {v u a b c d e f : Value}
theorem RowG.lt (h : RowG t R n w) : R < w.heap.size := by
  obtain ⟨cs, h1, _⟩ := h
  exact (Array.getElem?_eq_some_iff.1 h1).1
theorem RowG.later (h : RowG t R n w) (hb : Below w.heap.size w w') : RowG t R n w' := by
  obtain ⟨cs, h1, h2⟩ := h
  exact ⟨cs, (hb.block R (Array.getElem?_eq_some_iff.1 h1).1).trans h1, h2⟩
theorem RowG.cell (h : RowG t R n w) (hi : i < n) : ∃ v, w.cell? ⟨R, i, none⟩ = some v := by
  obtain ⟨cs, h1, h2⟩ := h
  exact ⟨cs[i]'(by omega), by simp [World.cell?, h1, show i < cs.size by omega]⟩
theorem RowG.free (h : RowG t R n w) (i : Nat) : w.frozen? ⟨R, i, none⟩ = false := by
  obtain ⟨cs, h1, _⟩ := h
  simp [World.frozen?, h1]
theorem RowG.set (h : RowG t R n w) (i : Nat) (u : Value) : RowG t R n (w.setCell ⟨R, i, none⟩ u) := by
  obtain ⟨cs, h1, h2⟩ := h
  exact ⟨cs.setIfInBounds i u, by simp [World.setCell, Array.getElem?_modify, h1], by simpa using h2⟩
theorem RowG.put5 (h : RowG t R n w) : RowG t R n (put5 w R o a b c d e) := ((((h.set _ _).set _ _).set _ _).set _ _).set _ _
theorem RowG.put6 (h : RowG t R n w) : RowG t R n (put6 w R o a b c d e f) := (h.put5).set _ _
theorem set_else (h : w.cell? ⟨R, i, none⟩ = some v) (hij : i ≠ o) : (w.setCell ⟨R, o, none⟩ u).cell? ⟨R, i, none⟩ = some v := by
  rw [World.cell?_setCell_other]
  · exact h
  all_goals simp [hij]
theorem RowG.same (h : RowG t R n w) (hi : i < n) (u : Value) : (w.setCell ⟨R, i, none⟩ u).cell? ⟨R, i, none⟩ = some u := by
  obtain ⟨v, hv⟩ := h.cell hi
  exact World.cell?_setCell_same _ _ _ hv
theorem put5_old (h : w.cell? ⟨R, i, none⟩ = some v) (hi : i < o) : (put5 w R o a b c d e).cell? ⟨R, i, none⟩ = some v :=
  set_else (set_else (set_else (set_else (set_else h (by omega)) (by omega)) (by omega)) (by omega)) (by omega)
theorem put6_old (h : w.cell? ⟨R, i, none⟩ = some v) (hi : i < o) : (put6 w R o a b c d e f).cell? ⟨R, i, none⟩ = some v := set_else (put5_old h hi) (by omega)
theorem put5_new (h : RowG t R n w) (hn : o + 5 ≤ n) : ∀ j u, [a, b, c, d, e][j]? = some u → (put5 w R o a b c d e).cell? ⟨R, o + j, none⟩ = some u := by
  intro j u hu
  have s0 := h.set o a
  have s1 := s0.set (o + 1) b
  have s2 := s1.set (o + 2) c
  have s3 := s2.set (o + 3) d
  match j, hu with
  | 0, hu => cases hu; exact set_else (set_else (set_else (set_else (h.same (by omega) _) (by omega)) (by omega)) (by omega)) (by omega)
  | 1, hu => cases hu; exact set_else (set_else (set_else (s0.same (by omega) _) (by omega)) (by omega)) (by omega)
  | 2, hu => cases hu; exact set_else (set_else (s1.same (by omega) _) (by omega)) (by omega)
  | 3, hu => cases hu; exact set_else (s2.same (by omega) _) (by omega)
  | 4, hu => cases hu; exact s3.same (by omega) _
  | j + 5, hu => simp at hu
theorem put6_new (h : RowG t R n w) (hn : o + 6 ≤ n) : ∀ j u, [a, b, c, d, e, f][j]? = some u → (put6 w R o a b c d e f).cell? ⟨R, o + j, none⟩ = some u := by
  intro j u hu
  have k5 := put5_new (a := a) (b := b) (c := c) (d := d) (e := e) h (show o + 5 ≤ n by omega)
  match j, hu with
  | 0, hu => exact set_else (k5 0 u hu) (by omega)
  | 1, hu => exact set_else (k5 1 u hu) (by omega)
  | 2, hu => exact set_else (k5 2 u hu) (by omega)
  | 3, hu => exact set_else (k5 3 u hu) (by omega)
  | 4, hu => exact set_else (k5 4 u hu) (by omega)
  | 5, hu => cases hu; exact (h.put5 (o := o) (a := a) (b := b) (c := c) (d := d) (e := e)).same (by omega) _
  | j + 6, hu => simp at hu
theorem put5_keep : Keep R w (put5 w R o a b c d e) := (((((Keep.refl R w).setCell _ _).setCell _ _).setCell _ _).setCell _ _).setCell _ _
theorem put6_keep : Keep R w (put6 w R o a b c d e f) := (put5_keep).setCell _ _
theorem below_keep {B : Nat} {W : World} (h : Below B W w) (hk : Keep R w w') (hR : B ≤ R) (hl : R < w.heap.size) : Below B W w' :=
  h.trans ⟨hk.os, hk.tape, hk.output, hk.size, fun i hi => hk.block i (by omega) (by omega)⟩
end
/-- Structs one behind the other in a block. -/
def RowsAt {α : Type} (sz : Nat) (P : World → α → List Value → Prop) (w : World) (g : Nat) (l : List α) : Prop := ∀ i x, l[i]? = some x → ∃ cs, P w x cs ∧ cs.length = sz ∧ ∀ j u, cs[j]? = some u → w.cell? ⟨g, i * sz + j, none⟩ = some u
section
variable {α : Type} {sz g c : Nat} {P Q : World → α → List Value → Prop} {w w' : World} {l : List α}
theorem RowsAt.keep (h : RowsAt sz P w g l) (hc : ∀ j v, w.cell? ⟨g, j, none⟩ = some v → w'.cell? ⟨g, j, none⟩ = some v) (hP : ∀ x cs, P w x cs → P w' x cs) : RowsAt sz P w' g l := fun i x hx => by
  obtain ⟨cs, h1, h2, h3⟩ := h i x hx
  exact ⟨cs, hP x cs h1, h2, fun j u hu => hc _ _ (h3 j u hu)⟩
theorem RowsAt.rows (h : RowsAt sz P w g l) (hc : l.length ≤ c) (hP : ∀ x cs, P w x cs → Q w x cs) : RowsV sz Q w (.slice (some ⟨g, 0, none⟩) l.length c) l :=
  ⟨_, c, rfl, hc, fun _ => ⟨g, 0, rfl, fun i x hx => by
    obtain ⟨cs, h1, h2, h3⟩ := h i x hx
    exact ⟨cs, hP x cs h1, h2, fun j u hu => by rw [Nat.zero_add]; exact h3 j u hu⟩⟩⟩
theorem RowsAt.cut {k : Nat} (h : RowsAt sz P w g l) : RowsAt sz P w g (l.take k) := fun i x hx => by
  rw [List.getElem?_take] at hx
  split at hx
  · exact h i x hx
  · cases hx
theorem RowsAt.step {k : Nat} {x : α} {cs : List Value} (h : RowsAt sz P w g (l.take k)) (hx : l[k]? = some x) (ho : ∀ j v, j < k * sz → w.cell? ⟨g, j, none⟩ = some v → w'.cell? ⟨g, j, none⟩ = some v) (hP : ∀ x cs, P w x cs → P w' x cs) (hn : P w' x cs) (hl : cs.length = sz) (hc : ∀ j u, cs[j]? = some u → w'.cell? ⟨g, k * sz + j, none⟩ = some u) : RowsAt sz P w' g (l.take (k + 1)) := fun i y hy => by
  rw [List.getElem?_take] at hy
  split at hy
  · rename_i hik
    rcases Nat.lt_or_ge i k with hlt | hge
    · obtain ⟨ds, h1, h2, h3⟩ := h i y (by rw [List.getElem?_take, if_pos hlt]; exact hy)
      refine ⟨ds, hP y ds h1, h2, fun j u hu => ho _ _ ?_ (h3 j u hu)⟩
      have hj : j < sz := by have := (List.getElem?_eq_some_iff.1 hu).1; omega
      have : (i + 1) * sz ≤ k * sz := Nat.mul_le_mul_right _ hlt
      rw [Nat.succ_mul] at this
      omega
    · obtain rfl : i = k := by omega
      rw [hx] at hy
      cases hy
      exact ⟨cs, hn, hl, hc⟩
  · cases hy
end
/-- A row whose first places are filled: with a list, then with marks. -/
structure Fill {α : Type} (sz : Nat) (P : World → α → List Value → Prop) (w : World) (g : Nat) (L : List α) (mc : Nat → List Value) (k : Nat) : Prop where
  row : RowsAt sz P w g (L.take k)
  mark : ∀ i, L.length ≤ i → i < k → ∀ j u, (mc i)[j]? = some u → w.cell? ⟨g, i * sz + j, none⟩ = some u
section
variable {α : Type} {sz g k c : Nat} {P Q : World → α → List Value → Prop} {w w' : World} {L : List α} {mc : Nat → List Value} {cs : List Value} {x : α}
theorem Fill.start : Fill sz P w g L mc 0 := ⟨fun i x hx => by simp at hx, fun i _ h => absurd h (Nat.not_lt_zero _)⟩
theorem Fill.keep (h : Fill sz P w g L mc k) (hc : ∀ j v, w.cell? ⟨g, j, none⟩ = some v → w'.cell? ⟨g, j, none⟩ = some v) (hP : ∀ x cs, P w x cs → P w' x cs) : Fill sz P w' g L mc k :=
  ⟨h.row.keep hc hP, fun i h1 h2 j u hu => hc _ _ (h.mark i h1 h2 j u hu)⟩
theorem Fill.put (h : Fill sz P w g L mc k) (hx : L[k]? = some x) (ho : ∀ j v, j < k * sz → w.cell? ⟨g, j, none⟩ = some v → w'.cell? ⟨g, j, none⟩ = some v) (hP : ∀ x cs, P w x cs → P w' x cs) (hn : P w' x cs) (hl : cs.length = sz) (hc : ∀ j u, cs[j]? = some u → w'.cell? ⟨g, k * sz + j, none⟩ = some u) : Fill sz P w' g L mc (k + 1) :=
  ⟨h.row.step hx ho hP hn hl hc, fun i h1 h2 => by
    have := (List.getElem?_eq_some_iff.1 hx).1
    omega⟩
theorem Fill.putMark (h : Fill sz P w g L mc k) (hk : L.length ≤ k) (hm : ∀ i, (mc i).length = sz) (ho : ∀ j v, j < k * sz → w.cell? ⟨g, j, none⟩ = some v → w'.cell? ⟨g, j, none⟩ = some v) (hP : ∀ x cs, P w x cs → P w' x cs) (hc : ∀ j u, (mc k)[j]? = some u → w'.cell? ⟨g, k * sz + j, none⟩ = some u) : Fill sz P w' g L mc (k + 1) := by
  have lt : ∀ {i j : Nat}, i < k → j < sz → i * sz + j < k * sz := fun {i j} hi hj => by
    have : (i + 1) * sz ≤ k * sz := Nat.mul_le_mul_right _ hi
    rw [Nat.succ_mul] at this
    omega
  refine ⟨fun i x hx => ?_, fun i h1 h2 j u hu => ?_⟩
  · have hil : i < L.length := by
      have := (List.getElem?_eq_some_iff.1 hx).1
      rw [List.length_take] at this
      omega
    obtain ⟨cs, a, b, c⟩ := h.row i x (by rw [List.getElem?_take, if_pos (by omega)]; rw [List.getElem?_take, if_pos (by omega)] at hx; exact hx)
    refine ⟨cs, hP x cs a, b, fun j u hu => ho _ _ (lt (by omega) ?_) (c j u hu)⟩
    have := (List.getElem?_eq_some_iff.1 hu).1
    omega
  · rcases Nat.lt_or_ge i k with hlt | hge
    · refine ho _ _ (lt hlt ?_) (h.mark i h1 hlt j u hu)
      have := (List.getElem?_eq_some_iff.1 hu).1
      rw [hm] at this
      exact this
    · obtain rfl : i = k := by omega
      exact hc j u hu
theorem Fill.rows (h : Fill sz P w g L mc k) (hk : L.length ≤ k) (hc : L.length ≤ c) (hP : ∀ x cs, P w x cs → Q w x cs) : RowsV sz Q w (.slice (some ⟨g, 0, none⟩) L.length c) L := by
  have := h.row
  rw [List.take_of_length_le hk] at this
  exact this.rows hc hP
end
end Culp
namespace Go.Proofs.YtidholghbjljaaaGreatDoor
set_option linter.unusedSimpArgs false
set_option linter.unusedVariables false
open Go.RowKit Culp
def mcI (k : Nat) : List Value := [.string (txt 9 k), .string { data := #[] }, .string { data := #[] }, .int .i64 0, .int .i64 0]
def mcD (k : Nat) : List Value := [.string (txt 9 k), .bool false, .string { data := #[] }, .slice none 0 0, .int .i64 0, .int .i64 0]
def mcM (k : Nat) : List Value := [.string (txt 9 k), .slice none 0 0, .slice none 0 0, .int .i64 0, .int .i64 0]
/-- Imports, defs, modules with marks behind them; what they hold lies in younger blocks. -/
def ImsW (w : World) (g : Nat) (I : List Im) : Prop := Fill 5 ImR w g I mcI (I.length + 64)
def DfW (g : Nat) (w : World) (x : Df) (cs : List Value) : Prop := ∃ gt, g < gt ∧ cs = x.cells (.slice (some ⟨gt, 0, none⟩) x.tree.length (x.tree.length + 64 : Nat)) ∧ NodesAt w gt 0 (x.tree ++ marks x.tree.length)
def DfsW (w : World) (g : Nat) (D : List Df) : Prop := Fill 6 (DfW g) w g D mcD (D.length + 64)
def MdW (g : Nat) (w : World) (x : Md) (cs : List Value) : Prop := ∃ gi gd, g < gi ∧ g < gd ∧ cs = x.cells (.slice (some ⟨gi, 0, none⟩) x.imps.length (x.imps.length + 64 : Nat)) (.slice (some ⟨gd, 0, none⟩) x.defs.length (x.defs.length + 64 : Nat)) ∧ ImsW w gi x.imps ∧ DfsW w gd x.defs
def MdsW (w : World) (g : Nat) (L : List Md) : Prop := Fill 5 (MdW g) w g L mcM (L.length + 64)
section
variable {w w' : World} {g R : Nat} {I : List Im} {D : List Df} {L : List Md}
theorem keep_cells (hk : Keep R w w') (hne : g ≠ R) : ∀ j v, w.cell? ⟨g, j, none⟩ = some v → w'.cell? ⟨g, j, none⟩ = some v := fun j v hv => hk.cell hv hne
theorem later_cells (hb : Below w.heap.size w w') : ∀ j v, w.cell? ⟨g, j, none⟩ = some v → w'.cell? ⟨g, j, none⟩ = some v := fun j v hv => cell_later hb hv
theorem nodes_keep {gt : Nat} {T : List Nd} (h : NodesAt w gt 0 T) (hk : Keep R w w') (hne : gt ≠ R) : NodesAt w' gt 0 T := fun i x hx j u hu => hk.cell (h i x hx j u hu) hne
theorem ImsW.keep (h : ImsW w g I) (hk : Keep R w w') (hne : g ≠ R) : ImsW w' g I := Fill.keep h (keep_cells hk hne) fun _ _ h => h
theorem ImsW.later (h : ImsW w g I) (hb : Below w.heap.size w w') : ImsW w' g I := Fill.keep h (later_cells hb) fun _ _ h => h
theorem DfW.keep {x : Df} {cs : List Value} (h : DfW g w x cs) (hk : Keep R w w') (hle : R ≤ g) : DfW g w' x cs := by
  obtain ⟨gt, h1, h2, h3⟩ := h
  exact ⟨gt, h1, h2, nodes_keep h3 hk (by omega)⟩
theorem DfW.later {x : Df} {cs : List Value} (h : DfW g w x cs) (hb : Below w.heap.size w w') : DfW g w' x cs := by
  obtain ⟨gt, h1, h2, h3⟩ := h
  exact ⟨gt, h1, h2, h3.later hb⟩
theorem DfsW.keep (h : DfsW w g D) (hk : Keep R w w') (hlt : R < g) : DfsW w' g D := Fill.keep h (keep_cells hk (by omega)) fun _ _ h => h.keep hk (by omega)
theorem DfsW.later (h : DfsW w g D) (hb : Below w.heap.size w w') : DfsW w' g D := Fill.keep h (later_cells hb) fun _ _ h => h.later hb
theorem MdW.keep {x : Md} {cs : List Value} (h : MdW g w x cs) (hk : Keep R w w') (hle : R ≤ g) : MdW g w' x cs := by
  obtain ⟨gi, gd, h1, h2, h3, h4, h5⟩ := h
  exact ⟨gi, gd, h1, h2, h3, h4.keep hk (by omega), h5.keep hk (by omega)⟩
theorem MdW.later {x : Md} {cs : List Value} (h : MdW g w x cs) (hb : Below w.heap.size w w') : MdW g w' x cs := by
  obtain ⟨gi, gd, h1, h2, h3, h4, h5⟩ := h
  exact ⟨gi, gd, h1, h2, h3, h4.later hb, h5.later hb⟩
theorem MdsW.later (h : MdsW w g L) (hb : Below w.heap.size w w') : MdsW w' g L := Fill.keep h (later_cells hb) fun _ _ h => h.later hb
theorem wide_nd {gt : Nat} {T : List Nd} (h : NodesAt w gt 0 (T ++ marks T.length)) : Nodes w (.slice (some ⟨gt, 0, none⟩) T.length (T.length + 64 : Nat)) T :=
  ⟨some ⟨gt, 0, none⟩, T.length + 64, rfl, by omega, fun _ => ⟨gt, 0, rfl, fun i x hx j u hu => h i x (by rw [List.getElem?_append_left (List.getElem?_eq_some_iff.1 hx).1]; exact hx) j u hu⟩⟩
theorem ImsW.imps (h : ImsW w g I) : Imps w (.slice (some ⟨g, 0, none⟩) I.length (I.length + 64 : Nat)) I := Fill.rows h (by omega) (by omega) fun _ _ h => h
theorem DfsW.defs (h : DfsW w g D) : Defs w (.slice (some ⟨g, 0, none⟩) D.length (D.length + 64 : Nat)) D := Fill.rows h (by omega) (by omega) fun x cs h => by
  obtain ⟨gt, _, h2, h3⟩ := h
  exact ⟨_, h2, wide_nd h3⟩
theorem MdsW.mods (h : MdsW w g L) : Mods w (.slice (some ⟨g, 0, none⟩) L.length (L.length + 64 : Nat)) L := Fill.rows h (by omega) (by omega) fun x cs h => by
  obtain ⟨gi, gd, _, _, h3, h4, h5⟩ := h
  exact ⟨_, _, h3, h4.imps, h5.defs⟩
end
end Go.Proofs.YtidholghbjljaaaGreatDoor

/- Walks of what statements lean on: lists of modules with marks behind them are made. -/
namespace Go.Proofs.YtidholghbjljaaaGreatDoor
set_option linter.unusedSimpArgs false
set_option linter.unusedVariables false
open Go.RowKit Culp
theorem im_info : (Tryz.prog.info? 90).map (fun i => (i.zero, i.size, i.bytes)) = some (some (.agg #[.string ByteArray.empty, .string ByteArray.empty, .string ByteArray.empty, .int .i64 0, .int .i64 0]), 5, 64) := by kernel_rfl
theorem df_info : (Tryz.prog.info? 84).map (fun i => (i.zero, i.size, i.bytes)) = some (some (.agg #[.string ByteArray.empty, .bool false, .string ByteArray.empty, .slice none 0 0, .int .i64 0, .int .i64 0]), 6, 80) := by kernel_rfl
theorem md_info : (Tryz.prog.info? 88).map (fun i => (i.zero, i.size, i.bytes)) = some (some (.agg #[.string ByteArray.empty, .slice none 0 0, .slice none 0 0, .int .i64 0, .int .i64 0]), 5, 80) := by kernel_rfl
theorem df_size : (Tryz.prog.info? 84).map (·.size) = some 6 := by kernel_rfl
theorem md_size : (Tryz.prog.info? 88).map (·.size) = some 5 := by kernel_rfl
theorem blk_put6 {g : Nat} {t : TypeId} {w : World} {v0 v1 v2 v3 v4 v5 a b c d e f : Value} (h : Blk g #[v0, v1, v2, v3, v4, v5] t w) : Blk g #[a, b, c, d, e, f] t (put6 w g 0 a b c d e f) := by
  unfold Blk at h ⊢
  simp [put6, put5, World.setCell, Array.getElem?_modify, h]
theorem blk_put5 {g : Nat} {t : TypeId} {w : World} {v0 v1 v2 v3 v4 a b c d e : Value} (h : Blk g #[v0, v1, v2, v3, v4] t w) : Blk g #[a, b, c, d, e] t (put5 w g 0 a b c d e) := by
  unfold Blk at h ⊢
  simp [put5, World.setCell, Array.getElem?_modify, h]
theorem blk_keep {g R : Nat} {t : TypeId} {w w' : World} {cs : Array Value} (h : Blk g cs t w) (hk : Keep R w w') (hne : g ≠ R) : Blk g cs t w' := (hk.block g h.lt hne).trans h
/-- What one of these answers. -/
def WideL {α : Type} (W : World → Nat → List α → Prop) (L : List α) (w : World) (e : Ending) (w' : World) : Prop := ∃ g, w.heap.size ≤ g ∧ e = .returned (.slice (some ⟨g, 0, none⟩) L.length (L.length + 64 : Nat)) ∧ W w' g L ∧ Below w.heap.size w w'
theorem row_made {t : TypeId} {R n sz : Nat} {w : World} {c : Nat} {xs : List Value} (h : w.ownsRow R t sz (.slice (some ⟨R, 0, none⟩) n c) n xs) (hc : c = n) : RowG t R (n * sz) w := by
  rcases h.2 with ⟨h1, _⟩ | ⟨g, cap, cur, h1, _, h2, _, _, h3, _⟩
  · cases h1
  · simp only [Value.slice.injEq, Option.some.injEq, Addr.mk.injEq] at h1
    obtain ⟨⟨rfl, _⟩, _, rfl⟩ := h1
    exact ⟨cur, h2, by rw [h3, hc]⟩
set_option maxRecDepth 100000 in
set_option maxHeartbeats 6400000 in
theorem WideImports_any (L : List Im) (v : Value) (w : World) (hL : Imps w v L) (hl : L.length ≤ 100000000000) (hP : Pw w) : Calls Tryz.prog 85 #[v] w (WideL ImsW L w) := by
  have HL := Lib.hid hL
  have HP := Lib.hid hP
  obtain ⟨A, c, rfl⟩ := hL.form
  obtain ⟨i0, hi, hz0, hz1, hz2⟩ := info_parts im_info
  clear hL hP
  go_enter Tryz.func85, Tryz.ntmps85
  go_wp2_with (refine wpList_make_full _ rfl (.tmp 7) (.tmp 7) 85 rfl w.heap.size 90 i0 _ 5 Tryz.underlying85 hi hz0 hz1 .i64 .i64 ((L.length : Int) + 64) ((L.length : Int) + 64) (L.length + 64) rfl rfl (by omega) (by omega) (by rw [hz2]; omega) (by unfold maxLen; omega) (Nat.le_refl _) ?_)
  intro w1 hown hgr
  have HR := Lib.hid (row_made hown rfl)
  have HB : Hid (Below w.heap.size w w1) := Lib.hid ((Below.refl _ _).grown hgr (Nat.le_refl _) fun k hk => by cases hk)
  clear hown hgr
  go_wp2_with fail
  go_loopw [4] (fun i wr => ∃ k : Nat, k ≤ L.length + 64 ∧ i = .int .i64 k ∧ Hid (RowG 90 w.heap.size ((L.length + 64) * 5) wr) ∧ Hid (Fill 5 (ImR) wr w.heap.size L mcI k) ∧ Hid (Below w.heap.size w wr)) (fun i _ => L.length + 64 - (intOf i).toNat)
  case atStart => exact ⟨0, Nat.zero_le _, rfl, HR, Lib.hid Fill.start, HB⟩
  case round =>
    obtain ⟨k, hk, rfl, HRr, HFr, HBr⟩ := hrel
    by_cases hlt : k < L.length + 64
    · have hrw : w.heap.size < wr.heap.size := HRr.out.lt
      by_cases hkL : k < L.length
      · obtain ⟨b, off, rfl, ⟨n0, n1, n2, n3, n4⟩⟩ := (HL.out.later HBr.out).at_ hkL
        have hx : L[k]? = some L[k] := List.getElem?_eq_getElem hkL
        have HX := Lib.hid hx
        generalize L[k] = x at *
        obtain ⟨v0, r0⟩ := HRr.out.cell (i := k * 5) (by omega)
        have f0 := HRr.out.free (k * 5)
        obtain ⟨v1, r1⟩ := HRr.out.cell (i := k * 5 + 1) (by omega)
        have f1 := HRr.out.free (k * 5 + 1)
        obtain ⟨v2, r2⟩ := HRr.out.cell (i := k * 5 + 2) (by omega)
        have f2 := HRr.out.free (k * 5 + 2)
        obtain ⟨v3, r3⟩ := HRr.out.cell (i := k * 5 + 3) (by omega)
        have f3 := HRr.out.free (k * 5 + 3)
        obtain ⟨v4, r4⟩ := HRr.out.cell (i := k * 5 + 4) (by omega)
        have f4 := HRr.out.free (k * 5 + 4)
        have HR3 : Hid (RowG 90 w.heap.size ((L.length + 64) * 5) (put5 wr w.heap.size (k * 5) (.string x.src) (.string x.name) (.string x.t) (.int .i64 x.line) (.int .i64 x.col))) := Lib.hid HRr.out.put5
        have HF3 : Hid (Fill 5 ImR (put5 wr w.heap.size (k * 5) (.string x.src) (.string x.name) (.string x.t) (.int .i64 x.line) (.int .i64 x.col)) w.heap.size L mcI (k + 1)) := Lib.hid (HFr.out.put (cs := x.cells) HX.out (fun j v hj hv => put5_old hv hj) (fun _ _ h => h) rfl rfl (put5_new HRr.out (by omega)))
        have HB3 : Hid (Below w.heap.size w (put5 wr w.heap.size (k * 5) (.string x.src) (.string x.name) (.string x.t) (.int .i64 x.line) (.int .i64 x.col))) := Lib.hid (below_keep HBr.out put5_keep (Nat.le_refl _) HRr.out.lt)
        clear hx HRr HFr HBr
        go_wp2_with fail
        go_roundw
        case rel => exact ⟨k + 1, by omega, by go_num, HR3, HF3, HB3⟩
        case measure => simp [intOf]; omega
      · have HTX := Lib.hid (text_any 9 k (by decide) (by omega) wr (HP.out.later HBr.out HP.out.lt))
        unfold mkT at HTX
        go_wp2_with fail
        refine HTX.out.mono ?_
        rintro e w2 ⟨rfl, hb2⟩
        have HR2 := Lib.hid (HRr.out.later hb2)
        have HF2 := Lib.hid (Fill.keep HFr.out (later_cells hb2) (fun _ _ h => h))
        have HB2 := Lib.hid (below_later hb2 HBr.out)
        obtain ⟨v0, r0⟩ := HR2.out.cell (i := k * 5) (by omega)
        have f0 := HR2.out.free (k * 5)
        obtain ⟨v1, r1⟩ := HR2.out.cell (i := k * 5 + 1) (by omega)
        have f1 := HR2.out.free (k * 5 + 1)
        obtain ⟨v2, r2⟩ := HR2.out.cell (i := k * 5 + 2) (by omega)
        have f2 := HR2.out.free (k * 5 + 2)
        obtain ⟨v3, r3⟩ := HR2.out.cell (i := k * 5 + 3) (by omega)
        have f3 := HR2.out.free (k * 5 + 3)
        obtain ⟨v4, r4⟩ := HR2.out.cell (i := k * 5 + 4) (by omega)
        have f4 := HR2.out.free (k * 5 + 4)
        have HR3 : Hid (RowG 90 w.heap.size ((L.length + 64) * 5) (put5 w2 w.heap.size (k * 5) (.string (txt 9 k)) (.string { data := #[] }) (.string { data := #[] }) (.int .i64 0) (.int .i64 0))) := Lib.hid HR2.out.put5
        have HF3 : Hid (Fill 5 (ImR) (put5 w2 w.heap.size (k * 5) (.string (txt 9 k)) (.string { data := #[] }) (.string { data := #[] }) (.int .i64 0) (.int .i64 0)) w.heap.size L mcI (k + 1)) := Lib.hid (HF2.out.putMark (by omega) (fun _ => rfl) (fun j v hj hv => put5_old hv hj) (fun _ _ h => h) (put5_new HR2.out (by omega)))
        have HB3 : Hid (Below w.heap.size w (put5 w2 w.heap.size (k * 5) (.string (txt 9 k)) (.string { data := #[] }) (.string { data := #[] }) (.int .i64 0) (.int .i64 0))) := Lib.hid (below_keep HB2.out put5_keep (Nat.le_refl _) HR2.out.lt)
        clear hb2 HTX HRr HFr HBr HF2 HB2
        go_wp2_with fail
        go_roundw
        case rel => exact ⟨k + 1, by omega, by go_num, HR3, HF3, HB3⟩
        case measure => simp [intOf]; omega
    · obtain rfl : k = L.length + 64 := by omega
      go_wp2_with fail
      go_ret
      exact ⟨_, Nat.le_refl _, rfl, HFr.out, HBr.out⟩
set_option maxRecDepth 100000 in
set_option maxHeartbeats 3200000 in
theorem WideDef_any (x : Df) (A : Option Addr) (c : Nat) (w : World) (hn : Nodes w (.slice A x.tree.length c) x.tree) (hT : x.tree.length ≤ 100000000000) :
    Calls Tryz.prog 110 #[.agg #[.string x.name, .bool x.out, .string x.t, .slice A x.tree.length c, .int .i64 x.line, .int .i64 x.col]] w (fun e w' => ∃ gt, w.heap.size ≤ gt ∧ e = .returned (.agg #[.string x.name, .bool x.out, .string x.t, .slice (some ⟨gt, 0, none⟩) x.tree.length (x.tree.length + 64 : Nat), .int .i64 x.line, .int .i64 x.col]) ∧ NodesAt w' gt 0 (x.tree ++ marks x.tree.length) ∧ Below w.heap.size w w') := by
  have HN := Lib.hid hn
  have HB2 := Lib.hid (below_two w (.cells #[.string x.name, .bool x.out, .string x.t, .slice A x.tree.length c, .int .i64 x.line, .int .i64 x.col] 84) (.cells #[.string { data := #[] }, .bool false, .string { data := #[] }, .slice none 0 0, .int .i64 0, .int .i64 0] 84))
  have HX0 : Hid (Blk w.heap.size #[.string x.name, .bool x.out, .string x.t, .slice A x.tree.length c, .int .i64 x.line, .int .i64 x.col] 84 ((w.alloc (.cells #[.string x.name, .bool x.out, .string x.t, .slice A x.tree.length c, .int .i64 x.line, .int .i64 x.col] 84)).alloc (.cells #[.string { data := #[] }, .bool false, .string { data := #[] }, .slice none 0 0, .int .i64 0, .int .i64 0] 84))) := Lib.hid ((Blk.alloc w _ _).later ((Below.refl _ _).alloc (Nat.le_refl _) _))
  have HZ0 := Lib.hid (Blk.alloc2 w (.cells #[.string x.name, .bool x.out, .string x.t, .slice A x.tree.length c, .int .i64 x.line, .int .i64 x.col] 84) #[.string { data := #[] }, .bool false, .string { data := #[] }, .slice none 0 0, .int .i64 0, .int .i64 0] 84)
  clear hn
  go_enter Tryz.func110, Tryz.ntmps110
  go_wp2_with fail
  refine (WideNodes_at x.tree _ _ (HN.out.later HB2.out) hT).mono ?_
  rintro E w1 ⟨gt, hgt, rfl, hN1, hb1⟩
  have HB1 := Lib.hid (below_later hb1 HB2.out)
  have HX1 := Lib.hid (HX0.out.later hb1)
  have HZ1 := Lib.hid (HZ0.out.later hb1)
  have HN1 := Lib.hid hN1
  have HGT : Hid (w.heap.size + 2 ≤ gt) := Lib.hid (by simpa using hgt)
  clear hb1 hN1 hgt HX0 HZ0 HB2
  have x0 := HX1.out.cell (i := 0) rfl
  have x1 := HX1.out.cell (i := 1) rfl
  have x2 := HX1.out.cell (i := 2) rfl
  have x3 := HX1.out.cell (i := 3) rfl
  have x4 := HX1.out.cell (i := 4) rfl
  have x5 := HX1.out.cell (i := 5) rfl
  have f3 := HX1.out.free 3
  have z0 := HZ1.out.cell (i := 0) rfl
  have z1 := HZ1.out.cell (i := 1) rfl
  have z2 := HZ1.out.cell (i := 2) rfl
  have z3 := HZ1.out.cell (i := 3) rfl
  have z4 := HZ1.out.cell (i := 4) rfl
  have z5 := HZ1.out.cell (i := 5) rfl
  have g0 := HZ1.out.free 0
  have g1 := HZ1.out.free 1
  have g2 := HZ1.out.free 2
  have g3 := HZ1.out.free 3
  have g4 := HZ1.out.free 4
  have g5 := HZ1.out.free 5
  have hA := HX1.out.lt
  have hZ := HZ1.out.lt
  have HK3 : Hid (Keep w.heap.size w1 (w1.setCell ⟨w.heap.size, 3, none⟩ (.slice (some ⟨gt, 0, none⟩) x.tree.length (x.tree.length + 64 : Nat)))) := Lib.hid ((Keep.refl _ w1).setCell 3 _)
  have HW : Hid (Blk (w.heap.size + 1) #[.string x.name, .bool x.out, .string x.t, .slice (some ⟨gt, 0, none⟩) x.tree.length (x.tree.length + 64 : Nat), .int .i64 x.line, .int .i64 x.col] 84 (put6 (w1.setCell ⟨w.heap.size, 3, none⟩ (.slice (some ⟨gt, 0, none⟩) x.tree.length (x.tree.length + 64 : Nat))) (w.heap.size + 1) 0 (.string x.name) (.bool x.out) (.string x.t) (.slice (some ⟨gt, 0, none⟩) x.tree.length (x.tree.length + 64 : Nat)) (.int .i64 x.line) (.int .i64 x.col))) := Lib.hid (blk_put6 (blk_keep HZ1.out HK3.out (by omega)))
  have HN2 : Hid (NodesAt (put6 (w1.setCell ⟨w.heap.size, 3, none⟩ (.slice (some ⟨gt, 0, none⟩) x.tree.length (x.tree.length + 64 : Nat))) (w.heap.size + 1) 0 (.string x.name) (.bool x.out) (.string x.t) (.slice (some ⟨gt, 0, none⟩) x.tree.length (x.tree.length + 64 : Nat)) (.int .i64 x.line) (.int .i64 x.col)) gt 0 (x.tree ++ marks x.tree.length)) := Lib.hid (nodes_keep (nodes_keep HN1.out HK3.out (by have := HGT.out; omega)) put6_keep (by have := HGT.out; omega))
  have HB3 : Hid (Below w.heap.size w (put6 (w1.setCell ⟨w.heap.size, 3, none⟩ (.slice (some ⟨gt, 0, none⟩) x.tree.length (x.tree.length + 64 : Nat))) (w.heap.size + 1) 0 (.string x.name) (.bool x.out) (.string x.t) (.slice (some ⟨gt, 0, none⟩) x.tree.length (x.tree.length + 64 : Nat)) (.int .i64 x.line) (.int .i64 x.col))) := Lib.hid (below_keep (below_keep HB1.out HK3.out (Nat.le_refl _) hA) put6_keep (Nat.le_succ _) (Nat.lt_of_lt_of_le hZ HK3.out.size))
  go_wp2_with fail
  refine bodyPost_ret (results_cell_row rfl _ _ (w.heap.size + 1) 84 #[.string x.name, .bool x.out, .string x.t, .slice (some ⟨gt, 0, none⟩) x.tree.length (x.tree.length + 64 : Nat), .int .i64 x.line, .int .i64 x.col] (0, 0) _ rfl HW.out Tryz.underlying84 rfl df_size) rfl ⟨gt, by have := HGT.out; omega, rfl, HN2.out, HB3.out⟩
set_option maxRecDepth 100000 in
set_option maxHeartbeats 6400000 in
theorem WideDefs_any (L : List Df) (v : Value) (w : World) (hL : Defs w v L) (hl : L.length ≤ 100000000000) (hz : ∀ d ∈ L, d.tree.length ≤ 100000000000) (hP : Pw w) : Calls Tryz.prog 86 #[v] w (WideL DfsW L w) := by
  have HL := Lib.hid hL
  have HP := Lib.hid hP
  have HZ := Lib.hid hz
  obtain ⟨A, c, rfl⟩ := hL.form
  obtain ⟨i0, hi, hz0, hz1, hz2⟩ := info_parts df_info
  clear hL hP hz
  go_enter Tryz.func86, Tryz.ntmps86
  go_wp2_with (refine wpList_make_full _ rfl (.tmp 7) (.tmp 7) 86 rfl w.heap.size 84 i0 _ 6 Tryz.underlying86 hi hz0 hz1 .i64 .i64 ((L.length : Int) + 64) ((L.length : Int) + 64) (L.length + 64) rfl rfl (by omega) (by omega) (by rw [hz2]; omega) (by unfold maxLen; omega) (Nat.le_refl _) ?_)
  intro w1 hown hgr
  have HR := Lib.hid (row_made hown rfl)
  have HB : Hid (Below w.heap.size w w1) := Lib.hid ((Below.refl _ _).grown hgr (Nat.le_refl _) fun k hk => by cases hk)
  clear hown hgr
  go_wp2_with fail
  go_loopw [4] (fun i wr => ∃ k : Nat, k ≤ L.length + 64 ∧ i = .int .i64 k ∧ Hid (RowG 84 w.heap.size ((L.length + 64) * 6) wr) ∧ Hid (Fill 6 (DfW w.heap.size) wr w.heap.size L mcD k) ∧ Hid (Below w.heap.size w wr)) (fun i _ => L.length + 64 - (intOf i).toNat)
  case atStart => exact ⟨0, Nat.zero_le _, rfl, HR, Lib.hid Fill.start, HB⟩
  case round =>
    obtain ⟨k, hk, rfl, HRr, HFr, HBr⟩ := hrel
    by_cases hlt : k < L.length + 64
    · have hrw : w.heap.size < wr.heap.size := HRr.out.lt
      by_cases hkL : k < L.length
      · obtain ⟨b, off, tv, rfl, ⟨n0, n1, n2, n3, n4, n5⟩, ht⟩ := (HL.out.later HBr.out).at_ hkL
        obtain ⟨At, ct, rfl⟩ := ht.form
        have hx : L[k]? = some L[k] := List.getElem?_eq_getElem hkL
        have HX := Lib.hid hx
        have hT := HZ.out _ (List.mem_of_getElem? hx)
        generalize L[k] = x at *
        have HWD := Lib.hid (WideDef_any x At ct wr ht hT)
        clear hx ht
        go_wp2_with fail
        refine HWD.out.mono ?_
        rintro e w2 ⟨gt, hgt, rfl, hN2, hb2⟩
        have HR2 := Lib.hid (HRr.out.later hb2)
        have HF2 := Lib.hid (Fill.keep HFr.out (later_cells hb2) (fun _ _ h => h.later hb2))
        have HB2 := Lib.hid (below_later hb2 HBr.out)
        obtain ⟨v0, r0⟩ := HR2.out.cell (i := k * 6) (by omega)
        have f0 := HR2.out.free (k * 6)
        obtain ⟨v1, r1⟩ := HR2.out.cell (i := k * 6 + 1) (by omega)
        have f1 := HR2.out.free (k * 6 + 1)
        obtain ⟨v2, r2⟩ := HR2.out.cell (i := k * 6 + 2) (by omega)
        have f2 := HR2.out.free (k * 6 + 2)
        obtain ⟨v3, r3⟩ := HR2.out.cell (i := k * 6 + 3) (by omega)
        have f3 := HR2.out.free (k * 6 + 3)
        obtain ⟨v4, r4⟩ := HR2.out.cell (i := k * 6 + 4) (by omega)
        have f4 := HR2.out.free (k * 6 + 4)
        obtain ⟨v5, r5⟩ := HR2.out.cell (i := k * 6 + 5) (by omega)
        have f5 := HR2.out.free (k * 6 + 5)
        have HR3 : Hid (RowG 84 w.heap.size ((L.length + 64) * 6) (put6 w2 w.heap.size (k * 6) (.string x.name) (.bool x.out) (.string x.t) (.slice (some ⟨gt, 0, none⟩) x.tree.length (x.tree.length + 64 : Nat)) (.int .i64 x.line) (.int .i64 x.col))) := Lib.hid HR2.out.put6
        have HF3 : Hid (Fill 6 (DfW w.heap.size) (put6 w2 w.heap.size (k * 6) (.string x.name) (.bool x.out) (.string x.t) (.slice (some ⟨gt, 0, none⟩) x.tree.length (x.tree.length + 64 : Nat)) (.int .i64 x.line) (.int .i64 x.col)) w.heap.size L mcD (k + 1)) := Lib.hid (HF2.out.put (cs := x.cells (.slice (some ⟨gt, 0, none⟩) x.tree.length (x.tree.length + 64 : Nat))) HX.out (fun j v hj hv => put6_old hv hj) (fun _ _ h => h.keep put6_keep (Nat.le_refl _)) ⟨gt, by omega, rfl, nodes_keep hN2 put6_keep (by omega)⟩ rfl (put6_new HR2.out (by omega)))
        have HB3 : Hid (Below w.heap.size w (put6 w2 w.heap.size (k * 6) (.string x.name) (.bool x.out) (.string x.t) (.slice (some ⟨gt, 0, none⟩) x.tree.length (x.tree.length + 64 : Nat)) (.int .i64 x.line) (.int .i64 x.col))) := Lib.hid (below_keep HB2.out put6_keep (Nat.le_refl _) HR2.out.lt)
        clear hb2 hN2 HWD HRr HFr HBr HF2 HB2 n0 n1 n2 n3 n4 n5
        go_wp2_with fail
        go_roundw
        case rel => exact ⟨k + 1, by omega, by go_num, HR3, HF3, HB3⟩
        case measure => simp [intOf]; omega
      · have HTX := Lib.hid (text_any 9 k (by decide) (by omega) wr (HP.out.later HBr.out HP.out.lt))
        unfold mkT at HTX
        go_wp2_with fail
        refine HTX.out.mono ?_
        rintro e w2 ⟨rfl, hb2⟩
        have HR2 := Lib.hid (HRr.out.later hb2)
        have HF2 := Lib.hid (Fill.keep HFr.out (later_cells hb2) (fun _ _ h => h.later hb2))
        have HB2 := Lib.hid (below_later hb2 HBr.out)
        obtain ⟨v0, r0⟩ := HR2.out.cell (i := k * 6) (by omega)
        have f0 := HR2.out.free (k * 6)
        obtain ⟨v1, r1⟩ := HR2.out.cell (i := k * 6 + 1) (by omega)
        have f1 := HR2.out.free (k * 6 + 1)
        obtain ⟨v2, r2⟩ := HR2.out.cell (i := k * 6 + 2) (by omega)
        have f2 := HR2.out.free (k * 6 + 2)
        obtain ⟨v3, r3⟩ := HR2.out.cell (i := k * 6 + 3) (by omega)
        have f3 := HR2.out.free (k * 6 + 3)
        obtain ⟨v4, r4⟩ := HR2.out.cell (i := k * 6 + 4) (by omega)
        have f4 := HR2.out.free (k * 6 + 4)
        obtain ⟨v5, r5⟩ := HR2.out.cell (i := k * 6 + 5) (by omega)
        have f5 := HR2.out.free (k * 6 + 5)
        have HR3 : Hid (RowG 84 w.heap.size ((L.length + 64) * 6) (put6 w2 w.heap.size (k * 6) (.string (txt 9 k)) (.bool false) (.string { data := #[] }) (.slice none 0 0) (.int .i64 0) (.int .i64 0))) := Lib.hid HR2.out.put6
        have HF3 : Hid (Fill 6 (DfW w.heap.size) (put6 w2 w.heap.size (k * 6) (.string (txt 9 k)) (.bool false) (.string { data := #[] }) (.slice none 0 0) (.int .i64 0) (.int .i64 0)) w.heap.size L mcD (k + 1)) := Lib.hid (HF2.out.putMark (by omega) (fun _ => rfl) (fun j v hj hv => put6_old hv hj) (fun _ _ h => h.keep put6_keep (Nat.le_refl _)) (put6_new HR2.out (by omega)))
        have HB3 : Hid (Below w.heap.size w (put6 w2 w.heap.size (k * 6) (.string (txt 9 k)) (.bool false) (.string { data := #[] }) (.slice none 0 0) (.int .i64 0) (.int .i64 0))) := Lib.hid (below_keep HB2.out put6_keep (Nat.le_refl _) HR2.out.lt)
        clear hb2 HTX HRr HFr HBr HF2 HB2
        go_wp2_with fail
        go_roundw
        case rel => exact ⟨k + 1, by omega, by go_num, HR3, HF3, HB3⟩
        case measure => simp [intOf]; omega
    · obtain rfl : k = L.length + 64 := by omega
      go_wp2_with fail
      go_ret
      exact ⟨_, Nat.le_refl _, rfl, HFr.out, HBr.out⟩
theorem blk_set1 {g : Nat} {t : TypeId} {w : World} {v0 v1 v2 v3 v4 : Value} (h : Blk g #[v0, v1, v2, v3, v4] t w) (u : Value) : Blk g #[v0, u, v2, v3, v4] t (w.setCell ⟨g, 1, none⟩ u) := by
  unfold Blk at h ⊢
  simp [World.setCell, Array.getElem?_modify, h]
set_option maxRecDepth 100000 in
set_option maxHeartbeats 6400000 in
theorem WideModule_any (x : Md) (A D : Option Addr) (ca cd : Nat) (w : World) (hi : Imps w (.slice A x.imps.length ca) x.imps) (hd : Defs w (.slice D x.defs.length cd) x.defs) (hil : x.imps.length ≤ 100000000000) (hdl : x.defs.length ≤ 100000000000) (hT : ∀ d ∈ x.defs, d.tree.length ≤ 100000000000) (hP : Pw w) :
    Calls Tryz.prog 35 #[.agg #[.string x.name, .slice A x.imps.length ca, .slice D x.defs.length cd, .int .i64 x.line, .int .i64 x.col]] w (fun e w' => ∃ gi gd, w.heap.size ≤ gi ∧ w.heap.size ≤ gd ∧ e = .returned (.agg #[.string x.name, .slice (some ⟨gi, 0, none⟩) x.imps.length (x.imps.length + 64 : Nat), .slice (some ⟨gd, 0, none⟩) x.defs.length (x.defs.length + 64 : Nat), .int .i64 x.line, .int .i64 x.col]) ∧ ImsW w' gi x.imps ∧ DfsW w' gd x.defs ∧ Below w.heap.size w w') := by
  have HI := Lib.hid hi
  have HD := Lib.hid hd
  have HT := Lib.hid hT
  have HP := Lib.hid hP
  have HB2 := Lib.hid (below_two w (.cells #[.string x.name, .slice A x.imps.length ca, .slice D x.defs.length cd, .int .i64 x.line, .int .i64 x.col] 88) (.cells #[.string { data := #[] }, .slice none 0 0, .slice none 0 0, .int .i64 0, .int .i64 0] 88))
  have HX0 : Hid (Blk w.heap.size #[.string x.name, .slice A x.imps.length ca, .slice D x.defs.length cd, .int .i64 x.line, .int .i64 x.col] 88 ((w.alloc (.cells #[.string x.name, .slice A x.imps.length ca, .slice D x.defs.length cd, .int .i64 x.line, .int .i64 x.col] 88)).alloc (.cells #[.string { data := #[] }, .slice none 0 0, .slice none 0 0, .int .i64 0, .int .i64 0] 88))) := Lib.hid ((Blk.alloc w _ _).later ((Below.refl _ _).alloc (Nat.le_refl _) _))
  have HZ0 := Lib.hid (Blk.alloc2 w (.cells #[.string x.name, .slice A x.imps.length ca, .slice D x.defs.length cd, .int .i64 x.line, .int .i64 x.col] 88) #[.string { data := #[] }, .slice none 0 0, .slice none 0 0, .int .i64 0, .int .i64 0] 88)
  clear hi hd hT hP
  go_enter Tryz.func35, Tryz.ntmps35
  go_wp2_with fail
  refine (WideImports_any x.imps _ _ (HI.out.later HB2.out) hil (HP.out.later HB2.out HP.out.lt)).mono ?_
  rintro E w1 ⟨gi, hgi, rfl, hI1, hb1⟩
  have hs1 : w.heap.size + 2 ≤ w1.heap.size := by simpa using hb1.size
  have HGI : Hid (w.heap.size + 2 ≤ gi) := Lib.hid (by simpa using hgi)
  have HX1 := Lib.hid (HX0.out.later hb1)
  have HZ1 := Lib.hid (HZ0.out.later hb1)
  have HK1 : Hid (Keep w.heap.size w1 (w1.setCell ⟨w.heap.size, 1, none⟩ (.slice (some ⟨gi, 0, none⟩) x.imps.length (x.imps.length + 64 : Nat)))) := Lib.hid ((Keep.refl _ w1).setCell 1 _)
  have HBE : Hid (Below w.heap.size w (w1.setCell ⟨w.heap.size, 1, none⟩ (.slice (some ⟨gi, 0, none⟩) x.imps.length (x.imps.length + 64 : Nat)))) := Lib.hid (below_keep (below_later hb1 HB2.out) HK1.out (Nat.le_refl _) (by omega))
  have HX2 := Lib.hid (blk_set1 HX1.out (.slice (some ⟨gi, 0, none⟩) x.imps.length (x.imps.length + 64 : Nat)))
  have HZ2 := Lib.hid (blk_keep HZ1.out HK1.out (by omega))
  have HI2 := Lib.hid (hI1.keep HK1.out (by have := HGI.out; omega))
  have HD2 := Lib.hid (HD.out.later HBE.out)
  have HP2 := Lib.hid (HP.out.later HBE.out HP.out.lt)
  have x1 : w1.cell? ⟨w.heap.size, 1, none⟩ = some (.slice A x.imps.length ca) := HX1.out.cell (i := 1) rfl
  have x2 : w1.cell? ⟨w.heap.size, 2, none⟩ = some (.slice D x.defs.length cd) := HX1.out.cell (i := 2) rfl
  have f1 := HX1.out.free 1
  clear hgi hI1 hb1 HB2 HX0 HZ0 HI HD
  go_wp2_with fail
  refine (WideDefs_any x.defs _ _ HD2.out hdl HT.out HP2.out).mono ?_
  rintro E w2 ⟨gd, hgd, rfl, hD3, hb3⟩
  have hs2 : w1.heap.size ≤ w2.heap.size := by simpa using hb3.size
  have HGD : Hid (w.heap.size + 2 ≤ gd) := Lib.hid (by have : w1.heap.size ≤ gd := by simpa using hgd
                                                       omega)
  have HX3 := Lib.hid (HX2.out.later hb3)
  have HZ3 := Lib.hid (HZ2.out.later hb3)
  have HI3 := Lib.hid (HI2.out.later hb3)
  have HB3 := Lib.hid (below_later hb3 HBE.out)
  have HK3 : Hid (Keep w.heap.size w2 (w2.setCell ⟨w.heap.size, 2, none⟩ (.slice (some ⟨gd, 0, none⟩) x.defs.length (x.defs.length + 64 : Nat)))) := Lib.hid ((Keep.refl _ w2).setCell 2 _)
  have HKF : Hid (Keep (w.heap.size + 1) (w2.setCell ⟨w.heap.size, 2, none⟩ (.slice (some ⟨gd, 0, none⟩) x.defs.length (x.defs.length + 64 : Nat))) (put5 (w2.setCell ⟨w.heap.size, 2, none⟩ (.slice (some ⟨gd, 0, none⟩) x.defs.length (x.defs.length + 64 : Nat))) (w.heap.size + 1) 0 (.string x.name) (.slice (some ⟨gi, 0, none⟩) x.imps.length (x.imps.length + 64 : Nat)) (.slice (some ⟨gd, 0, none⟩) x.defs.length (x.defs.length + 64 : Nat)) (.int .i64 x.line) (.int .i64 x.col))) := Lib.hid put5_keep
  have HW : Hid (Blk (w.heap.size + 1) #[.string x.name, .slice (some ⟨gi, 0, none⟩) x.imps.length (x.imps.length + 64 : Nat), .slice (some ⟨gd, 0, none⟩) x.defs.length (x.defs.length + 64 : Nat), .int .i64 x.line, .int .i64 x.col] 88 (put5 (w2.setCell ⟨w.heap.size, 2, none⟩ (.slice (some ⟨gd, 0, none⟩) x.defs.length (x.defs.length + 64 : Nat))) (w.heap.size + 1) 0 (.string x.name) (.slice (some ⟨gi, 0, none⟩) x.imps.length (x.imps.length + 64 : Nat)) (.slice (some ⟨gd, 0, none⟩) x.defs.length (x.defs.length + 64 : Nat)) (.int .i64 x.line) (.int .i64 x.col))) := Lib.hid (blk_put5 (blk_keep HZ3.out HK3.out (by omega)))
  have HI4 := Lib.hid ((HI3.out.keep HK3.out (by have := HGI.out; omega)).keep HKF.out (by have := HGI.out; omega))
  have HD4 := Lib.hid ((hD3.keep HK3.out (by have := HGD.out; omega)).keep HKF.out (by have := HGD.out; omega))
  have HB4 : Hid (Below w.heap.size w (put5 (w2.setCell ⟨w.heap.size, 2, none⟩ (.slice (some ⟨gd, 0, none⟩) x.defs.length (x.defs.length + 64 : Nat))) (w.heap.size + 1) 0 (.string x.name) (.slice (some ⟨gi, 0, none⟩) x.imps.length (x.imps.length + 64 : Nat)) (.slice (some ⟨gd, 0, none⟩) x.defs.length (x.defs.length + 64 : Nat)) (.int .i64 x.line) (.int .i64 x.col))) := Lib.hid (below_keep (below_keep HB3.out HK3.out (Nat.le_refl _) (by omega)) HKF.out (Nat.le_succ _) (Nat.lt_of_lt_of_le (show w.heap.size + 1 < w2.heap.size by omega) HK3.out.size))
  have x0 : w2.cell? ⟨w.heap.size, 0, none⟩ = some (.string x.name) := HX3.out.cell (i := 0) rfl
  have x1 : w2.cell? ⟨w.heap.size, 1, none⟩ = some (.slice (some ⟨gi, 0, none⟩) x.imps.length (x.imps.length + 64 : Nat)) := HX3.out.cell (i := 1) rfl
  have x2 : w2.cell? ⟨w.heap.size, 2, none⟩ = some (.slice D x.defs.length cd) := HX3.out.cell (i := 2) rfl
  have x3 : w2.cell? ⟨w.heap.size, 3, none⟩ = some (.int .i64 x.line) := HX3.out.cell (i := 3) rfl
  have x4 : w2.cell? ⟨w.heap.size, 4, none⟩ = some (.int .i64 x.col) := HX3.out.cell (i := 4) rfl
  have f2 := HX3.out.free 2
  have z0 := HZ3.out.cell (i := 0) rfl
  have z1 := HZ3.out.cell (i := 1) rfl
  have z2 := HZ3.out.cell (i := 2) rfl
  have z3 := HZ3.out.cell (i := 3) rfl
  have z4 := HZ3.out.cell (i := 4) rfl
  have g0 := HZ3.out.free 0
  have g1 := HZ3.out.free 1
  have g2 := HZ3.out.free 2
  have g3 := HZ3.out.free 3
  have g4 := HZ3.out.free 4
  clear hgd hD3 hb3
  go_wp2_with fail
  refine bodyPost_ret (results_cell_row rfl _ _ (w.heap.size + 1) 88 #[.string x.name, .slice (some ⟨gi, 0, none⟩) x.imps.length (x.imps.length + 64 : Nat), .slice (some ⟨gd, 0, none⟩) x.defs.length (x.defs.length + 64 : Nat), .int .i64 x.line, .int .i64 x.col] (0, 0) _ rfl HW.out Tryz.underlying88 rfl md_size) rfl ⟨gi, gd, by have := HGI.out; omega, by have := HGD.out; omega, rfl, HI4.out, HD4.out, HB4.out⟩
set_option maxRecDepth 100000 in
set_option maxHeartbeats 6400000 in
theorem WideModules_any (L : List Md) (v : Value) (w : World) (hL : Mods w v L) (hl : L.length ≤ 100000000000) (hz : ∀ m ∈ L, m.imps.length ≤ 100000000000 ∧ m.defs.length ≤ 100000000000 ∧ ∀ d ∈ m.defs, d.tree.length ≤ 100000000000) (hP : Pw w) : Calls Tryz.prog 8 #[v] w (WideL MdsW L w) := by
  have HL := Lib.hid hL
  have HP := Lib.hid hP
  have HZ := Lib.hid hz
  obtain ⟨A, c, rfl⟩ := hL.form
  obtain ⟨i0, hi, hz0, hz1, hz2⟩ := info_parts md_info
  clear hL hP hz
  go_enter Tryz.func8, Tryz.ntmps8
  go_wp2_with (refine wpList_make_full _ rfl (.tmp 7) (.tmp 7) 22 rfl w.heap.size 88 i0 _ 5 Tryz.underlying22 hi hz0 hz1 .i64 .i64 ((L.length : Int) + 64) ((L.length : Int) + 64) (L.length + 64) rfl rfl (by omega) (by omega) (by rw [hz2]; omega) (by unfold maxLen; omega) (Nat.le_refl _) ?_)
  intro w1 hown hgr
  have HR := Lib.hid (row_made hown rfl)
  have HB : Hid (Below w.heap.size w w1) := Lib.hid ((Below.refl _ _).grown hgr (Nat.le_refl _) fun k hk => by cases hk)
  clear hown hgr
  go_wp2_with fail
  go_loopw [4] (fun i wr => ∃ k : Nat, k ≤ L.length + 64 ∧ i = .int .i64 k ∧ Hid (RowG 88 w.heap.size ((L.length + 64) * 5) wr) ∧ Hid (Fill 5 (MdW w.heap.size) wr w.heap.size L mcM k) ∧ Hid (Below w.heap.size w wr)) (fun i _ => L.length + 64 - (intOf i).toNat)
  case atStart => exact ⟨0, Nat.zero_le _, rfl, HR, Lib.hid Fill.start, HB⟩
  case round =>
    obtain ⟨k, hk, rfl, HRr, HFr, HBr⟩ := hrel
    by_cases hlt : k < L.length + 64
    · have hrw : w.heap.size < wr.heap.size := HRr.out.lt
      by_cases hkL : k < L.length
      · obtain ⟨b, off, iv, dv, rfl, ⟨n0, n1, n2, n3, n4⟩, hi, hd⟩ := (HL.out.later HBr.out).at_ hkL
        obtain ⟨Ai, ci, rfl⟩ := hi.form
        obtain ⟨Ad, cd, rfl⟩ := hd.form
        have hx : L[k]? = some L[k] := List.getElem?_eq_getElem hkL
        have HX := Lib.hid hx
        have hZ := HZ.out _ (List.mem_of_getElem? hx)
        generalize L[k] = x at *
        have HWD := Lib.hid (WideModule_any x Ai Ad ci cd wr hi hd hZ.1 hZ.2.1 hZ.2.2 (HP.out.later HBr.out HP.out.lt))
        clear hx hi hd hZ
        go_wp2_with fail
        refine HWD.out.mono ?_
        rintro e w2 ⟨gi, gd, hgi, hgd, rfl, hI2, hD2, hb2⟩
        have HR2 := Lib.hid (HRr.out.later hb2)
        have HF2 := Lib.hid (Fill.keep HFr.out (later_cells hb2) (fun _ _ h => h.later hb2))
        have HB2 := Lib.hid (below_later hb2 HBr.out)
        obtain ⟨v0, r0⟩ := HR2.out.cell (i := k * 5) (by omega)
        have f0 := HR2.out.free (k * 5)
        obtain ⟨v1, r1⟩ := HR2.out.cell (i := k * 5 + 1) (by omega)
        have f1 := HR2.out.free (k * 5 + 1)
        obtain ⟨v2, r2⟩ := HR2.out.cell (i := k * 5 + 2) (by omega)
        have f2 := HR2.out.free (k * 5 + 2)
        obtain ⟨v3, r3⟩ := HR2.out.cell (i := k * 5 + 3) (by omega)
        have f3 := HR2.out.free (k * 5 + 3)
        obtain ⟨v4, r4⟩ := HR2.out.cell (i := k * 5 + 4) (by omega)
        have f4 := HR2.out.free (k * 5 + 4)
        have HR3 : Hid (RowG 88 w.heap.size ((L.length + 64) * 5) (put5 w2 w.heap.size (k * 5) (.string x.name) (.slice (some ⟨gi, 0, none⟩) x.imps.length (x.imps.length + 64 : Nat)) (.slice (some ⟨gd, 0, none⟩) x.defs.length (x.defs.length + 64 : Nat)) (.int .i64 x.line) (.int .i64 x.col))) := Lib.hid HR2.out.put5
        have HF3 : Hid (Fill 5 (MdW w.heap.size) (put5 w2 w.heap.size (k * 5) (.string x.name) (.slice (some ⟨gi, 0, none⟩) x.imps.length (x.imps.length + 64 : Nat)) (.slice (some ⟨gd, 0, none⟩) x.defs.length (x.defs.length + 64 : Nat)) (.int .i64 x.line) (.int .i64 x.col)) w.heap.size L mcM (k + 1)) := Lib.hid (HF2.out.put (cs := x.cells (.slice (some ⟨gi, 0, none⟩) x.imps.length (x.imps.length + 64 : Nat)) (.slice (some ⟨gd, 0, none⟩) x.defs.length (x.defs.length + 64 : Nat))) HX.out (fun j v hj hv => put5_old hv hj) (fun _ _ h => h.keep put5_keep (Nat.le_refl _)) ⟨gi, gd, by omega, by omega, rfl, hI2.keep put5_keep (by omega), hD2.keep put5_keep (by omega)⟩ rfl (put5_new HR2.out (by omega)))
        have HB3 : Hid (Below w.heap.size w (put5 w2 w.heap.size (k * 5) (.string x.name) (.slice (some ⟨gi, 0, none⟩) x.imps.length (x.imps.length + 64 : Nat)) (.slice (some ⟨gd, 0, none⟩) x.defs.length (x.defs.length + 64 : Nat)) (.int .i64 x.line) (.int .i64 x.col))) := Lib.hid (below_keep HB2.out put5_keep (Nat.le_refl _) HR2.out.lt)
        clear hb2 hI2 hD2 HWD HRr HFr HBr HF2 HB2 n0 n1 n2 n3 n4
        go_wp2_with fail
        go_roundw
        case rel => exact ⟨k + 1, by omega, by go_num, HR3, HF3, HB3⟩
        case measure => simp [intOf]; omega
      · have HTX := Lib.hid (text_any 9 k (by decide) (by omega) wr (HP.out.later HBr.out HP.out.lt))
        unfold mkT at HTX
        go_wp2_with fail
        refine HTX.out.mono ?_
        rintro e w2 ⟨rfl, hb2⟩
        have HR2 := Lib.hid (HRr.out.later hb2)
        have HF2 := Lib.hid (Fill.keep HFr.out (later_cells hb2) (fun _ _ h => h.later hb2))
        have HB2 := Lib.hid (below_later hb2 HBr.out)
        obtain ⟨v0, r0⟩ := HR2.out.cell (i := k * 5) (by omega)
        have f0 := HR2.out.free (k * 5)
        obtain ⟨v1, r1⟩ := HR2.out.cell (i := k * 5 + 1) (by omega)
        have f1 := HR2.out.free (k * 5 + 1)
        obtain ⟨v2, r2⟩ := HR2.out.cell (i := k * 5 + 2) (by omega)
        have f2 := HR2.out.free (k * 5 + 2)
        obtain ⟨v3, r3⟩ := HR2.out.cell (i := k * 5 + 3) (by omega)
        have f3 := HR2.out.free (k * 5 + 3)
        obtain ⟨v4, r4⟩ := HR2.out.cell (i := k * 5 + 4) (by omega)
        have f4 := HR2.out.free (k * 5 + 4)
        have HR3 : Hid (RowG 88 w.heap.size ((L.length + 64) * 5) (put5 w2 w.heap.size (k * 5) (.string (txt 9 k)) (.slice none 0 0) (.slice none 0 0) (.int .i64 0) (.int .i64 0))) := Lib.hid HR2.out.put5
        have HF3 : Hid (Fill 5 (MdW w.heap.size) (put5 w2 w.heap.size (k * 5) (.string (txt 9 k)) (.slice none 0 0) (.slice none 0 0) (.int .i64 0) (.int .i64 0)) w.heap.size L mcM (k + 1)) := Lib.hid (HF2.out.putMark (by omega) (fun _ => rfl) (fun j v hj hv => put5_old hv hj) (fun _ _ h => h.keep put5_keep (Nat.le_refl _)) (put5_new HR2.out (by omega)))
        have HB3 : Hid (Below w.heap.size w (put5 w2 w.heap.size (k * 5) (.string (txt 9 k)) (.slice none 0 0) (.slice none 0 0) (.int .i64 0) (.int .i64 0))) := Lib.hid (below_keep HB2.out put5_keep (Nat.le_refl _) HR2.out.lt)
        clear hb2 HTX HRr HFr HBr HF2 HB2
        go_wp2_with fail
        go_roundw
        case rel => exact ⟨k + 1, by omega, by go_num, HR3, HF3, HB3⟩
        case measure => simp [intOf]; omega
    · obtain rfl : k = L.length + 64 := by omega
      go_wp2_with fail
      go_ret
      exact ⟨_, Nat.le_refl _, rfl, HFr.out, HBr.out⟩
end Go.Proofs.YtidholghbjljaaaGreatDoor

/- Walks of what statements lean on: the marks behind lists of modules stand yet. -/
namespace Go.Proofs.YtidholghbjljaaaGreatDoor
set_option linter.unusedSimpArgs false
set_option linter.unusedVariables false
open Go.RowKit Culp
theorem fill_at {α : Type} {sz g k n : Nat} {P : World → α → List Value → Prop} {w : World} {L : List α} {mc : Nat → List Value} {x : α} (h : Fill sz P w g L mc n) (hn : L.length ≤ n) (hx : L[k]? = some x) : ∃ cs, P w x cs ∧ ∀ j u, cs[j]? = some u → w.cell? ⟨g, k * sz + j, none⟩ = some u := by
  have := h.row
  rw [List.take_of_length_le hn] at this
  obtain ⟨cs, a, _, b⟩ := this k x hx
  exact ⟨cs, a, b⟩
set_option maxRecDepth 100000 in
set_option maxHeartbeats 6400000 in
theorem SpareImports_any (L : List Im) (g : Nat) (w : World) (hn : ImsW w g L) (hl : L.length ≤ 100000000000) (hP : Pw w) : Calls Tryz.prog 98 #[.slice (some ⟨g, 0, none⟩) L.length (L.length + 64 : Nat)] w (Makes (.bool true) w) := by
  have HN := Lib.hid hn
  have HP := Lib.hid hP
  clear hn hP
  go_enter Tryz.func98, Tryz.ntmps98
  go_wp2_with fail
  go_loopw [4] (fun i wr => ∃ k : Nat, L.length ≤ k ∧ k ≤ L.length + 64 ∧ i = .int .i64 k ∧ Hid (Below w.heap.size w wr)) (fun i _ => L.length + 64 - (intOf i).toNat)
  case atStart => exact ⟨L.length, by omega, by omega, rfl, Lib.hid (Below.refl _ _)⟩
  case round =>
    obtain ⟨k, hk0, hk, rfl, HB⟩ := hrel
    by_cases hlt : k < L.length + 64
    · have hm := Fill.mark (ImsW.later HN.out HB.out) k hk0 hlt
      have n0 : wr.cell? ⟨g, k * 5, none⟩ = some (.string (txt 9 k)) := hm 0 _ rfl
      have n1 : wr.cell? ⟨g, k * 5 + 1, none⟩ = some (.string { data := #[] }) := hm 1 _ rfl
      have n2 : wr.cell? ⟨g, k * 5 + 2, none⟩ = some (.string { data := #[] }) := hm 2 _ rfl
      have n3 : wr.cell? ⟨g, k * 5 + 3, none⟩ = some (.int .i64 0) := hm 3 _ rfl
      have n4 : wr.cell? ⟨g, k * 5 + 4, none⟩ = some (.int .i64 0) := hm 4 _ rfl
      clear hm
      have HTX := Lib.hid (fun w' (h : Below w.heap.size w w') => text_any 9 k (by decide) (by omega) w' (HP.out.later h HP.out.lt))
      unfold mkT at HTX
      generalize txt 9 k = tx at *
      go_wp2_with fail
      have hB0 : Below wr.heap.size wr (wr.alloc (.cells #[.string tx, .string { data := #[] }, .string { data := #[] }, .int .i64 0, .int .i64 0] 90)) := (Below.refl _ _).alloc (Nat.le_refl _) _
      have HB1 := Lib.hid (below_later hB0.drew HB.out)
      clear hB0
      refine wp_region_plan (S := fun w' => w'.cell? ⟨wr.heap.size, 0, none⟩ = some (.string tx) ∧ w'.cell? ⟨wr.heap.size, 1, none⟩ = some (.string { data := #[] }) ∧ w'.cell? ⟨wr.heap.size, 2, none⟩ = some (.string { data := #[] }) ∧ w'.cell? ⟨wr.heap.size, 3, none⟩ = some (.int .i64 0) ∧ w'.cell? ⟨wr.heap.size, 4, none⟩ = some (.int .i64 0))
        [(0, true), (1, true), (2, false), (3, true), (4, true), (5, true)] (by kernel_rfl) (by kernel_rfl) (by kernel_rfl) (fun _ _ _ _ _ h => h) (by refine ⟨?_, ?_, ?_, ?_, ?_⟩ <;> go_simp) ?_
      intro HS
      repeat (first | (apply wpPlan_look; rfl; rfl; (intro wq hq; (try dsimp only at hq); go_split_ands; go_simp; (try rw [if_neg (by omega)]); (try rw [if_pos (by omega)]); try with_reducible rfl); simp only [Act.put, List.setIfInBounds_toArray, List.set_cons_zero, List.set_cons_succ]) | (apply wpPlan_skip; rfl; rfl; simp only [Act.put, List.setIfInBounds_toArray, List.set_cons_zero, List.set_cons_succ]) | (apply wpPlan_pass; rfl; rfl; assumption; simp only [Act.put, List.setIfInBounds_toArray, List.set_cons_zero, List.set_cons_succ]))
      apply wpPlan_call; rfl; rfl; rfl; rfl; kernel_rfl; exact HTX.out _ HB1.out; rfl; rintro e w2 ⟨rfl, hb2⟩
      refine ⟨_, rfl, ⟨cell_later hb2 HS.1, cell_later hb2 HS.2.1, cell_later hb2 HS.2.2.1, cell_later hb2 HS.2.2.2.1, cell_later hb2 HS.2.2.2.2⟩, ?_⟩
      simp only [Act.put, List.setIfInBounds_toArray, List.set_cons_zero, List.set_cons_succ]
      repeat (first | (apply wpPlan_look; rfl; rfl; (intro wq hq; (try dsimp only at hq); go_split_ands; go_simp; (try rw [if_neg (by omega)]); (try rw [if_pos (by omega)]); try with_reducible rfl); simp only [Act.put, List.setIfInBounds_toArray, List.set_cons_zero, List.set_cons_succ]) | (apply wpPlan_skip; rfl; rfl; simp only [Act.put, List.setIfInBounds_toArray, List.set_cons_zero, List.set_cons_succ]) | (apply wpPlan_pass; rfl; rfl; assumption; simp only [Act.put, List.setIfInBounds_toArray, List.set_cons_zero, List.set_cons_succ]))
      have HB2 := Lib.hid (below_later hb2 HB1.out)
      clear hb2 HTX HB1
      apply wpPlan_done
      clear HS n0 n1 n2 n3 n4
      go_wp2_with fail
      go_roundw
      case rel => exact ⟨k + 1, by omega, by omega, by go_num, HB2⟩
      case measure => simp [intOf]; omega
    · go_wp2_with fail
      go_ret
      exact Makes.mk rfl HB.out
set_option maxRecDepth 100000 in
set_option maxHeartbeats 3200000 in
theorem SpareDef_any (x : Df) (gt : Nat) (w : World) (hn : NodesAt w gt 0 (x.tree ++ marks x.tree.length)) (hT : x.tree.length ≤ 100000000000) : Calls Tryz.prog 123 #[.agg #[.string x.name, .bool x.out, .string x.t, .slice (some ⟨gt, 0, none⟩) x.tree.length (x.tree.length + 64 : Nat), .int .i64 x.line, .int .i64 x.col]] w (Makes (.bool true) w) := by
  have HN := Lib.hid hn
  have HB0 : Hid (Below w.heap.size w (w.alloc (.cells #[.string x.name, .bool x.out, .string x.t, .slice (some ⟨gt, 0, none⟩) x.tree.length (x.tree.length + 64 : Nat), .int .i64 x.line, .int .i64 x.col] 84))) := Lib.hid ((Below.refl _ _).alloc (Nat.le_refl _) _)
  clear hn
  go_enter Tryz.func123, Tryz.ntmps123
  go_wp2_with fail
  refine (SpareNodes_any x.tree gt _ (HN.out.later HB0.out) hT).mono ?_
  rintro E w1 ⟨rfl, hb1⟩
  have HB1 := Lib.hid (below_later hb1 HB0.out)
  clear hb1
  go_wp2_with fail
  go_ret
  exact Makes.mk rfl HB1.out
set_option maxRecDepth 100000 in
set_option maxHeartbeats 6400000 in
theorem SpareDefs_any (L : List Df) (g : Nat) (w : World) (hn : DfsW w g L) (hl : L.length ≤ 100000000000) (hz : ∀ d ∈ L, d.tree.length ≤ 100000000000) (hP : Pw w) : Calls Tryz.prog 99 #[.slice (some ⟨g, 0, none⟩) L.length (L.length + 64 : Nat)] w (Makes (.bool true) w) := by
  have HN := Lib.hid hn
  have HP := Lib.hid hP
  have HZ := Lib.hid hz
  clear hz
  clear hn hP
  go_enter Tryz.func99, Tryz.ntmps99
  go_wp2_with fail
  go_loopw [4] (fun i wr => ∃ k : Nat, L.length ≤ k ∧ k ≤ L.length + 64 ∧ i = .int .i64 k ∧ Hid (Below w.heap.size w wr)) (fun i _ => L.length + 64 - (intOf i).toNat)
  case atStart => exact ⟨L.length, by omega, by omega, rfl, Lib.hid (Below.refl _ _)⟩
  case round =>
    obtain ⟨k, hk0, hk, rfl, HB⟩ := hrel
    by_cases hlt : k < L.length + 64
    · have hm := Fill.mark (DfsW.later HN.out HB.out) k hk0 hlt
      have n0 : wr.cell? ⟨g, k * 6, none⟩ = some (.string (txt 9 k)) := hm 0 _ rfl
      have n1 : wr.cell? ⟨g, k * 6 + 1, none⟩ = some (.bool false) := hm 1 _ rfl
      have n2 : wr.cell? ⟨g, k * 6 + 2, none⟩ = some (.string { data := #[] }) := hm 2 _ rfl
      have n3 : wr.cell? ⟨g, k * 6 + 3, none⟩ = some (.slice none 0 0) := hm 3 _ rfl
      have n4 : wr.cell? ⟨g, k * 6 + 4, none⟩ = some (.int .i64 0) := hm 4 _ rfl
      have n5 : wr.cell? ⟨g, k * 6 + 5, none⟩ = some (.int .i64 0) := hm 5 _ rfl
      clear hm
      have HTX := Lib.hid (fun w' (h : Below w.heap.size w w') => text_any 9 k (by decide) (by omega) w' (HP.out.later h HP.out.lt))
      unfold mkT at HTX
      generalize txt 9 k = tx at *
      go_wp2_with fail
      have hB0 : Below wr.heap.size wr (wr.alloc (.cells #[.string tx, .bool false, .string { data := #[] }, .slice none 0 0, .int .i64 0, .int .i64 0] 84)) := (Below.refl _ _).alloc (Nat.le_refl _) _
      have HB1 := Lib.hid (below_later hB0.drew HB.out)
      clear hB0
      refine wp_region_plan (S := fun w' => w'.cell? ⟨wr.heap.size, 0, none⟩ = some (.string tx) ∧ w'.cell? ⟨wr.heap.size, 1, none⟩ = some (.bool false) ∧ w'.cell? ⟨wr.heap.size, 2, none⟩ = some (.string { data := #[] }) ∧ w'.cell? ⟨wr.heap.size, 3, none⟩ = some (.slice none 0 0) ∧ w'.cell? ⟨wr.heap.size, 4, none⟩ = some (.int .i64 0) ∧ w'.cell? ⟨wr.heap.size, 5, none⟩ = some (.int .i64 0))
        [(0, true), (1, true), (2, true), (3, false), (4, true), (5, true), (6, true), (7, true), (8, true), (9, true), (10, true), (11, true)] (by kernel_rfl) (by kernel_rfl) (by kernel_rfl) (fun _ _ _ _ _ h => h) (by refine ⟨?_, ?_, ?_, ?_, ?_, ?_⟩ <;> go_simp) ?_
      intro HS
      repeat (first | (apply wpPlan_look; rfl; rfl; (intro wq hq; (try dsimp only at hq); go_split_ands; go_simp; (try rw [if_neg (by omega)]); (try rw [if_pos (by omega)]); try with_reducible rfl); simp only [Act.put, List.setIfInBounds_toArray, List.set_cons_zero, List.set_cons_succ]) | (apply wpPlan_skip; rfl; rfl; simp only [Act.put, List.setIfInBounds_toArray, List.set_cons_zero, List.set_cons_succ]) | (apply wpPlan_pass; rfl; rfl; assumption; simp only [Act.put, List.setIfInBounds_toArray, List.set_cons_zero, List.set_cons_succ]))
      apply wpPlan_call; rfl; rfl; rfl; rfl; kernel_rfl; exact HTX.out _ HB1.out; rfl; rintro e w2 ⟨rfl, hb2⟩
      refine ⟨_, rfl, ⟨cell_later hb2 HS.1, cell_later hb2 HS.2.1, cell_later hb2 HS.2.2.1, cell_later hb2 HS.2.2.2.1, cell_later hb2 HS.2.2.2.2.1, cell_later hb2 HS.2.2.2.2.2⟩, ?_⟩
      simp only [Act.put, List.setIfInBounds_toArray, List.set_cons_zero, List.set_cons_succ]
      repeat (first | (apply wpPlan_look; rfl; rfl; (intro wq hq; (try dsimp only at hq); go_split_ands; go_simp; (try rw [if_neg (by omega)]); (try rw [if_pos (by omega)]); try with_reducible rfl); simp only [Act.put, List.setIfInBounds_toArray, List.set_cons_zero, List.set_cons_succ]) | (apply wpPlan_skip; rfl; rfl; simp only [Act.put, List.setIfInBounds_toArray, List.set_cons_zero, List.set_cons_succ]) | (apply wpPlan_pass; rfl; rfl; assumption; simp only [Act.put, List.setIfInBounds_toArray, List.set_cons_zero, List.set_cons_succ]))
      have HB2 := Lib.hid (below_later hb2 HB1.out)
      clear hb2 HTX HB1
      apply wpPlan_done
      clear HS n0 n1 n2 n3 n4 n5
      go_wp2_with fail
      go_roundw
      case rel => exact ⟨k + 1, by omega, by omega, by go_num, HB2⟩
      case measure => simp [intOf]; omega
    · go_wp2_with fail
      go_loopw [6] (fun i w1 => ∃ k : Nat, k ≤ L.length ∧ i = .int .i64 k ∧ Hid (Below w.heap.size w w1)) (fun i _ => L.length - (intOf i).toNat)
      case atStart => exact ⟨0, Nat.zero_le _, rfl, HB⟩
      case round =>
        rename_i w1
        obtain ⟨k, hk, rfl, HB⟩ := hrel
        by_cases hlt : k < L.length
        · have hx : L[k]? = some L[k] := List.getElem?_eq_getElem hlt
          have HZX := Lib.hid (HZ.out _ (List.mem_of_getElem? hx))
          generalize L[k] = x at *
          have hf := DfsW.later HN.out HB.out
          obtain ⟨cs, ⟨gt, hgt, rfl, hnt⟩, hc⟩ := fill_at hf (by omega) hx
          have HT := Lib.hid hnt
          clear hnt
          have n0 := hc 0 _ rfl
          have n1 := hc 1 _ rfl
          have n2 := hc 2 _ rfl
          have n3 := hc 3 _ rfl
          have n4 := hc 4 _ rfl
          have n5 := hc 5 _ rfl
          simp only [Nat.add_zero] at n0
          clear hx hf hc
          go_wp2_with fail
          refine (SpareDef_any x gt _ HT.out HZX.out).mono ?_
          rintro E w2 ⟨rfl, hb2⟩
          have HB2 := Lib.hid (below_later hb2 HB.out)
          clear hb2
          go_wp2_with fail
          go_roundw
          case rel => exact ⟨k + 1, by omega, by go_num, HB2⟩
          case measure => simp [intOf]; omega
        · go_wp2_with fail
          go_ret
          exact Makes.mk rfl HB.out
set_option maxRecDepth 100000 in
set_option maxHeartbeats 3200000 in
theorem SpareModule_any (x : Md) (gi gd : Nat) (w : World) (hi : ImsW w gi x.imps) (hd : DfsW w gd x.defs) (hil : x.imps.length ≤ 100000000000) (hdl : x.defs.length ≤ 100000000000) (hT : ∀ d ∈ x.defs, d.tree.length ≤ 100000000000) (hP : Pw w) : Calls Tryz.prog 63 #[.agg #[.string x.name, .slice (some ⟨gi, 0, none⟩) x.imps.length (x.imps.length + 64 : Nat), .slice (some ⟨gd, 0, none⟩) x.defs.length (x.defs.length + 64 : Nat), .int .i64 x.line, .int .i64 x.col]] w (Makes (.bool true) w) := by
  have HI := Lib.hid hi
  have HD := Lib.hid hd
  have HP := Lib.hid hP
  have HT := Lib.hid hT
  have HB0 : Hid (Below w.heap.size w (w.alloc (.cells #[.string x.name, .slice (some ⟨gi, 0, none⟩) x.imps.length (x.imps.length + 64 : Nat), .slice (some ⟨gd, 0, none⟩) x.defs.length (x.defs.length + 64 : Nat), .int .i64 x.line, .int .i64 x.col] 88))) := Lib.hid ((Below.refl _ _).alloc (Nat.le_refl _) _)
  have HX0 := Lib.hid (Blk.alloc w #[.string x.name, .slice (some ⟨gi, 0, none⟩) x.imps.length (x.imps.length + 64 : Nat), .slice (some ⟨gd, 0, none⟩) x.defs.length (x.defs.length + 64 : Nat), .int .i64 x.line, .int .i64 x.col] 88)
  clear hi hd hP hT
  go_enter Tryz.func63, Tryz.ntmps63
  go_wp2_with fail
  refine (SpareImports_any x.imps gi _ (HI.out.later HB0.out) hil (HP.out.later HB0.out HP.out.lt)).mono ?_
  rintro E w1 ⟨rfl, hb1⟩
  have HB1 := Lib.hid (below_later hb1 HB0.out)
  have x2 := (HX0.out.later hb1).cell (i := 2) rfl
  clear hb1 HX0 HB0
  go_wp2_with fail
  refine (SpareDefs_any x.defs gd _ (HD.out.later HB1.out) hdl HT.out (HP.out.later HB1.out HP.out.lt)).mono ?_
  rintro E w2 ⟨rfl, hb2⟩
  have HB2 := Lib.hid (below_later hb2 HB1.out)
  clear hb2
  go_wp2_with fail
  go_ret
  exact Makes.mk rfl HB2.out
set_option maxRecDepth 100000 in
set_option maxHeartbeats 6400000 in
theorem SpareModules_any (L : List Md) (g : Nat) (w : World) (hn : MdsW w g L) (hl : L.length ≤ 100000000000) (hz : ∀ m ∈ L, m.imps.length ≤ 100000000000 ∧ m.defs.length ≤ 100000000000 ∧ ∀ d ∈ m.defs, d.tree.length ≤ 100000000000) (hP : Pw w) : Calls Tryz.prog 19 #[.slice (some ⟨g, 0, none⟩) L.length (L.length + 64 : Nat)] w (Makes (.bool true) w) := by
  have HN := Lib.hid hn
  have HP := Lib.hid hP
  have HZ := Lib.hid hz
  clear hz
  clear hn hP
  go_enter Tryz.func19, Tryz.ntmps19
  go_wp2_with fail
  go_loopw [4] (fun i wr => ∃ k : Nat, L.length ≤ k ∧ k ≤ L.length + 64 ∧ i = .int .i64 k ∧ Hid (Below w.heap.size w wr)) (fun i _ => L.length + 64 - (intOf i).toNat)
  case atStart => exact ⟨L.length, by omega, by omega, rfl, Lib.hid (Below.refl _ _)⟩
  case round =>
    obtain ⟨k, hk0, hk, rfl, HB⟩ := hrel
    by_cases hlt : k < L.length + 64
    · have hm := Fill.mark (MdsW.later HN.out HB.out) k hk0 hlt
      have n0 : wr.cell? ⟨g, k * 5, none⟩ = some (.string (txt 9 k)) := hm 0 _ rfl
      have n1 : wr.cell? ⟨g, k * 5 + 1, none⟩ = some (.slice none 0 0) := hm 1 _ rfl
      have n2 : wr.cell? ⟨g, k * 5 + 2, none⟩ = some (.slice none 0 0) := hm 2 _ rfl
      have n3 : wr.cell? ⟨g, k * 5 + 3, none⟩ = some (.int .i64 0) := hm 3 _ rfl
      have n4 : wr.cell? ⟨g, k * 5 + 4, none⟩ = some (.int .i64 0) := hm 4 _ rfl
      clear hm
      have HTX := Lib.hid (fun w' (h : Below w.heap.size w w') => text_any 9 k (by decide) (by omega) w' (HP.out.later h HP.out.lt))
      unfold mkT at HTX
      generalize txt 9 k = tx at *
      go_wp2_with fail
      have hB0 : Below wr.heap.size wr (wr.alloc (.cells #[.string tx, .slice none 0 0, .slice none 0 0, .int .i64 0, .int .i64 0] 88)) := (Below.refl _ _).alloc (Nat.le_refl _) _
      have HB1 := Lib.hid (below_later hB0.drew HB.out)
      clear hB0
      refine wp_region_plan (S := fun w' => w'.cell? ⟨wr.heap.size, 0, none⟩ = some (.string tx) ∧ w'.cell? ⟨wr.heap.size, 1, none⟩ = some (.slice none 0 0) ∧ w'.cell? ⟨wr.heap.size, 2, none⟩ = some (.slice none 0 0) ∧ w'.cell? ⟨wr.heap.size, 3, none⟩ = some (.int .i64 0) ∧ w'.cell? ⟨wr.heap.size, 4, none⟩ = some (.int .i64 0))
        [(0, true), (1, true), (2, true), (3, false), (4, true), (5, true), (6, true), (7, true), (8, true), (9, true), (10, true), (11, true), (12, true), (13, true), (14, true), (15, true), (16, true), (17, true)] (by kernel_rfl) (by kernel_rfl) (by kernel_rfl) (fun _ _ _ _ _ h => h) (by refine ⟨?_, ?_, ?_, ?_, ?_⟩ <;> go_simp) ?_
      intro HS
      repeat (first | (apply wpPlan_look; rfl; rfl; (intro wq hq; (try dsimp only at hq); go_split_ands; go_simp; (try rw [if_neg (by omega)]); (try rw [if_pos (by omega)]); try with_reducible rfl); simp only [Act.put, List.setIfInBounds_toArray, List.set_cons_zero, List.set_cons_succ]) | (apply wpPlan_skip; rfl; rfl; simp only [Act.put, List.setIfInBounds_toArray, List.set_cons_zero, List.set_cons_succ]) | (apply wpPlan_pass; rfl; rfl; assumption; simp only [Act.put, List.setIfInBounds_toArray, List.set_cons_zero, List.set_cons_succ]))
      apply wpPlan_call; rfl; rfl; rfl; rfl; kernel_rfl; exact HTX.out _ HB1.out; rfl; rintro e w2 ⟨rfl, hb2⟩
      refine ⟨_, rfl, ⟨cell_later hb2 HS.1, cell_later hb2 HS.2.1, cell_later hb2 HS.2.2.1, cell_later hb2 HS.2.2.2.1, cell_later hb2 HS.2.2.2.2⟩, ?_⟩
      simp only [Act.put, List.setIfInBounds_toArray, List.set_cons_zero, List.set_cons_succ]
      repeat (first | (apply wpPlan_look; rfl; rfl; (intro wq hq; (try dsimp only at hq); go_split_ands; go_simp; (try rw [if_neg (by omega)]); (try rw [if_pos (by omega)]); try with_reducible rfl); simp only [Act.put, List.setIfInBounds_toArray, List.set_cons_zero, List.set_cons_succ]) | (apply wpPlan_skip; rfl; rfl; simp only [Act.put, List.setIfInBounds_toArray, List.set_cons_zero, List.set_cons_succ]) | (apply wpPlan_pass; rfl; rfl; assumption; simp only [Act.put, List.setIfInBounds_toArray, List.set_cons_zero, List.set_cons_succ]))
      have HB2 := Lib.hid (below_later hb2 HB1.out)
      clear hb2 HTX HB1
      apply wpPlan_done
      clear HS n0 n1 n2 n3 n4
      go_wp2_with fail
      go_roundw
      case rel => exact ⟨k + 1, by omega, by omega, by go_num, HB2⟩
      case measure => simp [intOf]; omega
    · go_wp2_with fail
      go_loopw [6] (fun i w1 => ∃ k : Nat, k ≤ L.length ∧ i = .int .i64 k ∧ Hid (Below w.heap.size w w1)) (fun i _ => L.length - (intOf i).toNat)
      case atStart => exact ⟨0, Nat.zero_le _, rfl, HB⟩
      case round =>
        rename_i w1
        obtain ⟨k, hk, rfl, HB⟩ := hrel
        by_cases hlt : k < L.length
        · have hx : L[k]? = some L[k] := List.getElem?_eq_getElem hlt
          have HZX := Lib.hid (HZ.out _ (List.mem_of_getElem? hx))
          generalize L[k] = x at *
          have hf := MdsW.later HN.out HB.out
          obtain ⟨cs, ⟨gi, gd, hgi, hgd, rfl, hni, hnd⟩, hc⟩ := fill_at hf (by omega) hx
          have HI := Lib.hid hni
          have HD := Lib.hid hnd
          clear hni hnd
          have n0 := hc 0 _ rfl
          have n1 := hc 1 _ rfl
          have n2 := hc 2 _ rfl
          have n3 := hc 3 _ rfl
          have n4 := hc 4 _ rfl
          simp only [Nat.add_zero] at n0
          clear hx hf hc
          go_wp2_with fail
          refine (SpareModule_any x gi gd _ HI.out HD.out HZX.out.1 HZX.out.2.1 HZX.out.2.2 (HP.out.later HB.out HP.out.lt)).mono ?_
          rintro E w2 ⟨rfl, hb2⟩
          have HB2 := Lib.hid (below_later hb2 HB.out)
          clear hb2
          go_wp2_with fail
          go_roundw
          case rel => exact ⟨k + 1, by omega, by go_num, HB2⟩
          case measure => simp [intOf]; omega
        · go_wp2_with fail
          go_ret
          exact Makes.mk rfl HB.out
end Go.Proofs.YtidholghbjljaaaGreatDoor

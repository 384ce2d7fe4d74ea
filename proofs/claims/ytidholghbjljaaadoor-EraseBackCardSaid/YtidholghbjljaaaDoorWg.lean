
/- The slots, plain: each one is what it says, no two share a place. No program in sight. -/
import Derived.Test.YtidholghbjljaaaDoorWd
namespace Culp.Er
set_option linter.unusedSimpArgs false
set_option linter.unusedVariables false
open Culp
/-- What a slot is. -/
inductive SlAt (L : List Md) (s : Sl) : Prop where
  | imp (m : Nat) (md : Md) (i : Nat) (x : Im) (hm : L[m]? = some md) (hx : md.imps[i]? = some x) (h : s = ⟨(0, m, i, 0), md.name, true, i, -1, false, true⟩)
  | dfs (m : Nat) (md : Md) (i : Nat) (d : Df) (hm : L[m]? = some md) (hd : md.defs[i]? = some d) (h : s = ⟨(1, m, i, 0), md.name, false, i, -1, false, true⟩)
  | nt (m : Nat) (md : Md) (i : Nat) (d : Df) (k : Nat) (x : Nd) (hm : L[m]? = some md) (hd : md.defs[i]? = some d) (hk : d.tree[k]? = some x) (ho : one x.kind = true) (h : s = ⟨(2, m, i, k), md.name, false, i, k, false, decide (x.kind ≠ 29)⟩)
  | nu (m : Nat) (md : Md) (i : Nat) (d : Df) (k : Nat) (x : Nd) (hm : L[m]? = some md) (hd : md.defs[i]? = some d) (hk : d.tree[k]? = some x) (ho : both x.kind = true) (h : s = ⟨(3, m, i, k), md.name, false, i, k, true, true⟩)
theorem slX_at {nm : ByteArray} {m i k : Nat} {x : Nd} {s : Sl} (h : s ∈ slX nm m i k x) : (one x.kind = true ∧ s = ⟨(2, m, i, k), nm, false, i, k, false, decide (x.kind ≠ 29)⟩) ∨ (both x.kind = true ∧ s = ⟨(3, m, i, k), nm, false, i, k, true, true⟩) := by
  unfold slX at h
  rcases List.mem_append.1 h with h | h
  · split at h
    · rename_i ho
      simp only [List.mem_singleton] at h; exact .inl ⟨ho, h⟩
    · simp at h
  · split at h
    · rename_i ho
      simp only [List.mem_singleton] at h; exact .inr ⟨ho, h⟩
    · simp at h
theorem slT_at {nm : ByteArray} {m i : Nat} {s : Sl} : ∀ (k : Nat) (T : List Nd), s ∈ slT nm m i k T → ∃ j x, T[j]? = some x ∧ s ∈ slX nm m i (k + j) x
  | _, [], h => by simp [slT] at h
  | k, x :: T, h => by
    rw [slT] at h
    rcases List.mem_append.1 h with h | h
    · exact ⟨0, x, rfl, h⟩
    · obtain ⟨j, y, hj, hs⟩ := slT_at (k + 1) T h
      exact ⟨j + 1, y, by simpa using hj, by rw [show k + (j + 1) = k + 1 + j by omega]; exact hs⟩
theorem slI_at {nm : ByteArray} {m : Nat} {s : Sl} : ∀ (i : Nat) (I : List Im), s ∈ slI nm m i I → ∃ j x, I[j]? = some x ∧ s = ⟨(0, m, i + j, 0), nm, true, (i + j : Nat), -1, false, true⟩
  | _, [], h => by simp [slI] at h
  | i, x :: T, h => by
    rw [slI] at h
    rcases List.mem_cons.1 h with h | h
    · exact ⟨0, x, rfl, h⟩
    · obtain ⟨j, y, hj, hs⟩ := slI_at (i + 1) T h
      exact ⟨j + 1, y, by simpa using hj, by rw [show i + (j + 1) = i + 1 + j by omega]; exact hs⟩
theorem slD_at {nm : ByteArray} {m : Nat} {s : Sl} : ∀ (i : Nat) (D : List Df), s ∈ slD nm m i D → ∃ j d, D[j]? = some d ∧ (s = ⟨(1, m, i + j, 0), nm, false, (i + j : Nat), -1, false, true⟩ ∨ s ∈ slT nm m (i + j) 0 d.tree)
  | _, [], h => by simp [slD] at h
  | i, d :: D, h => by
    rw [slD] at h
    rcases List.mem_cons.1 h with h | h
    · exact ⟨0, d, rfl, .inl h⟩
    · rcases List.mem_append.1 h with h | h
      · exact ⟨0, d, rfl, .inr h⟩
      · obtain ⟨j, d', hj, hs⟩ := slD_at (i + 1) D h
        exact ⟨j + 1, d', by simpa using hj, by rw [show i + (j + 1) = i + 1 + j by omega]; exact hs⟩
theorem slM_at {s : Sl} : ∀ (m : Nat) (L : List Md), s ∈ slM m L → ∃ j md, L[j]? = some md ∧ (s ∈ slI md.name (m + j) 0 md.imps ∨ s ∈ slD md.name (m + j) 0 md.defs)
  | _, [], h => by simp [slM] at h
  | m, md :: L, h => by
    rw [slM] at h
    rcases List.mem_append.1 h with h | h
    · exact ⟨0, md, rfl, .inl h⟩
    · rcases List.mem_append.1 h with h | h
      · exact ⟨0, md, rfl, .inr h⟩
      · obtain ⟨j, md', hj, hs⟩ := slM_at (m + 1) L h
        exact ⟨j + 1, md', by simpa using hj, by rw [show m + (j + 1) = m + 1 + j by omega]; exact hs⟩
theorem slots_at {L : List Md} {s : Sl} (h : s ∈ slots L) : SlAt L s := by
  obtain ⟨m, md, hm, h | h⟩ := slM_at 0 L h <;> rw [Nat.zero_add] at h
  · obtain ⟨i, x, hx, hs⟩ := slI_at 0 _ h
    rw [Nat.zero_add] at hs
    exact .imp m md i x hm hx hs
  · obtain ⟨i, d, hd, hs | hs⟩ := slD_at 0 _ h <;> rw [Nat.zero_add] at hs
    · exact .dfs m md i d hm hd hs
    · obtain ⟨k, x, hk, hs⟩ := slT_at 0 _ hs
      rw [Nat.zero_add] at hs
      rcases slX_at hs with ⟨ho, hs⟩ | ⟨ho, hs⟩
      · exact .nt m md i d k x hm hd hk ho hs
      · exact .nu m md i d k x hm hd hk ho hs
/-- No two slots share a place. -/
def Dist (S : List Sl) : Prop := S.Pairwise fun a b => a.pos ≠ b.pos
theorem Dist.app {A B : List Sl} (hA : Dist A) (hB : Dist B) (h : ∀ a ∈ A, ∀ b ∈ B, a.pos ≠ b.pos) : Dist (A ++ B) := List.pairwise_append.2 ⟨hA, hB, h⟩
theorem slX_dist (nm : ByteArray) (m i k : Nat) (x : Nd) : Dist (slX nm m i k x) := by
  unfold slX Dist
  split <;> split <;> simp
theorem slT_dist (nm : ByteArray) (m i : Nat) : ∀ (k : Nat) (T : List Nd), Dist (slT nm m i k T)
  | _, [] => List.Pairwise.nil
  | k, x :: T => by
    rw [slT]
    refine (slX_dist nm m i k x).app (slT_dist nm m i (k + 1) T) fun a ha b hb => ?_
    obtain ⟨j, -, h | h⟩ := slT_pos (k + 1) T hb <;> rcases slX_pos ha with h' | h' <;> rw [h, h'] <;> intro e <;> simp only [Prod.mk.injEq] at e <;> omega
theorem slI_dist (nm : ByteArray) (m : Nat) : ∀ (i : Nat) (I : List Im), Dist (slI nm m i I)
  | _, [] => List.Pairwise.nil
  | i, x :: I => by
    rw [slI]
    refine List.Pairwise.cons (fun b hb => ?_) (slI_dist nm m (i + 1) I)
    obtain ⟨j, -, h⟩ := slI_pos (i + 1) I hb
    rw [h]; intro e; simp only [Prod.mk.injEq] at e; omega
theorem slD_dist (nm : ByteArray) (m : Nat) : ∀ (i : Nat) (D : List Df), Dist (slD nm m i D)
  | _, [] => List.Pairwise.nil
  | i, d :: D => by
    rw [slD]
    refine List.Pairwise.cons (fun b hb => ?_) ((slT_dist nm m i 0 d.tree).app (slD_dist nm m (i + 1) D) fun a ha b hb => ?_)
    · rcases List.mem_append.1 hb with hb | hb
      · obtain ⟨j, -, h | h⟩ := slT_pos 0 _ hb <;> rw [h] <;> intro e <;> simp only [Prod.mk.injEq] at e <;> omega
      · obtain ⟨j, d', -, h | ⟨k, -, h | h⟩⟩ := slD_pos (i + 1) D hb <;> rw [h] <;> intro e <;> simp only [Prod.mk.injEq] at e <;> omega
    · obtain ⟨j, -, h' | h'⟩ := slT_pos 0 _ ha <;> obtain ⟨z, d', -, h | ⟨k, -, h | h⟩⟩ := slD_pos (i + 1) D hb <;> rw [h, h'] <;> intro e <;> simp only [Prod.mk.injEq] at e <;> omega
theorem slM_dist : ∀ (m : Nat) (L : List Md), Dist (slM m L)
  | _, [] => List.Pairwise.nil
  | m, md :: L => by
    rw [slM]
    refine (slI_dist md.name m 0 md.imps).app ((slD_dist md.name m 0 md.defs).app (slM_dist (m + 1) L) fun a ha b hb => ?_) fun a ha b hb => ?_
    · obtain ⟨z, d', -, h | ⟨k, -, h | h⟩⟩ := slD_pos 0 _ ha <;> obtain ⟨j, md', -, ⟨i, -, h'⟩ | ⟨i, d, -, h' | ⟨k, -, h' | h'⟩⟩⟩ := slM_pos (m + 1) L hb <;> rw [h, h'] <;> intro e <;> simp only [Prod.mk.injEq] at e <;> omega
    · obtain ⟨z, -, h⟩ := slI_pos 0 _ ha
      rcases List.mem_append.1 hb with hb | hb
      · obtain ⟨z, d', -, h' | ⟨k, -, h' | h'⟩⟩ := slD_pos 0 _ hb <;> rw [h, h'] <;> intro e <;> simp only [Prod.mk.injEq] at e <;> omega
      · obtain ⟨j, md', -, ⟨i, -, h'⟩ | ⟨i, d, -, h' | ⟨k, -, h' | h'⟩⟩⟩ := slM_pos (m + 1) L hb <;> rw [h, h'] <;> intro e <;> simp only [Prod.mk.injEq] at e <;> omega
theorem slots_dist (L : List Md) : Dist (slots L) := slM_dist 0 L
theorem Dist.ne {S : List Sl} (h : Dist S) {i j : Nat} {a b : Sl} (hi : S[i]? = some a) (hj : S[j]? = some b) (hij : i ≠ j) : a.pos ≠ b.pos := by
  obtain ⟨hi1, hi2⟩ := List.getElem?_eq_some_iff.1 hi
  obtain ⟨hj1, hj2⟩ := List.getElem?_eq_some_iff.1 hj
  have hp := List.pairwise_iff_getElem.1 h
  rcases Nat.lt_or_gt_of_ne hij with hlt | hgt
  · have := hp i j hi1 hj1 hlt
    rw [hi2, hj2] at this; exact this
  · have := hp j i hj1 hi1 hgt
    rw [hi2, hj2] at this; exact fun e => this e.symm
/-- Other texts, the same slots. -/
theorem slT_lay (nm : ByteArray) (m i : Nat) (f : Pos → ByteArray) : ∀ (k : Nat) (T : List Nd), slT nm m i k (layT f m i k T) = slT nm m i k T
  | _, [] => rfl
  | k, x :: T => by rw [layT, slT, slT, slT_lay nm m i f (k + 1) T]; rfl
theorem slD_lay (nm : ByteArray) (m : Nat) (f : Pos → ByteArray) : ∀ (i : Nat) (D : List Df), slD nm m i (layD f m i D) = slD nm m i D
  | _, [] => rfl
  | i, x :: T => by rw [layD, slD, slD, slD_lay nm m f (i + 1) T]; show _ :: (slT nm m i 0 (layT f m i 0 x.tree) ++ _) = _; rw [slT_lay]
theorem slI_lay (nm : ByteArray) (m : Nat) (f : Pos → ByteArray) : ∀ (i : Nat) (I : List Im), slI nm m i (layI f m i I) = slI nm m i I
  | _, [] => rfl
  | i, x :: T => by rw [layI, slI, slI, slI_lay nm m f (i + 1) T]
theorem slM_lay (f : Pos → ByteArray) : ∀ (m : Nat) (L : List Md), slM m (layM f m L) = slM m L
  | _, [] => rfl
  | m, x :: L => by
    rw [layM, slM, slM, slM_lay f (m + 1) L]
    show slI x.name m 0 (layI f m 0 x.imps) ++ (slD x.name m 0 (layD f m 0 x.defs) ++ _) = _
    rw [slI_lay, slD_lay]
theorem slots_lay (f : Pos → ByteArray) (L : List Md) : slots (lay f L) = slots L := slM_lay f 0 L
/-- Two layings, one over the other. -/
theorem lay_lay (f g : Pos → ByteArray) (L : List Md) : lay f (lay g L) = lay f L := by
  apply List.ext_getElem?
  intro m
  rw [lay_at, lay_at, lay_at]
  cases L[m]? with
  | none => rfl
  | some md =>
    simp only [Option.map_some, Option.some.injEq]
    have hI : layI f m 0 (layI g m 0 md.imps) = layI f m 0 md.imps := by
      apply List.ext_getElem?
      intro i
      rw [layI_at, layI_at, layI_at]
      cases md.imps[i]? <;> rfl
    have hD : layD f m 0 (layD g m 0 md.defs) = layD f m 0 md.defs := by
      apply List.ext_getElem?
      intro i
      rw [layD_at, layD_at, layD_at]
      cases md.defs[i]? with
      | none => rfl
      | some d =>
        have hT : layT f m (0 + i) 0 (layT g m (0 + i) 0 d.tree) = layT f m (0 + i) 0 d.tree := by
          apply List.ext_getElem?
          intro k
          rw [layT_at, layT_at, layT_at]
          cases d.tree[k]? <;> rfl
        simp [layDf] at hT ⊢
        exact hT
    simp [layMd, hI, hD]
/-- What stands in a place that is one. -/
theorem note_lay (f : Pos → ByteArray) {L : List Md} {p : Pos} (h : Real L p) : note (lay f L) p = f p := by
  obtain ⟨a, m, i, k⟩ := p
  obtain ⟨md, hm, h⟩ := h
  simp only at hm h
  unfold note
  simp only [lay_at, hm, Option.map_some]
  rcases h with ⟨h0, hi, hk⟩ | ⟨d, hd, ⟨h1, hk⟩ | ⟨h2, hk⟩⟩
  · subst h0 hk
    obtain ⟨x, hx⟩ : ∃ x, md.imps[i]? = some x := ⟨_, List.getElem?_eq_getElem hi⟩
    simp [layMd, layI_at, hx, layIm]
  · subst h1 hk
    simp [layMd, layD_at, hd, layDf]
  · obtain ⟨x, hx⟩ : ∃ x, d.tree[k]? = some x := ⟨_, List.getElem?_eq_getElem hk⟩
    rcases h2 with rfl | rfl <;> simp [layMd, layD_at, hd, layDf, layT_at, hx, layX]
/-- Only what stands in places that are some counts. -/
theorem lay_congr {f g : Pos → ByteArray} {L : List Md} (h : ∀ p, Real L p → f p = g p) : lay f L = lay g L := by
  apply List.ext_getElem?
  intro m
  rw [lay_at, lay_at]
  cases hm : L[m]? with
  | none => rfl
  | some md =>
    simp only [Option.map_some, Option.some.injEq]
    have hI : layI f m 0 md.imps = layI g m 0 md.imps := by
      apply List.ext_getElem?
      intro i
      rw [layI_at, layI_at, Nat.zero_add]
      cases hi : md.imps[i]? with
      | none => rfl
      | some x =>
        have hl := (List.getElem?_eq_some_iff.1 hi).1
        simp only [Option.map_some, layIm, h (0, m, i, 0) ⟨md, hm, .inl ⟨rfl, hl, rfl⟩⟩]
    have hD : layD f m 0 md.defs = layD g m 0 md.defs := by
      apply List.ext_getElem?
      intro i
      rw [layD_at, layD_at, Nat.zero_add]
      cases hi : md.defs[i]? with
      | none => rfl
      | some d =>
        have hT : layT f m i 0 d.tree = layT g m i 0 d.tree := by
          apply List.ext_getElem?
          intro k
          rw [layT_at, layT_at, Nat.zero_add]
          cases hk : d.tree[k]? with
          | none => rfl
          | some x =>
            have hl := (List.getElem?_eq_some_iff.1 hk).1
            simp only [Option.map_some, layX, h (2, m, i, k) ⟨md, hm, .inr ⟨d, hi, .inr ⟨.inl rfl, hl⟩⟩⟩, h (3, m, i, k) ⟨md, hm, .inr ⟨d, hi, .inr ⟨.inr rfl, hl⟩⟩⟩]
        simp only [Option.map_some, layDf, hT, h (1, m, i, 0) ⟨md, hm, .inr ⟨d, hi, .inl ⟨rfl, rfl⟩⟩⟩]
    simp only [layMd, hI, hD]
end Culp.Er

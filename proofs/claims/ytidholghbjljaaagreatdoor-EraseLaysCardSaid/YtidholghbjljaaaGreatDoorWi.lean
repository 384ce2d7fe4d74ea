
/- The slots, plain: each one is what it says, no two share a place. No program in sight. -/
import Derived.Test.YtidholghbjljaaaGreatDoorWd
namespace Culp.Er
set_option linter.unusedSimpArgs false
set_option linter.unusedVariables false
open Culp
/-- What a slot is. -/
inductive SlAt (L : List Md) (s : Sl) : Prop where
  | imp (m : Nat) (md : Md) (i : Nat) (x : Im) (hm : L[m]? = some md) (hx : md.imps[i]? = some x) (h : s = ⟨(0, m, i, 0), md.name, true, i, -1, false, true⟩)
  | dfs (m : Nat) (md : Md) (i : Nat) (d : Df) (hm : L[m]? = some md) (hd : md.defs[i]? = some d) (h : s = ⟨(1, m, i, 0), md.name, false, i, -1, false, true⟩)
  | nt (m : Nat) (md : Md) (i : Nat) (d : Df) (k : Nat) (x : Nd) (hm : L[m]? = some md) (hd : md.defs[i]? = some d) (hk : d.tree[k]? = some x) (ho : one x.kind = true) (h : s = ⟨(2, m, i, k), md.name, false, i, k, false, decide (x.kind ≠ 29)⟩)
  | nu (m : Nat) (md : Md) (i : Nat) (d : Df) (k : Nat) (x : Nd) (hm : L[m]? = some md) (hd : md.defs[i]? = some d) (hk : d.tree[k]? = some x) (ho : both x.kind = true) (h : s = ⟨(3, m, i, k), md.name, false, i, k, true, true⟩)
theorem slX_at {nm : ByteArray} {m i k : Nat} {x : Nd} {s : Sl} (h : s ∈ slX nm m i k x) : (one x.kind = true ∧ s = ⟨(2, m, i, k), nm, false, i, k, false, decide (x.kind ≠ 29)⟩) ∨ (both x.kind = true ∧ s = ⟨(3, m, i, k), nm, false, i, k, true, true⟩) := by
  unfold slX at h
  rcases List.mem_append.1 h with h | h
  · split at h
    · rename_i ho
      simp only [List.mem_singleton] at h; exact .inl ⟨ho, h⟩
    · simp at h
  · split at h
    · rename_i ho
      simp only [List.mem_singleton] at h; exact .inr ⟨ho, h⟩
    · simp at h
theorem slT_at {nm : ByteArray} {m i : Nat} {s : Sl} : ∀ (k : Nat) (T : List Nd), s ∈ slT nm m i k T → ∃ j x, T[j]? = some x ∧ s ∈ slX nm m i (k + j) x
  | _, [], h => by simp [slT] at h
  | k, x :: T, h => by
    rw [slT] at h
    rcases List.mem_append.1 h with h | h
    · exact ⟨0, x, rfl, h⟩
    · obtain ⟨j, y, hj, hs⟩ := slT_at (k + 1) T h
      exact ⟨j + 1, y, by simpa using hj, by rw [show k + (j + 1) = k + 1 + j by omega]; exact hs⟩
theorem slI_at {nm : ByteArray} {m : Nat} {s : Sl} : ∀ (i : Nat) (I : List Im), s ∈ slI nm m i I → ∃ j x, I[j]? = some x ∧ s = ⟨(0, m, i + j, 0), nm, true, (i + j : Nat), -1, false, true⟩
  | _, [], h => by simp [slI] at h
  | i, x :: T, h => by
    rw [slI] at h
    rcases List.mem_cons.1 h with h | h
    · exact ⟨0, x, rfl, h⟩
    · obtain ⟨j, y, hj, hs⟩ := slI_at (i + 1) T h
      exact ⟨j + 1, y, by simpa using hj, by rw [show i + (j + 1) = i + 1 + j by omega]; exact hs⟩
theorem slD_at {nm : ByteArray} {m : Nat} {s : Sl} : ∀ (i : Nat) (D : List Df), s ∈ slD nm m i D → ∃ j d, D[j]? = some d ∧ (s = ⟨(1, m, i + j, 0), nm, false, (i + j : Nat), -1, false, true⟩ ∨ s ∈ slT nm m (i + j) 0 d.tree)
  | _, [], h => by simp [slD] at h
  | i, d :: D, h => by
    rw [slD] at h
    rcases List.mem_cons.1 h with h | h
    · exact ⟨0, d, rfl, .inl h⟩
    · rcases List.mem_append.1 h with h | h
      · exact ⟨0, d, rfl, .inr h⟩
      · obtain ⟨j, d', hj, hs⟩ := slD_at (i + 1) D h
        exact ⟨j + 1, d', by simpa using hj, by rw [show i + (j + 1) = i + 1 + j by omega]; exact hs⟩
theorem slM_at {s : Sl} : ∀ (m : Nat) (L : List Md), s ∈ slM m L → ∃ j md, L[j]? = some md ∧ (s ∈ slI md.name (m + j) 0 md.imps ∨ s ∈ slD md.name (m + j) 0 md.defs)
  | _, [], h => by simp [slM] at h
  | m, md :: L, h => by
    rw [slM] at h
    rcases List.mem_append.1 h with h | h
    · exact ⟨0, md, rfl, .inl h⟩
    · rcases List.mem_append.1 h with h | h
      · exact ⟨0, md, rfl, .inr h⟩
      · obtain ⟨j, md', hj, hs⟩ := slM_at (m + 1) L h
        exact ⟨j + 1, md', by simpa using hj, by rw [show m + (j + 1) = m + 1 + j by omega]; exact hs⟩
theorem slots_at {L : List Md} {s : Sl} (h : s ∈ slots L) : SlAt L s := by
  obtain ⟨m, md, hm, h | h⟩ := slM_at 0 L h <;> rw [Nat.zero_add] at h
  · obtain ⟨i, x, hx, hs⟩ := slI_at 0 _ h
    rw [Nat.zero_add] at hs
    exact .imp m md i x hm hx hs
  · obtain ⟨i, d, hd, hs | hs⟩ := slD_at 0 _ h <;> rw [Nat.zero_add] at hs
    · exact .dfs m md i d hm hd hs
    · obtain ⟨k, x, hk, hs⟩ := slT_at 0 _ hs
      rw [Nat.zero_add] at hs
      rcases slX_at hs with ⟨ho, hs⟩ | ⟨ho, hs⟩
      · exact .nt m md i d k x hm hd hk ho hs
      · exact .nu m md i d k x hm hd hk ho hs
/-- No two slots share a place. -/
def Dist (S : List Sl) : Prop := S.Pairwise fun a b => a.pos ≠ b.pos
theorem Dist.app {A B : List Sl} (hA : Dist A) (hB : Dist B) (h : ∀ a ∈ A, ∀ b ∈ B, a.pos ≠ b.pos) : Dist (A ++ B) := List.pairwise_append.2 ⟨hA, hB, h⟩
theorem slX_dist (nm : ByteArray) (m i k : Nat) (x : Nd) : Dist (slX nm m i k x) := by
  unfold slX Dist
  split <;> split <;> simp
theorem slT_dist (nm : ByteArray) (m i : Nat) : ∀ (k : Nat) (T : List Nd), Dist (slT nm m i k T)
  | _, [] => List.Pairwise.nil
  | k, x :: T => by
    rw [slT]
    refine (slX_dist nm m i k x).app (slT_dist nm m i (k + 1) T) fun a ha b hb => ?_
    obtain ⟨j, -, h | h⟩ := slT_pos (k + 1) T hb <;> rcases slX_pos ha with h' | h' <;> rw [h, h'] <;> intro e <;> simp only [Prod.mk.injEq] at e <;> omega
theorem slI_dist (nm : ByteArray) (m : Nat) : ∀ (i : Nat) (I : List Im), Dist (slI nm m i I)
  | _, [] => List.Pairwise.nil
  | i, x :: I => by
    rw [slI]
    refine List.Pairwise.cons (fun b hb => ?_) (slI_dist nm m (i + 1) I)
    obtain ⟨j, -, h⟩ := slI_pos (i + 1) I hb
    rw [h]; intro e; simp only [Prod.mk.injEq] at e; omega
theorem slD_dist (nm : ByteArray) (m : Nat) : ∀ (i : Nat) (D : List Df), Dist (slD nm m i D)
  | _, [] => List.Pairwise.nil
  | i, d :: D => by
    rw [slD]
    refine List.Pairwise.cons (fun b hb => ?_) ((slT_dist nm m i 0 d.tree).app (slD_dist nm m (i + 1) D) fun a ha b hb => ?_)
    · rcases List.mem_append.1 hb with hb | hb
      · obtain ⟨j, -, h | h⟩ := slT_pos 0 _ hb <;> rw [h] <;> intro e <;> simp only [Prod.mk.injEq] at e <;> omega
      · obtain ⟨j, d', -, h | ⟨k, -, h | h⟩⟩ := slD_pos (i + 1) D hb <;> rw [h] <;> intro e <;> simp only [Prod.mk.injEq] at e <;> omega
    · obtain ⟨j, -, h' | h'⟩ := slT_pos 0 _ ha <;> obtain ⟨z, d', -, h | ⟨k, -, h | h⟩⟩ := slD_pos (i + 1) D hb <;> rw [h, h'] <;> intro e <;> simp only [Prod.mk.injEq] at e <;> omega
theorem slM_dist : ∀ (m : Nat) (L : List Md), Dist (slM m L)
  | _, [] => List.Pairwise.nil
  | m, md :: L => by
    rw [slM]
    refine (slI_dist md.name m 0 md.imps).app ((slD_dist md.name m 0 md.defs).app (slM_dist (m + 1) L) fun a ha b hb => ?_) fun a ha b hb => ?_
    · obtain ⟨z, d', -, h | ⟨k, -, h | h⟩⟩ := slD_pos 0 _ ha <;> obtain ⟨j, md', -, ⟨i, -, h'⟩ | ⟨i, d, -, h' | ⟨k, -, h' | h'⟩⟩⟩ := slM_pos (m + 1) L hb <;> rw [h, h'] <;> intro e <;> simp only [Prod.mk.injEq] at e <;> omega
    · obtain ⟨z, -, h⟩ := slI_pos 0 _ ha
      rcases List.mem_append.1 hb with hb | hb
      · obtain ⟨z, d', -, h' | ⟨k, -, h' | h'⟩⟩ := slD_pos 0 _ hb <;> rw [h, h'] <;> intro e <;> simp only [Prod.mk.injEq] at e <;> omega
      · obtain ⟨j, md', -, ⟨i, -, h'⟩ | ⟨i, d, -, h' | ⟨k, -, h' | h'⟩⟩⟩ := slM_pos (m + 1) L hb <;> rw [h, h'] <;> intro e <;> simp only [Prod.mk.injEq] at e <;> omega
theorem slots_dist (L : List Md) : Dist (slots L) := slM_dist 0 L
theorem Dist.ne {S : List Sl} (h : Dist S) {i j : Nat} {a b : Sl} (hi : S[i]? = some a) (hj : S[j]? = some b) (hij : i ≠ j) : a.pos ≠ b.pos := by
  obtain ⟨hi1, hi2⟩ := List.getElem?_eq_some_iff.1 hi
  obtain ⟨hj1, hj2⟩ := List.getElem?_eq_some_iff.1 hj
  have hp := List.pairwise_iff_getElem.1 h
  rcases Nat.lt_or_gt_of_ne hij with hlt | hgt
  · have := hp i j hi1 hj1 hlt
    rw [hi2, hj2] at this; exact this
  · have := hp j i hj1 hi1 hgt
    rw [hi2, hj2] at this; exact fun e => this e.symm
/-- Other texts, the same slots. -/
theorem slT_lay (nm : ByteArray) (m i : Nat) (f : Pos → ByteArray) : ∀ (k : Nat) (T : List Nd), slT nm m i k (layT f m i k T) = slT nm m i k T
  | _, [] => rfl
  | k, x :: T => by rw [layT, slT, slT, slT_lay nm m i f (k + 1) T]; rfl
theorem slD_lay (nm : ByteArray) (m : Nat) (f : Pos → ByteArray) : ∀ (i : Nat) (D : List Df), slD nm m i (layD f m i D) = slD nm m i D
  | _, [] => rfl
  | i, x :: T => by rw [layD, slD, slD, slD_lay nm m f (i + 1) T]; show _ :: (slT nm m i 0 (layT f m i 0 x.tree) ++ _) = _; rw [slT_lay]
theorem slI_lay (nm : ByteArray) (m : Nat) (f : Pos → ByteArray) : ∀ (i : Nat) (I : List Im), slI nm m i (layI f m i I) = slI nm m i I
  | _, [] => rfl
  | i, x :: T => by rw [layI, slI, slI, slI_lay nm m f (i + 1) T]
theorem slM_lay (f : Pos → ByteArray) : ∀ (m : Nat) (L : List Md), slM m (layM f m L) = slM m L
  | _, [] => rfl
  | m, x :: L => by
    rw [layM, slM, slM, slM_lay f (m + 1) L]
    show slI x.name m 0 (layI f m 0 x.imps) ++ (slD x.name m 0 (layD f m 0 x.defs) ++ _) = _
    rw [slI_lay, slD_lay]
theorem slots_lay (f : Pos → ByteArray) (L : List Md) : slots (lay f L) = slots L := slM_lay f 0 L
/-- Two layings, one over the other. -/
theorem lay_lay (f g : Pos → ByteArray) (L : List Md) : lay f (lay g L) = lay f L := by
  apply List.ext_getElem?
  intro m
  rw [lay_at, lay_at, lay_at]
  cases L[m]? with
  | none => rfl
  | some md =>
    simp only [Option.map_some, Option.some.injEq]
    have hI : layI f m 0 (layI g m 0 md.imps) = layI f m 0 md.imps := by
      apply List.ext_getElem?
      intro i
      rw [layI_at, layI_at, layI_at]
      cases md.imps[i]? <;> rfl
    have hD : layD f m 0 (layD g m 0 md.defs) = layD f m 0 md.defs := by
      apply List.ext_getElem?
      intro i
      rw [layD_at, layD_at, layD_at]
      cases md.defs[i]? with
      | none => rfl
      | some d =>
        have hT : layT f m (0 + i) 0 (layT g m (0 + i) 0 d.tree) = layT f m (0 + i) 0 d.tree := by
          apply List.ext_getElem?
          intro k
          rw [layT_at, layT_at, layT_at]
          cases d.tree[k]? <;> rfl
        simp [layDf] at hT ⊢
        exact hT
    simp [layMd, hI, hD]
/-- What stands in a place that is one. -/
theorem note_lay (f : Pos → ByteArray) {L : List Md} {p : Pos} (h : Real L p) : note (lay f L) p = f p := by
  obtain ⟨a, m, i, k⟩ := p
  obtain ⟨md, hm, h⟩ := h
  simp only at hm h
  unfold note
  simp only [lay_at, hm, Option.map_some]
  rcases h with ⟨h0, hi, hk⟩ | ⟨d, hd, ⟨h1, hk⟩ | ⟨h2, hk⟩⟩
  · subst h0 hk
    obtain ⟨x, hx⟩ : ∃ x, md.imps[i]? = some x := ⟨_, List.getElem?_eq_getElem hi⟩
    simp [layMd, layI_at, hx, layIm]
  · subst h1 hk
    simp [layMd, layD_at, hd, layDf]
  · obtain ⟨x, hx⟩ : ∃ x, d.tree[k]? = some x := ⟨_, List.getElem?_eq_getElem hk⟩
    rcases h2 with rfl | rfl <;> simp [layMd, layD_at, hd, layDf, layT_at, hx, layX]
/-- Only what stands in places that are some counts. -/
theorem lay_congr {f g : Pos → ByteArray} {L : List Md} (h : ∀ p, Real L p → f p = g p) : lay f L = lay g L := by
  apply List.ext_getElem?
  intro m
  rw [lay_at, lay_at]
  cases hm : L[m]? with
  | none => rfl
  | some md =>
    simp only [Option.map_some, Option.some.injEq]
    have hI : layI f m 0 md.imps = layI g m 0 md.imps := by
      apply List.ext_getElem?
      intro i
      rw [layI_at, layI_at, Nat.zero_add]
      cases hi : md.imps[i]? with
      | none => rfl
      | some x =>
        have hl := (List.getElem?_eq_some_iff.1 hi).1
        simp only [Option.map_some, layIm, h (0, m, i, 0) ⟨md, hm, .inl ⟨rfl, hl, rfl⟩⟩]
    have hD : layD f m 0 md.defs = layD g m 0 md.defs := by
      apply List.ext_getElem?
      intro i
      rw [layD_at, layD_at, Nat.zero_add]
      cases hi : md.defs[i]? with
      | none => rfl
      | some d =>
        have hT : layT f m i 0 d.tree = layT g m i 0 d.tree := by
          apply List.ext_getElem?
          intro k
          rw [layT_at, layT_at, Nat.zero_add]
          cases hk : d.tree[k]? with
          | none => rfl
          | some x =>
            have hl := (List.getElem?_eq_some_iff.1 hk).1
            simp only [Option.map_some, layX, h (2, m, i, k) ⟨md, hm, .inr ⟨d, hi, .inr ⟨.inl rfl, hl⟩⟩⟩, h (3, m, i, k) ⟨md, hm, .inr ⟨d, hi, .inr ⟨.inr rfl, hl⟩⟩⟩]
        simp only [Option.map_some, layDf, hT, h (1, m, i, 0) ⟨md, hm, .inr ⟨d, hi, .inl ⟨rfl, rfl⟩⟩⟩]
    simp only [layMd, hI, hD]
end Culp.Er

/- Which texts may stand in the slots, plain: modules with other texts that may stand there are modules that may be. No program in sight. -/
namespace Culp.Er
set_option linter.unusedSimpArgs false
set_option linter.unusedVariables false
open Culp Culp.Tr Culp.Mo
theorem firstE_zero : ∀ {l : List Nat}, firstE l = 0 ↔ ∀ e ∈ l, e = 0
  | [] => by simp [firstE]
  | e :: l => by
    rw [firstE]
    split
    · rename_i h
      rw [firstE_zero]
      constructor
      · intro h2 x hx
        rcases List.mem_cons.1 hx with rfl | hx
        · exact h
        · exact h2 x hx
      · intro h2 x hx
        exact h2 x (List.mem_cons_of_mem _ hx)
    · rename_i h
      constructor
      · intro h2; exact absurd h2 h
      · intro h2; exact absurd (h2 e List.mem_cons_self) h
theorem mods_zero {L : List Md} : mods L = 0 ↔ few L = true ∧ nodesM L ≤ 4096 ∧ ∀ m ∈ L, modE m = 0 := by
  unfold mods
  constructor
  · intro h
    split at h
    · rename_i hf
      split at h
      · rename_i h0
        split at h
        · cases h
        · refine ⟨hf, by omega, fun m hm => ?_⟩
          exact firstE_zero.1 h0 _ (List.mem_map.2 ⟨m, hm, rfl⟩)
      · rename_i h0; exact absurd h h0
    · cases h
  · rintro ⟨hf, hn, hm⟩
    have h0 : firstE (L.map modE) = 0 := firstE_zero.2 fun e he => by
      obtain ⟨m, hm', rfl⟩ := List.mem_map.1 he
      exact hm m hm'
    rw [if_pos hf, if_pos h0, if_neg (by omega)]
theorem modE_zero {m : Md} : modE m = 0 ↔ headOk m = true ∧ ∀ d ∈ m.defs, (Tx.isName d.name.data.toList && Tr.note d.t.data.toList) = true ∧ (check d.tree).1 = 0 := by
  unfold modE
  constructor
  · intro h
    split at h
    · rename_i hh
      refine ⟨hh, fun d hd => ?_⟩
      have := firstE_zero.1 h _ (List.mem_map.2 ⟨d, hd, rfl⟩)
      unfold defE at this
      split at this
      · rename_i h2; exact ⟨h2, this⟩
      · cases this
    · cases h
  · rintro ⟨hh, hd⟩
    rw [if_pos hh]
    refine firstE_zero.2 fun e he => ?_
    obtain ⟨d, hd', rfl⟩ := List.mem_map.1 he
    unfold defE
    rw [if_pos (hd d hd').1]
    exact (hd d hd').2
theorem scan_all : ∀ (l : List Nd) (S : List Int) (i : Nat) (d : Option Nat), (scan l S i d).1 = 0 → ∀ x ∈ l, may x = true
  | [], _, _, _, _ => fun x hx => by simp at hx
  | y :: l, S, i, d, h => fun x hx => by
    rw [scan_cons] at h
    split at h
    · cases h
    · split at h
      · rename_i hm
        rcases List.mem_cons.1 hx with rfl | hx
        · exact hm
        · exact scan_all l _ _ _ h x hx
      · cases h
theorem scan_same : ∀ (l l' : List Nd) (S : List Int) (i : Nat) (d : Option Nat), l.map Nd.kids = l'.map Nd.kids → (∀ x ∈ l, may x = true) → (∀ x ∈ l', may x = true) → scan l S i d = scan l' S i d
  | [], [], _, _, _, _, _, _ => rfl
  | [], _ :: _, _, _, _, h, _, _ => by simp at h
  | _ :: _, [], _, _, _, h, _, _ => by simp at h
  | x :: l, y :: l', S, i, d, h, hm, hm' => by
    simp only [List.map_cons, List.cons.injEq] at h
    rw [scan_cons, scan_cons]
    cases pop S with
    | nil => rfl
    | cons c r =>
      simp only [hm x List.mem_cons_self, hm' y List.mem_cons_self, if_true]
      rw [h.1]
      exact scan_same l l' _ _ _ h.2 (fun z hz => hm z (List.mem_cons_of_mem _ hz)) (fun z hz => hm' z (List.mem_cons_of_mem _ hz))
theorem check_all {T : List Nd} (h : (check T).1 = 0) : ∀ x ∈ T, may x = true := by
  unfold check at h
  split at h
  · cases h
  · exact scan_all _ _ _ _ h
theorem check_same {T T' : List Nd} (hk : T.map Nd.kids = T'.map Nd.kids) (hm : ∀ x ∈ T, may x = true) (hm' : ∀ x ∈ T', may x = true) : check T = check T' := by
  have hl : T.length = T'.length := by have := congrArg List.length hk; simpa using this
  unfold check
  rw [hl, scan_same T T' _ _ _ hk hm hm']
/-- The texts that may stand where they stand. -/
def TxtOk (L : List Md) (f : Pos → ByteArray) : Prop := ∀ m md, L[m]? = some md → (∀ i x, md.imps[i]? = some x → Tr.note (f (0, m, i, 0)).data.toList = true) ∧ ∀ i d, md.defs[i]? = some d → Tr.note (f (1, m, i, 0)).data.toList = true ∧ ∀ k x, d.tree[k]? = some x → tOk x.kind (f (2, m, i, k)).data.toList = true ∧ uOk x.kind (f (3, m, i, k)).data.toList = true
section
variable {f g : Pos → ByteArray} {L : List Md}
theorem mem_at {α : Type} {l : List α} {x : α} : x ∈ l ↔ ∃ i : Nat, l[i]? = some x := List.mem_iff_getElem?
theorem lay_mem {x : Md} : x ∈ lay f L ↔ ∃ m md, L[m]? = some md ∧ x = layMd f m md := by
  rw [mem_at]
  constructor
  · rintro ⟨m, h⟩
    rw [lay_at] at h
    obtain ⟨md, hm, rfl⟩ := Option.map_eq_some_iff.1 h
    exact ⟨m, md, hm, rfl⟩
  · rintro ⟨m, md, hm, rfl⟩
    exact ⟨m, by rw [lay_at, hm]; rfl⟩
theorem layD_mem {m : Nat} {D : List Df} {x : Df} : x ∈ layD f m 0 D ↔ ∃ i d, D[i]? = some d ∧ x = layDf f m i d := by
  rw [mem_at]
  constructor
  · rintro ⟨i, h⟩
    rw [layD_at, Nat.zero_add] at h
    obtain ⟨d, hd, rfl⟩ := Option.map_eq_some_iff.1 h
    exact ⟨i, d, hd, rfl⟩
  · rintro ⟨i, d, hd, rfl⟩
    exact ⟨i, by rw [layD_at, hd, Nat.zero_add]; rfl⟩
theorem layI_mem {m : Nat} {I : List Im} {x : Im} : x ∈ layI f m 0 I ↔ ∃ i y, I[i]? = some y ∧ x = layIm f m i y := by
  rw [mem_at]
  constructor
  · rintro ⟨i, h⟩
    rw [layI_at, Nat.zero_add] at h
    obtain ⟨d, hd, rfl⟩ := Option.map_eq_some_iff.1 h
    exact ⟨i, d, hd, rfl⟩
  · rintro ⟨i, d, hd, rfl⟩
    exact ⟨i, by rw [layI_at, hd, Nat.zero_add]; rfl⟩
theorem layT_mem {m i : Nat} {T : List Nd} {x : Nd} : x ∈ layT f m i 0 T ↔ ∃ k y, T[k]? = some y ∧ x = layX f m i k y := by
  rw [mem_at]
  constructor
  · rintro ⟨k, h⟩
    rw [layT_at, Nat.zero_add] at h
    obtain ⟨d, hd, rfl⟩ := Option.map_eq_some_iff.1 h
    exact ⟨k, d, hd, rfl⟩
  · rintro ⟨k, d, hd, rfl⟩
    exact ⟨k, by rw [layT_at, hd, Nat.zero_add]; rfl⟩
theorem may_lay {m i k : Nat} {x : Nd} : may (layX f m i k x) = (kOk x && nOk x && sOk x.kind x.s.data.toList && tOk x.kind (f (2, m, i, k)).data.toList && uOk x.kind (f (3, m, i, k)).data.toList) := rfl
theorem few_lay : few (lay f L) = few L := by
  have hs : ∀ (m : Nat) (L : List Md), (layM f m L).all small = L.all small := by
    intro m L
    induction L generalizing m with
    | nil => rfl
    | cons x L ih =>
      rw [layM, List.all_cons, List.all_cons, ih]
      have : small (layMd f m x) = small x := by
        unfold small layMd
        simp only [layI_len, layD_len]
      rw [this]
  unfold few lay
  rw [layM_len, hs]
theorem nodes_lay : nodesM (lay f L) = nodesM L := by
  have hD : ∀ (m i : Nat) (D : List Df), nodesD (layD f m i D) = nodesD D := by
    intro m i D
    induction D generalizing i with
    | nil => rfl
    | cons x D ih =>
      have := ih (i + 1)
      unfold nodesD at this ⊢
      rw [layD, List.map_cons, List.map_cons, List.sum_cons, List.sum_cons, this]
      show (layT f m i 0 x.tree).length + _ = _
      rw [layT_len]
  have hM : ∀ (m : Nat) (L : List Md), nodesM (layM f m L) = nodesM L := by
    intro m L
    induction L generalizing m with
    | nil => rfl
    | cons x L ih =>
      have := ih (m + 1)
      unfold nodesM at this ⊢
      rw [layM, List.map_cons, List.map_cons, List.sum_cons, List.sum_cons, this]
      show nodesD (layD f m 0 x.defs) + _ = _
      rw [hD]
  exact hM 0 L
theorem kids_lay {m i : Nat} {T : List Nd} : (layT f m i 0 T).map Nd.kids = T.map Nd.kids := by
  apply List.ext_getElem?
  intro k
  rw [List.getElem?_map, List.getElem?_map, layT_at]
  cases T[k]? <;> rfl
theorem txt_ok (h : mods (lay f L) = 0) : TxtOk L f := fun m md hm => by
  have h1 := modE_zero.1 ((mods_zero.1 h).2.2 _ (lay_mem.2 ⟨m, md, hm, rfl⟩))
  refine ⟨fun i x hx => ?_, fun i d hd => ?_⟩
  · have h2 := h1.1
    unfold headOk at h2
    rw [Bool.and_eq_true] at h2
    have h3 := List.all_eq_true.1 h2.2 _ (layI_mem.2 ⟨i, x, hx, rfl⟩)
    unfold impOk at h3
    rw [Bool.and_eq_true] at h3
    exact h3.2
  · obtain ⟨h2, h3⟩ := h1.2 _ (layD_mem.2 ⟨i, d, hd, rfl⟩)
    rw [Bool.and_eq_true] at h2
    refine ⟨h2.2, fun k x hk => ?_⟩
    have h4 := check_all h3 _ (layT_mem.2 ⟨k, x, hk, rfl⟩)
    rw [may_lay, Bool.and_eq_true, Bool.and_eq_true] at h4
    exact ⟨h4.1.2, h4.2⟩
theorem mods_txt (h : mods (lay f L) = 0) (hg : TxtOk L g) : mods (lay g L) = 0 := by
  obtain ⟨h1, h2, h3⟩ := mods_zero.1 h
  rw [few_lay] at h1
  rw [nodes_lay] at h2
  refine mods_zero.2 ⟨by rw [few_lay]; exact h1, by rw [nodes_lay]; exact h2, fun x hx => ?_⟩
  obtain ⟨m, md, hm, rfl⟩ := lay_mem.1 hx
  obtain ⟨h4, h5⟩ := modE_zero.1 (h3 _ (lay_mem.2 ⟨m, md, hm, rfl⟩))
  obtain ⟨g1, g2⟩ := hg m md hm
  refine modE_zero.2 ⟨?_, fun d hd => ?_⟩
  · unfold headOk at h4 ⊢
    rw [Bool.and_eq_true] at h4 ⊢
    refine ⟨h4.1, List.all_eq_true.2 fun y hy => ?_⟩
    obtain ⟨i, x, hx, rfl⟩ := layI_mem.1 hy
    have h6 := List.all_eq_true.1 h4.2 _ (layI_mem.2 ⟨i, x, hx, rfl⟩)
    unfold impOk at h6 ⊢
    rw [Bool.and_eq_true] at h6 ⊢
    exact ⟨h6.1, g1 i x hx⟩
  · obtain ⟨i, e, he, rfl⟩ := layD_mem.1 hd
    obtain ⟨h6, h7⟩ := h5 _ (layD_mem.2 ⟨i, e, he, rfl⟩)
    obtain ⟨g3, g4⟩ := g2 i e he
    rw [Bool.and_eq_true] at h6
    refine ⟨by rw [Bool.and_eq_true]; exact ⟨h6.1, g3⟩, ?_⟩
    have ha := check_all h7
    have hb : ∀ x ∈ layT g m i 0 e.tree, may x = true := fun y hy => by
      obtain ⟨k, x, hk, rfl⟩ := layT_mem.1 hy
      have h8 := ha _ (layT_mem.2 ⟨k, x, hk, rfl⟩)
      obtain ⟨g5, g6⟩ := g4 k x hk
      rw [may_lay] at h8 ⊢
      rw [Bool.and_eq_true, Bool.and_eq_true] at h8
      rw [h8.1.1, g5, g6]; rfl
    show (check (layT g m i 0 e.tree)).1 = 0
    rw [← check_same (T := layT f m i 0 e.tree) (by rw [kids_lay, kids_lay]) ha hb]
    exact h7
/-- May this text stand in a slot? -/
def good (s : Sl) (t : ByteArray) : Bool := if s.absent = true then Tr.note t.data.toList else isTy t.data.toList
theorem txt_good (h : TxtOk L f) {s : Sl} (hs : s ∈ slots L) : good s (f s.pos) = true := by
  rcases slots_at hs with ⟨m, md, i, x, hm, hx, rfl⟩ | ⟨m, md, i, d, hm, hd, rfl⟩ | ⟨m, md, i, d, k, x, hm, hd, hk, ho, rfl⟩ | ⟨m, md, i, d, k, x, hm, hd, hk, ho, rfl⟩
  · exact (h m md hm).1 i x hx
  · exact ((h m md hm).2 i d hd).1
  · have h1 := (((h m md hm).2 i d hd).2 k x hk).1
    unfold tOk at h1
    unfold good
    simp only [one, both, Bool.or_eq_true, decide_eq_true_eq] at ho
    by_cases h29 : x.kind = 29
    · rw [if_neg (by simp [h29])]
      rw [if_neg (by omega), if_pos h29] at h1
      exact h1
    · rw [if_pos (by simp [h29])]
      rw [if_pos (by omega)] at h1
      exact h1
  · have h1 := (((h m md hm).2 i d hd).2 k x hk).2
    unfold uOk at h1
    simp only [both, Bool.or_eq_true, decide_eq_true_eq] at ho
    rw [if_pos (by omega)] at h1
    exact h1
theorem txt_upd (h : TxtOk L f) {s : Sl} {t : ByteArray} (hs : s ∈ slots L) (hg : good s t = true) : TxtOk L (upd f s.pos t) := by
  intro m md hm
  have hst := slots_at hs
  refine ⟨fun i x hx => ?_, fun i d hd => ⟨?_, fun k x hk => ⟨?_, ?_⟩⟩⟩
  · unfold upd
    split
    · rename_i e
      rcases hst with ⟨m', md', i', x', hm', hx', rfl⟩ | ⟨m', md', i', d', hm', hd', rfl⟩ | ⟨m', md', i', d', k', x', hm', hd', hk', ho', rfl⟩ | ⟨m', md', i', d', k', x', hm', hd', hk', ho', rfl⟩ <;> simp only [Prod.mk.injEq] at e <;> first | omega | exact hg
    · exact (h m md hm).1 i x hx
  · unfold upd
    split
    · rename_i e
      rcases hst with ⟨m', md', i', x', hm', hx', rfl⟩ | ⟨m', md', i', d', hm', hd', rfl⟩ | ⟨m', md', i', d', k', x', hm', hd', hk', ho', rfl⟩ | ⟨m', md', i', d', k', x', hm', hd', hk', ho', rfl⟩ <;> simp only [Prod.mk.injEq] at e <;> first | omega | exact hg
    · exact ((h m md hm).2 i d hd).1
  · unfold upd
    split
    · rename_i e
      rcases hst with ⟨m', md', i', x', hm', hx', rfl⟩ | ⟨m', md', i', d', hm', hd', rfl⟩ | ⟨m', md', i', d', k', x', hm', hd', hk', ho', rfl⟩ | ⟨m', md', i', d', k', x', hm', hd', hk', ho', rfl⟩ <;> simp only [Prod.mk.injEq] at e <;> try omega
      obtain ⟨-, rfl, rfl, rfl⟩ := e
      rw [hm] at hm'
      cases hm'
      rw [hd] at hd'
      cases hd'
      rw [hk] at hk'
      cases hk'
      simp only [one, both, Bool.or_eq_true, decide_eq_true_eq] at ho'
      unfold good at hg
      unfold tOk
      by_cases h29 : x.kind = 29
      · rw [if_neg (by simp [h29])] at hg
        rw [if_neg (by omega), if_pos h29]
        exact hg
      · rw [if_pos (by simp [h29])] at hg
        rw [if_pos (by omega)]
        exact hg
    · exact (((h m md hm).2 i d hd).2 k x hk).1
  · unfold upd
    split
    · rename_i e
      rcases hst with ⟨m', md', i', x', hm', hx', rfl⟩ | ⟨m', md', i', d', hm', hd', rfl⟩ | ⟨m', md', i', d', k', x', hm', hd', hk', ho', rfl⟩ | ⟨m', md', i', d', k', x', hm', hd', hk', ho', rfl⟩ <;> simp only [Prod.mk.injEq] at e <;> try omega
      obtain ⟨-, rfl, rfl, rfl⟩ := e
      rw [hm] at hm'
      cases hm'
      rw [hd] at hd'
      cases hd'
      rw [hk] at hk'
      cases hk'
      simp only [both, Bool.or_eq_true, decide_eq_true_eq] at ho'
      unfold uOk
      rw [if_pos (by omega)]
      exact hg
    · exact (((h m md hm).2 i d hd).2 k x hk).2
end
end Culp.Er

/- What keeping, laying and baring come to, plain. No program in sight. -/
namespace Culp.Er
set_option linter.unusedSimpArgs false
set_option linter.unusedVariables false
open Culp Culp.Tr Culp.Mo
/-- The type that is not known. -/
def dynB : ByteArray := ⟨#[63]⟩
def isW (t : ByteArray) : Bool := !decide (t = no) && !decide (t = dynB)
/-- What is laid where a text is to be laid. -/
def laid (s : Sl) (t : ByteArray) : ByteArray := if t = no ∧ s.absent = false then dynB else t
/-- One slot of keeping. -/
def stepK (keep : List Bool) (st : Nat × (Pos → ByteArray)) (s : Sl) : Nat × (Pos → ByteArray) := if isW (st.2 s.pos) = true then (st.1 + 1, if keep[st.1]? = some false then upd st.2 s.pos (laid s no) else st.2) else st
def keepAt (keep : List Bool) (S : List Sl) (f : Pos → ByteArray) (k : Nat) : Nat × (Pos → ByteArray) := (S.take k).foldl (stepK keep) (0, f)
/-- One slot of baring. -/
def known (t : ByteArray) : ByteArray := if t = no then dynB else t
def stepB (st : List ByteArray × (Pos → ByteArray)) (s : Sl) : List ByteArray × (Pos → ByteArray) := (st.1 ++ [known (st.2 s.pos)], upd st.2 s.pos no)
def bareAt (S : List Sl) (f : Pos → ByteArray) (k : Nat) : List ByteArray × (Pos → ByteArray) := (S.take k).foldl stepB ([], f)
section
variable {keep : List Bool} {S : List Sl} {f g : Pos → ByteArray} {k : Nat} {s : Sl}
theorem take_step {α β : Type} {F : β → α → β} {b : β} {l : List α} {k : Nat} {x : α} (h : l[k]? = some x) : (l.take (k + 1)).foldl F b = F ((l.take k).foldl F b) x := by
  rw [List.take_add_one, h, List.foldl_append]; rfl
theorem keep_step (h : S[k]? = some s) : keepAt keep S f (k + 1) = stepK keep (keepAt keep S f k) s := take_step h
theorem bare_step (h : S[k]? = some s) : bareAt S f (k + 1) = stepB (bareAt S f k) s := take_step h
theorem upd_same {p : Pos} {t : ByteArray} : upd f p t p = t := by simp [upd]
theorem upd_other {p q : Pos} {t : ByteArray} (h : q ≠ p) : upd f p t q = f q := by simp [upd, h]
/-- Ahead of its round a slot's text is as it was. -/
theorem keep_old (hd : Dist S) (h : S[k]? = some s) : ∀ j, j ≤ k → (keepAt keep S f j).2 s.pos = f s.pos
  | 0, _ => rfl
  | j + 1, hj => by
    have hjl : j < S.length := by have := (List.getElem?_eq_some_iff.1 h).1; omega
    obtain ⟨a, ha⟩ : ∃ a, S[j]? = some a := ⟨_, List.getElem?_eq_getElem hjl⟩
    have ih := keep_old hd h j (by omega)
    rw [keep_step ha]
    unfold stepK
    split
    · split
      · exact (upd_other (hd.ne h ha (by omega))).trans (ih)
      · exact ih
    · exact ih
theorem bare_old (hd : Dist S) (h : S[k]? = some s) : ∀ j, j ≤ k → (bareAt S f j).2 s.pos = f s.pos
  | 0, _ => rfl
  | j + 1, hj => by
    have hjl : j < S.length := by have := (List.getElem?_eq_some_iff.1 h).1; omega
    obtain ⟨a, ha⟩ : ∃ a, S[j]? = some a := ⟨_, List.getElem?_eq_getElem hjl⟩
    rw [bare_step ha]
    unfold stepB
    exact (upd_other (hd.ne h ha (by omega))).trans (bare_old hd h j (by omega))
/-- Behind its round it stays. -/
theorem keep_new (hd : Dist S) (h : S[k]? = some s) : ∀ j, k < j → j ≤ S.length → (keepAt keep S f j).2 s.pos = (keepAt keep S f (k + 1)).2 s.pos
  | 0, hj, _ => by omega
  | j + 1, hj, hl => by
    by_cases e : j = k
    · rw [e]
    · obtain ⟨a, ha⟩ : ∃ a, S[j]? = some a := ⟨_, List.getElem?_eq_getElem (by omega)⟩
      have ih := keep_new hd h j (by omega) (by omega)
      rw [keep_step ha]
      unfold stepK
      split
      · split
        · exact (upd_other (hd.ne h ha (by omega))).trans (ih)
        · exact ih
      · exact ih
theorem bare_new (hd : Dist S) (h : S[k]? = some s) : ∀ j, k < j → j ≤ S.length → (bareAt S f j).2 s.pos = no
  | 0, hj, _ => by omega
  | j + 1, hj, hl => by
    obtain ⟨a, ha⟩ : ∃ a, S[j]? = some a := ⟨_, List.getElem?_eq_getElem (by omega)⟩
    rw [bare_step ha]
    unfold stepB
    by_cases e : j = k
    · subst e
      rw [h] at ha
      cases ha
      exact upd_same
    · exact (upd_other (hd.ne h ha (by omega))).trans (bare_new hd h j (by omega) (by omega))
/-- What a slot has become. -/
theorem keep_done (hd : Dist S) (h : S[k]? = some s) : (keepAt keep S f S.length).2 s.pos = if isW (f s.pos) = true ∧ keep[(keepAt keep S f k).1]? = some false then laid s no else f s.pos := by
  rw [keep_new hd h S.length (List.getElem?_eq_some_iff.1 h).1 (Nat.le_refl _), keep_step h]
  unfold stepK
  rw [keep_old hd h k (Nat.le_refl _)]
  by_cases hw : isW (f s.pos) = true
  · by_cases hk : keep[(keepAt keep S f k).1]? = some false
    · simp only [hw, hk, if_true, and_self]; exact upd_same
    · simp only [hw, hk, if_true, and_false, if_false]; exact keep_old hd h k (Nat.le_refl _)
  · simp only [hw, false_and, if_false]; exact keep_old hd h k (Nat.le_refl _)
theorem keep_off {p : Pos} (h : ∀ s ∈ S, s.pos ≠ p) : ∀ k, (keepAt keep S f k).2 p = f p
  | 0 => rfl
  | k + 1 => by
    cases ha : S[k]? with
    | none =>
      have hl : S.length ≤ k := List.getElem?_eq_none_iff.1 ha
      have ih := keep_off h k
      unfold keepAt at ih ⊢
      rw [List.take_of_length_le (by omega)] at ih ⊢
      exact ih
    | some a =>
      have ih := keep_off h k
      rw [keep_step ha]
      unfold stepK
      split
      · split
        · exact (upd_other (fun e => h a (List.mem_of_getElem? ha) e.symm)).trans (ih)
        · exact ih
      · exact ih
theorem bare_off {p : Pos} (h : ∀ s ∈ S, s.pos ≠ p) : ∀ k, (bareAt S f k).2 p = f p
  | 0 => rfl
  | k + 1 => by
    cases ha : S[k]? with
    | none =>
      have hl : S.length ≤ k := List.getElem?_eq_none_iff.1 ha
      have ih := bare_off h k
      unfold bareAt at ih ⊢
      rw [List.take_of_length_le (by omega)] at ih ⊢
      exact ih
    | some a =>
      have ih := bare_off h k
      rw [bare_step ha]
      unfold stepB
      exact (upd_other (fun e => h a (List.mem_of_getElem? ha) e.symm)).trans (ih)
theorem bare_notes (hd : Dist S) : ∀ k, k ≤ S.length → (bareAt S f k).1 = (S.take k).map fun s => known (f s.pos)
  | 0, _ => rfl
  | k + 1, hk => by
    obtain ⟨a, ha⟩ : ∃ a, S[k]? = some a := ⟨_, List.getElem?_eq_getElem (by omega)⟩
    rw [bare_step ha, List.take_add_one, ha, List.map_append, ← bare_notes hd k (by omega)]
    unfold stepB
    rw [bare_old hd ha k (Nat.le_refl _)]
    rfl
end
end Culp.Er

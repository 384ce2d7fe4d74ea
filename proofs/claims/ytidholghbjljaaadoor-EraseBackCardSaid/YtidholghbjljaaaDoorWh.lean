
/- Which texts may stand in the slots, plain: modules with other texts that may stand there are modules that may be. No program in sight. -/
import Derived.Test.YtidholghbjljaaaDoorWg
namespace Culp.Er
set_option linter.unusedSimpArgs false
set_option linter.unusedVariables false
open Culp Culp.Tr Culp.Mo
theorem firstE_zero : ∀ {l : List Nat}, firstE l = 0 ↔ ∀ e ∈ l, e = 0
  | [] => by simp [firstE]
  | e :: l => by
    rw [firstE]
    split
    · rename_i h
      rw [firstE_zero]
      constructor
      · intro h2 x hx
        rcases List.mem_cons.1 hx with rfl | hx
        · exact h
        · exact h2 x hx
      · intro h2 x hx
        exact h2 x (List.mem_cons_of_mem _ hx)
    · rename_i h
      constructor
      · intro h2; exact absurd h2 h
      · intro h2; exact absurd (h2 e List.mem_cons_self) h
theorem mods_zero {L : List Md} : mods L = 0 ↔ few L = true ∧ nodesM L ≤ 4096 ∧ ∀ m ∈ L, modE m = 0 := by
  unfold mods
  constructor
  · intro h
    split at h
    · rename_i hf
      split at h
      · rename_i h0
        split at h
        · cases h
        · refine ⟨hf, by omega, fun m hm => ?_⟩
          exact firstE_zero.1 h0 _ (List.mem_map.2 ⟨m, hm, rfl⟩)
      · rename_i h0; exact absurd h h0
    · cases h
  · rintro ⟨hf, hn, hm⟩
    have h0 : firstE (L.map modE) = 0 := firstE_zero.2 fun e he => by
      obtain ⟨m, hm', rfl⟩ := List.mem_map.1 he
      exact hm m hm'
    rw [if_pos hf, if_pos h0, if_neg (by omega)]
theorem modE_zero {m : Md} : modE m = 0 ↔ headOk m = true ∧ ∀ d ∈ m.defs, (Tx.isName d.name.data.toList && Tr.note d.t.data.toList) = true ∧ (check d.tree).1 = 0 := by
  unfold modE
  constructor
  · intro h
    split at h
    · rename_i hh
      refine ⟨hh, fun d hd => ?_⟩
      have := firstE_zero.1 h _ (List.mem_map.2 ⟨d, hd, rfl⟩)
      unfold defE at this
      split at this
      · rename_i h2; exact ⟨h2, this⟩
      · cases this
    · cases h
  · rintro ⟨hh, hd⟩
    rw [if_pos hh]
    refine firstE_zero.2 fun e he => ?_
    obtain ⟨d, hd', rfl⟩ := List.mem_map.1 he
    unfold defE
    rw [if_pos (hd d hd').1]
    exact (hd d hd').2
theorem scan_all : ∀ (l : List Nd) (S : List Int) (i : Nat) (d : Option Nat), (scan l S i d).1 = 0 → ∀ x ∈ l, may x = true
  | [], _, _, _, _ => fun x hx => by simp at hx
  | y :: l, S, i, d, h => fun x hx => by
    rw [scan_cons] at h
    split at h
    · cases h
    · split at h
      · rename_i hm
        rcases List.mem_cons.1 hx with rfl | hx
        · exact hm
        · exact scan_all l _ _ _ h x hx
      · cases h
theorem scan_same : ∀ (l l' : List Nd) (S : List Int) (i : Nat) (d : Option Nat), l.map Nd.kids = l'.map Nd.kids → (∀ x ∈ l, may x = true) → (∀ x ∈ l', may x = true) → scan l S i d = scan l' S i d
  | [], [], _, _, _, _, _, _ => rfl
  | [], _ :: _, _, _, _, h, _, _ => by simp at h
  | _ :: _, [], _, _, _, h, _, _ => by simp at h
  | x :: l, y :: l', S, i, d, h, hm, hm' => by
    simp only [List.map_cons, List.cons.injEq] at h
    rw [scan_cons, scan_cons]
    cases pop S with
    | nil => rfl
    | cons c r =>
      simp only [hm x List.mem_cons_self, hm' y List.mem_cons_self, if_true]
      rw [h.1]
      exact scan_same l l' _ _ _ h.2 (fun z hz => hm z (List.mem_cons_of_mem _ hz)) (fun z hz => hm' z (List.mem_cons_of_mem _ hz))
theorem check_all {T : List Nd} (h : (check T).1 = 0) : ∀ x ∈ T, may x = true := by
  unfold check at h
  split at h
  · cases h
  · exact scan_all _ _ _ _ h
theorem check_same {T T' : List Nd} (hk : T.map Nd.kids = T'.map Nd.kids) (hm : ∀ x ∈ T, may x = true) (hm' : ∀ x ∈ T', may x = true) : check T = check T' := by
  have hl : T.length = T'.length := by have := congrArg List.length hk; simpa using this
  unfold check
  rw [hl, scan_same T T' _ _ _ hk hm hm']
/-- The texts that may stand where they stand. -/
def TxtOk (L : List Md) (f : Pos → ByteArray) : Prop := ∀ m md, L[m]? = some md → (∀ i x, md.imps[i]? = some x → Tr.note (f (0, m, i, 0)).data.toList = true) ∧ ∀ i d, md.defs[i]? = some d → Tr.note (f (1, m, i, 0)).data.toList = true ∧ ∀ k x, d.tree[k]? = some x → tOk x.kind (f (2, m, i, k)).data.toList = true ∧ uOk x.kind (f (3, m, i, k)).data.toList = true
section
variable {f g : Pos → ByteArray} {L : List Md}
theorem mem_at {α : Type} {l : List α} {x : α} : x ∈ l ↔ ∃ i : Nat, l[i]? = some x := List.mem_iff_getElem?
theorem lay_mem {x : Md} : x ∈ lay f L ↔ ∃ m md, L[m]? = some md ∧ x = layMd f m md := by
  rw [mem_at]
  constructor
  · rintro ⟨m, h⟩
    rw [lay_at] at h
    obtain ⟨md, hm, rfl⟩ := Option.map_eq_some_iff.1 h
    exact ⟨m, md, hm, rfl⟩
  · rintro ⟨m, md, hm, rfl⟩
    exact ⟨m, by rw [lay_at, hm]; rfl⟩
theorem layD_mem {m : Nat} {D : List Df} {x : Df} : x ∈ layD f m 0 D ↔ ∃ i d, D[i]? = some d ∧ x = layDf f m i d := by
  rw [mem_at]
  constructor
  · rintro ⟨i, h⟩
    rw [layD_at, Nat.zero_add] at h
    obtain ⟨d, hd, rfl⟩ := Option.map_eq_some_iff.1 h
    exact ⟨i, d, hd, rfl⟩
  · rintro ⟨i, d, hd, rfl⟩
    exact ⟨i, by rw [layD_at, hd, Nat.zero_add]; rfl⟩
theorem layI_mem {m : Nat} {I : List Im} {x : Im} : x ∈ layI f m 0 I ↔ ∃ i y, I[i]? = some y ∧ x = layIm f m i y := by
  rw [mem_at]
  constructor
  · rintro ⟨i, h⟩
    rw [layI_at, Nat.zero_add] at h
    obtain ⟨d, hd, rfl⟩ := Option.map_eq_some_iff.1 h
    exact ⟨i, d, hd, rfl⟩
  · rintro ⟨i, d, hd, rfl⟩
    exact ⟨i, by rw [layI_at, hd, Nat.zero_add]; rfl⟩
theorem layT_mem {m i : Nat} {T : List Nd} {x : Nd} : x ∈ layT f m i 0 T ↔ ∃ k y, T[k]? = some y ∧ x = layX f m i k y := by
  rw [mem_at]
  constructor
  · rintro ⟨k, h⟩
    rw [layT_at, Nat.zero_add] at h
    obtain ⟨d, hd, rfl⟩ := Option.map_eq_some_iff.1 h
    exact ⟨k, d, hd, rfl⟩
  · rintro ⟨k, d, hd, rfl⟩
    exact ⟨k, by rw [layT_at, hd, Nat.zero_add]; rfl⟩
theorem may_lay {m i k : Nat} {x : Nd} : may (layX f m i k x) = (kOk x && nOk x && sOk x.kind x.s.data.toList && tOk x.kind (f (2, m, i, k)).data.toList && uOk x.kind (f (3, m, i, k)).data.toList) := rfl
theorem few_lay : few (lay f L) = few L := by
  have hs : ∀ (m : Nat) (L : List Md), (layM f m L).all small = L.all small := by
    intro m L
    induction L generalizing m with
    | nil => rfl
    | cons x L ih =>
      rw [layM, List.all_cons, List.all_cons, ih]
      have : small (layMd f m x) = small x := by
        unfold small layMd
        simp only [layI_len, layD_len]
      rw [this]
  unfold few lay
  rw [layM_len, hs]
theorem nodes_lay : nodesM (lay f L) = nodesM L := by
  have hD : ∀ (m i : Nat) (D : List Df), nodesD (layD f m i D) = nodesD D := by
    intro m i D
    induction D generalizing i with
    | nil => rfl
    | cons x D ih =>
      have := ih (i + 1)
      unfold nodesD at this ⊢
      rw [layD, List.map_cons, List.map_cons, List.sum_cons, List.sum_cons, this]
      show (layT f m i 0 x.tree).length + _ = _
      rw [layT_len]
  have hM : ∀ (m : Nat) (L : List Md), nodesM (layM f m L) = nodesM L := by
    intro m L
    induction L generalizing m with
    | nil => rfl
    | cons x L ih =>
      have := ih (m + 1)
      unfold nodesM at this ⊢
      rw [layM, List.map_cons, List.map_cons, List.sum_cons, List.sum_cons, this]
      show nodesD (layD f m 0 x.defs) + _ = _
      rw [hD]
  exact hM 0 L
theorem kids_lay {m i : Nat} {T : List Nd} : (layT f m i 0 T).map Nd.kids = T.map Nd.kids := by
  apply List.ext_getElem?
  intro k
  rw [List.getElem?_map, List.getElem?_map, layT_at]
  cases T[k]? <;> rfl
theorem txt_ok (h : mods (lay f L) = 0) : TxtOk L f := fun m md hm => by
  have h1 := modE_zero.1 ((mods_zero.1 h).2.2 _ (lay_mem.2 ⟨m, md, hm, rfl⟩))
  refine ⟨fun i x hx => ?_, fun i d hd => ?_⟩
  · have h2 := h1.1
    unfold headOk at h2
    rw [Bool.and_eq_true] at h2
    have h3 := List.all_eq_true.1 h2.2 _ (layI_mem.2 ⟨i, x, hx, rfl⟩)
    unfold impOk at h3
    rw [Bool.and_eq_true] at h3
    exact h3.2
  · obtain ⟨h2, h3⟩ := h1.2 _ (layD_mem.2 ⟨i, d, hd, rfl⟩)
    rw [Bool.and_eq_true] at h2
    refine ⟨h2.2, fun k x hk => ?_⟩
    have h4 := check_all h3 _ (layT_mem.2 ⟨k, x, hk, rfl⟩)
    rw [may_lay, Bool.and_eq_true, Bool.and_eq_true] at h4
    exact ⟨h4.1.2, h4.2⟩
theorem mods_txt (h : mods (lay f L) = 0) (hg : TxtOk L g) : mods (lay g L) = 0 := by
  obtain ⟨h1, h2, h3⟩ := mods_zero.1 h
  rw [few_lay] at h1
  rw [nodes_lay] at h2
  refine mods_zero.2 ⟨by rw [few_lay]; exact h1, by rw [nodes_lay]; exact h2, fun x hx => ?_⟩
  obtain ⟨m, md, hm, rfl⟩ := lay_mem.1 hx
  obtain ⟨h4, h5⟩ := modE_zero.1 (h3 _ (lay_mem.2 ⟨m, md, hm, rfl⟩))
  obtain ⟨g1, g2⟩ := hg m md hm
  refine modE_zero.2 ⟨?_, fun d hd => ?_⟩
  · unfold headOk at h4 ⊢
    rw [Bool.and_eq_true] at h4 ⊢
    refine ⟨h4.1, List.all_eq_true.2 fun y hy => ?_⟩
    obtain ⟨i, x, hx, rfl⟩ := layI_mem.1 hy
    have h6 := List.all_eq_true.1 h4.2 _ (layI_mem.2 ⟨i, x, hx, rfl⟩)
    unfold impOk at h6 ⊢
    rw [Bool.and_eq_true] at h6 ⊢
    exact ⟨h6.1, g1 i x hx⟩
  · obtain ⟨i, e, he, rfl⟩ := layD_mem.1 hd
    obtain ⟨h6, h7⟩ := h5 _ (layD_mem.2 ⟨i, e, he, rfl⟩)
    obtain ⟨g3, g4⟩ := g2 i e he
    rw [Bool.and_eq_true] at h6
    refine ⟨by rw [Bool.and_eq_true]; exact ⟨h6.1, g3⟩, ?_⟩
    have ha := check_all h7
    have hb : ∀ x ∈ layT g m i 0 e.tree, may x = true := fun y hy => by
      obtain ⟨k, x, hk, rfl⟩ := layT_mem.1 hy
      have h8 := ha _ (layT_mem.2 ⟨k, x, hk, rfl⟩)
      obtain ⟨g5, g6⟩ := g4 k x hk
      rw [may_lay] at h8 ⊢
      rw [Bool.and_eq_true, Bool.and_eq_true] at h8
      rw [h8.1.1, g5, g6]; rfl
    show (check (layT g m i 0 e.tree)).1 = 0
    rw [← check_same (T := layT f m i 0 e.tree) (by rw [kids_lay, kids_lay]) ha hb]
    exact h7
/-- May this text stand in a slot? -/
def good (s : Sl) (t : ByteArray) : Bool := if s.absent = true then Tr.note t.data.toList else isTy t.data.toList
theorem txt_good (h : TxtOk L f) {s : Sl} (hs : s ∈ slots L) : good s (f s.pos) = true := by
  rcases slots_at hs with ⟨m, md, i, x, hm, hx, rfl⟩ | ⟨m, md, i, d, hm, hd, rfl⟩ | ⟨m, md, i, d, k, x, hm, hd, hk, ho, rfl⟩ | ⟨m, md, i, d, k, x, hm, hd, hk, ho, rfl⟩
  · exact (h m md hm).1 i x hx
  · exact ((h m md hm).2 i d hd).1
  · have h1 := (((h m md hm).2 i d hd).2 k x hk).1
    unfold tOk at h1
    unfold good
    simp only [one, both, Bool.or_eq_true, decide_eq_true_eq] at ho
    by_cases h29 : x.kind = 29
    · rw [if_neg (by simp [h29])]
      rw [if_neg (by omega), if_pos h29] at h1
      exact h1
    · rw [if_pos (by simp [h29])]
      rw [if_pos (by omega)] at h1
      exact h1
  · have h1 := (((h m md hm).2 i d hd).2 k x hk).2
    unfold uOk at h1
    simp only [both, Bool.or_eq_true, decide_eq_true_eq] at ho
    rw [if_pos (by omega)] at h1
    exact h1
theorem txt_upd (h : TxtOk L f) {s : Sl} {t : ByteArray} (hs : s ∈ slots L) (hg : good s t = true) : TxtOk L (upd f s.pos t) := by
  intro m md hm
  have hst := slots_at hs
  refine ⟨fun i x hx => ?_, fun i d hd => ⟨?_, fun k x hk => ⟨?_, ?_⟩⟩⟩
  · unfold upd
    split
    · rename_i e
      rcases hst with ⟨m', md', i', x', hm', hx', rfl⟩ | ⟨m', md', i', d', hm', hd', rfl⟩ | ⟨m', md', i', d', k', x', hm', hd', hk', ho', rfl⟩ | ⟨m', md', i', d', k', x', hm', hd', hk', ho', rfl⟩ <;> simp only [Prod.mk.injEq] at e <;> first | omega | exact hg
    · exact (h m md hm).1 i x hx
  · unfold upd
    split
    · rename_i e
      rcases hst with ⟨m', md', i', x', hm', hx', rfl⟩ | ⟨m', md', i', d', hm', hd', rfl⟩ | ⟨m', md', i', d', k', x', hm', hd', hk', ho', rfl⟩ | ⟨m', md', i', d', k', x', hm', hd', hk', ho', rfl⟩ <;> simp only [Prod.mk.injEq] at e <;> first | omega | exact hg
    · exact ((h m md hm).2 i d hd).1
  · unfold upd
    split
    · rename_i e
      rcases hst with ⟨m', md', i', x', hm', hx', rfl⟩ | ⟨m', md', i', d', hm', hd', rfl⟩ | ⟨m', md', i', d', k', x', hm', hd', hk', ho', rfl⟩ | ⟨m', md', i', d', k', x', hm', hd', hk', ho', rfl⟩ <;> simp only [Prod.mk.injEq] at e <;> try omega
      obtain ⟨-, rfl, rfl, rfl⟩ := e
      rw [hm] at hm'
      cases hm'
      rw [hd] at hd'
      cases hd'
      rw [hk] at hk'
      cases hk'
      simp only [one, both, Bool.or_eq_true, decide_eq_true_eq] at ho'
      unfold good at hg
      unfold tOk
      by_cases h29 : x.kind = 29
      · rw [if_neg (by simp [h29])] at hg
        rw [if_neg (by omega), if_pos h29]
        exact hg
      · rw [if_pos (by simp [h29])] at hg
        rw [if_pos (by omega)]
        exact hg
    · exact (((h m md hm).2 i d hd).2 k x hk).1
  · unfold upd
    split
    · rename_i e
      rcases hst with ⟨m', md', i', x', hm', hx', rfl⟩ | ⟨m', md', i', d', hm', hd', rfl⟩ | ⟨m', md', i', d', k', x', hm', hd', hk', ho', rfl⟩ | ⟨m', md', i', d', k', x', hm', hd', hk', ho', rfl⟩ <;> simp only [Prod.mk.injEq] at e <;> try omega
      obtain ⟨-, rfl, rfl, rfl⟩ := e
      rw [hm] at hm'
      cases hm'
      rw [hd] at hd'
      cases hd'
      rw [hk] at hk'
      cases hk'
      simp only [both, Bool.or_eq_true, decide_eq_true_eq] at ho'
      unfold uOk
      rw [if_pos (by omega)]
      exact hg
    · exact (((h m md hm).2 i d hd).2 k x hk).2
end
end Culp.Er

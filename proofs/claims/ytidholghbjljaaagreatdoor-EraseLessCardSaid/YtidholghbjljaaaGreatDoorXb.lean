
/- What follows of keeping and laying, plain. No program in sight. -/
import Derived.Test.YtidholghbjljaaaGreatDoorWy
namespace Culp.Er
set_option linter.unusedSimpArgs false
set_option linter.unusedVariables false
open Culp Culp.Tr Culp.Mo
theorem prec_self : ∀ s : Ty, prec s s = true := by
  intro s
  induction s <;> simp_all [prec]
theorem strI {s t : Ty} (h : s.str = t.str) : s = t := enc_inj (by rw [← str_list s, h, str_list])
theorem prec_dyn (t : Ty) : prec t .dyn = true := by cases t <;> rfl
theorem alike_self (a : Md) : alikeM a a := ⟨rfl, rfl, rfl, fun i x y h1 h2 => by rw [h1] at h2; cases h2; exact ⟨rfl, rfl, rfl⟩, fun i x y h1 h2 => by
  rw [h1] at h2
  cases h2
  exact ⟨rfl, rfl, rfl, fun i x y h1 h2 => by rw [h1] at h2; cases h2; exact ⟨rfl, rfl, rfl, rfl, rfl, rfl⟩⟩⟩
theorem alike_refl (A : List Md) : alikeAll A A := ⟨rfl, fun i a b h1 h2 => by rw [h1] at h2; cases h2; exact alike_self a⟩
section
variable {L : List Md} {f g : Pos → ByteArray} {keep : List Bool} {s : Sl}
/-- Only the slots' texts differ. -/
def OffSlots (L : List Md) (f g : Pos → ByteArray) : Prop := ∀ p, Real L p → (∀ s ∈ slots L, s.pos ≠ p) → f p = g p
theorem bare_same (h : OffSlots L f g) : bareL (lay f L) = bareL (lay g L) := by
  unfold bareL
  rw [slots_lay, slots_lay, lay_lay, lay_lay]
  refine lay_congr fun p hp => ?_
  by_cases hs : ∀ s ∈ slots L, s.pos ≠ p
  · rw [bare_off hs, bare_off hs, note_lay f hp, note_lay g hp]
    exact h p hp hs
  · simp only [ne_eq, Classical.not_forall, Decidable.not_not] at hs
    obtain ⟨s, hs, rfl⟩ := hs
    obtain ⟨k, hk⟩ := mem_at.1 hs
    have hl := (List.getElem?_eq_some_iff.1 hk).1
    rw [bare_new (slots_dist L) hk _ hl (Nat.le_refl _), bare_new (slots_dist L) hk _ hl (Nat.le_refl _)]
theorem less_lay (h1 : mods (lay f L) = 0) (h2 : mods (lay g L) = 0) (ho : OffSlots L f g) (h : ∀ s ∈ slots L, known (g s.pos) = known (f s.pos) ∨ known (g s.pos) = dynB) : lessP (lay f L) (lay g L) := by
  refine ⟨h1, h2, by rw [bare_same ho]; exact alike_refl _, fun i s s' hs hs' T T' hT hT' => ?_⟩
  rw [slots_lay] at hs hs'
  rw [hs] at hs'
  cases hs'
  have hr := slots_real (List.mem_of_getElem? hs)
  rw [note_lay f hr] at hT
  rw [note_lay g hr] at hT'
  rcases h s (List.mem_of_getElem? hs) with e | e
  · rw [e, hT] at hT'
    rw [strI hT']
    exact prec_self _
  · rw [e] at hT'
    have : T' = .dyn := (strI (s := .dyn) hT').symm
    rw [this]; exact prec_dyn T
theorem good_blank : good s (laid s no) = true := by
  unfold good laid
  cases s.absent with
  | true => rfl
  | false => rfl
theorem keep_txt (h : TxtOk L f) : ∀ k, TxtOk L (keepAt keep (slots L) f k).2
  | 0 => h
  | k + 1 => by
    cases ha : (slots L)[k]? with
    | none =>
      have hl : (slots L).length ≤ k := List.getElem?_eq_none_iff.1 ha
      have ih := keep_txt h k
      unfold keepAt at ih ⊢
      rw [List.take_of_length_le (by omega)] at ih ⊢
      exact ih
    | some s =>
      have ih := keep_txt h k
      rw [keep_step ha]
      unfold stepK
      split
      · split
        · exact txt_upd ih (List.mem_of_getElem? ha) good_blank
        · exact ih
      · exact ih
/-- The texts behind keeping. -/
def kept (keep : List Bool) (L : List Md) : Pos → ByteArray := (keepAt keep (slots L) (note L) (slots L).length).2
theorem kept_mods (h : mods L = 0) : mods (lay (kept keep L) L) = 0 := by
  have h1 : mods (lay (note L) L) = 0 := by rw [lay_note]; exact h
  exact mods_txt h1 (keep_txt (txt_ok h1) _)
theorem kept_off {p : Pos} (h : ∀ s ∈ slots L, s.pos ≠ p) : kept keep L p = note L p := keep_off h _
theorem kept_at (hs : s ∈ slots L) : kept keep L s.pos = note L s.pos ∨ (isW (note L s.pos) = true ∧ kept keep L s.pos = laid s no) := by
  obtain ⟨k, hk⟩ := mem_at.1 hs
  have := keep_done (keep := keep) (f := note L) (slots_dist L) hk
  unfold kept
  rw [this]
  split
  · rename_i h; exact .inr ⟨h.1, rfl⟩
  · exact .inl rfl
theorem known_blank : known (laid s no) = dynB := by
  unfold laid known
  cases s.absent with
  | true => rfl
  | false => rfl
theorem off_kept : OffSlots L (note L) (kept keep L) := fun p _ h => (kept_off h).symm
theorem less_kept (h : mods L = 0) : lessP L (lay (kept keep L) L) := by
  have h1 : mods (lay (note L) L) = 0 := by rw [lay_note]; exact h
  have := less_lay h1 (kept_mods (keep := keep) h) off_kept fun s hs => by
    rcases kept_at (keep := keep) hs with e | ⟨_, e⟩
    · exact .inl (by rw [e])
    · exact .inr (by rw [e]; exact known_blank)
  rwa [lay_note] at this
theorem less_self (h : mods L = 0) : lessP L L := by
  have h1 : mods (lay (note L) L) = 0 := by rw [lay_note]; exact h
  have := less_lay h1 h1 (fun _ _ _ => rfl) fun s _ => .inl rfl
  rwa [lay_note] at this
theorem idx_count {S : List Sl} : ∀ k, k ≤ S.length → (idxW S f k).length = ((S.take k).filter fun s => isW (f s.pos)).length
  | 0, _ => rfl
  | k + 1, hk => by
    obtain ⟨a, ha⟩ : ∃ a, S[k]? = some a := ⟨_, List.getElem?_eq_getElem (by omega)⟩
    have ih := idx_count (S := S) k (by omega)
    rw [idxW_step ha, List.take_add_one, ha, List.filter_append, List.length_append, ← ih]
    by_cases hw : isW (f a.pos) = true
    · simp [hw]
    · simp [hw]
theorem kept_count : (keepAt keep (slots L) (note L) (slots L).length).1 = (idxW (slots L) (note L) (slots L).length).length := by
  rw [keep_count (slots_dist L) _ (Nat.le_refl _), idx_count _ (Nat.le_refl _)]
theorem times_get {b : Bool} {n i : Nat} {x : Bool} (h : (List.replicate n b)[i]? = some x) : x = b := (List.mem_replicate.1 (List.mem_of_getElem? h)).2
/-- To keep all is the modules. -/
theorem kept_all (n : Nat) : lay (kept (List.replicate n true) L) L = L := by
  have : lay (kept (List.replicate n true) L) L = lay (note L) L := by
    refine lay_congr fun p hp => ?_
    by_cases hs : ∀ s ∈ slots L, s.pos ≠ p
    · exact kept_off hs
    · simp only [ne_eq, Classical.not_forall, Decidable.not_not] at hs
      obtain ⟨s, hs, rfl⟩ := hs
      obtain ⟨k, hk⟩ := mem_at.1 hs
      unfold kept
      rw [keep_done (slots_dist L) hk, if_neg]
      rintro ⟨-, h⟩
      have := times_get h
      cases this
  rw [this, lay_note]
/-- To keep nothing leaves nothing written. -/
theorem kept_none (hs : s ∈ slots L) : isW (kept (List.replicate (idxW (slots L) (note L) (slots L).length).length false) L s.pos) = false := by
  obtain ⟨k, hk⟩ := mem_at.1 hs
  have hl := (List.getElem?_eq_some_iff.1 hk).1
  unfold kept
  rw [keep_done (slots_dist L) hk]
  by_cases hw : isW (note L s.pos) = true
  · rw [if_pos]
    · unfold laid
      cases s.absent <;> rfl
    · refine ⟨hw, ?_⟩
      have h1 := keep_count (keep := List.replicate (idxW (slots L) (note L) (slots L).length).length false) (f := note L) (slots_dist L) (k + 1) (by omega)
      have h2 := idx_count (S := slots L) (f := note L) (slots L).length (Nat.le_refl _)
      rw [keep_step hk] at h1
      unfold stepK at h1
      rw [keep_old (slots_dist L) hk k (Nat.le_refl _), if_pos hw] at h1
      have h3 : ((slots L).take (k + 1)).filter (fun s => isW (note L s.pos)) <+: ((slots L).take (slots L).length).filter (fun s => isW (note L s.pos)) := by
        rw [List.take_length]
        exact (List.take_prefix _ _).filter _
      have h4 := h3.length_le
      rw [List.getElem?_replicate, if_pos (by simp only at h1; omega)]
  · rw [if_neg (fun h => hw h.1)]
    exact Bool.eq_false_iff.2 hw
theorem none_told0 {F : Pos → ByteArray} (h : ∀ s ∈ slots L, isW (F s.pos) = false) : toldW (lay F L) = [] := by
  unfold toldW
  split
  · rw [slots_lay]
    unfold idxW
    refine List.filter_eq_nil_iff.2 fun j hj => ?_
    have hjl := List.mem_range.1 hj
    obtain ⟨s, hs⟩ : ∃ s, (slots L)[j]? = some s := ⟨_, List.getElem?_eq_getElem hjl⟩
    rw [hs]
    have hm := List.mem_of_getElem? hs
    rw [Option.elim_some, note_lay _ (slots_real hm), h s hm]
    simp
  · rfl
theorem none_told : toldW (lay (kept (List.replicate (idxW (slots L) (note L) (slots L).length).length false) L) L) = [] := none_told0 fun _ => kept_none
/-- To keep nothing is less precise than to keep some. -/
theorem less_none (h : mods L = 0) : lessP (lay (kept keep L) L) (lay (kept (List.replicate (idxW (slots L) (note L) (slots L).length).length false) L) L) := by
  refine less_lay (kept_mods h) (kept_mods h) (fun p _ h => by rw [kept_off h, kept_off h]) fun s hs => .inr ?_
  have h1 := kept_none hs
  unfold isW at h1
  unfold known
  by_cases h2 : kept (List.replicate (idxW (slots L) (note L) (slots L).length).length false) L s.pos = no
  · rw [if_pos h2]
  · rw [if_neg h2]
    by_cases h3 : kept (List.replicate (idxW (slots L) (note L) (slots L).length).length false) L s.pos = dynB
    · exact h3
    · rw [decide_eq_false h2, decide_eq_false h3] at h1
      cases h1
/-- What was laid. -/
def laidF (L : List Md) (s : Sl) (t : ByteArray) : Pos → ByteArray := upd (note L) s.pos (laid s t)
theorem good_laid {t : ByteArray} (h : t = no ∨ isTy t.data.toList = true) : good s (laid s t) = true := by
  rcases h with rfl | h
  · exact good_blank
  · have hn : t ≠ no := fun e => by rw [e] at h; revert h; decide
    unfold laid
    rw [if_neg (fun h => hn h.1)]
    unfold good Tr.note
    rw [h, Bool.or_true]
    split <;> rfl
theorem laid_mods (h : mods L = 0) (hs : s ∈ slots L) {t : ByteArray} (ht : t = no ∨ isTy t.data.toList = true) : mods (lay (laidF L s t) L) = 0 := by
  have h1 : mods (lay (note L) L) = 0 := by rw [lay_note]; exact h
  exact mods_txt h1 (txt_upd (txt_ok h1) hs (good_laid ht))
theorem layTo_all {t : ByteArray} {n : Nat} (hs : (slots L)[n]? = some s) : layTo (slots L) f (n : Int) t (slots L).length = upd f s.pos (laid s t) := by
  have hl := (List.getElem?_eq_some_iff.1 hs).1
  unfold layTo
  rw [Int.toNat_natCast, hs]
  simp only
  rw [if_pos (by omega)]
theorem laid_told {t : ByteArray} {n k : Nat} {s' : Sl} (hs : (slots L)[n]? = some s) (hk : (slots L)[k]? = some s') : note (lay (laidF L s t) L) s'.pos = if k = n then laid s t else note L s'.pos := by
  rw [note_lay _ (slots_real (List.mem_of_getElem? hk))]
  unfold laidF
  by_cases e : k = n
  · subst e
    rw [hs] at hk
    cases hk
    rw [if_pos rfl]; exact upd_same
  · rw [if_neg e]; exact upd_other ((slots_dist L).ne hk hs e)
/-- Laid back it is as it was. -/
theorem laid_back {t : ByteArray} (h : mods L = 0) (hs : s ∈ slots L) : lay (upd (note (lay (laidF L s t) L)) s.pos (laid s (note L s.pos))) (lay (laidF L s t) L) = L := by
  rw [lay_lay]
  have h1 : mods (lay (note L) L) = 0 := by rw [lay_note]; exact h
  have hg := txt_good (txt_ok h1) hs
  have hl : laid s (note L s.pos) = note L s.pos := by
    unfold laid
    rw [if_neg]
    rintro ⟨e, ha⟩
    unfold good at hg
    rw [ha, e] at hg
    revert hg; decide
  rw [hl]
  have : lay (upd (note (lay (laidF L s t) L)) s.pos (note L s.pos)) L = lay (note L) L := by
    refine lay_congr fun p hp => ?_
    by_cases e : p = s.pos
    · subst e; exact upd_same
    · rw [upd_other e, note_lay _ hp]
      exact upd_other e
  rw [this, lay_note]
end
end Culp.Er

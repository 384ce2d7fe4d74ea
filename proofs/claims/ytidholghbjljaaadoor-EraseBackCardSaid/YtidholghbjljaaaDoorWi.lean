
/- What keeping, laying and baring come to, plain. No program in sight. -/
import Derived.Test.YtidholghbjljaaaDoorWh
namespace Culp.Er
set_option linter.unusedSimpArgs false
set_option linter.unusedVariables false
open Culp Culp.Tr Culp.Mo
/-- The type that is not known. -/
def dynB : ByteArray := ⟨#[63]⟩
def isW (t : ByteArray) : Bool := !decide (t = no) && !decide (t = dynB)
/-- What is laid where a text is to be laid. -/
def laid (s : Sl) (t : ByteArray) : ByteArray := if t = no ∧ s.absent = false then dynB else t
/-- One slot of keeping. -/
def stepK (keep : List Bool) (st : Nat × (Pos → ByteArray)) (s : Sl) : Nat × (Pos → ByteArray) := if isW (st.2 s.pos) = true then (st.1 + 1, if keep[st.1]? = some false then upd st.2 s.pos (laid s no) else st.2) else st
def keepAt (keep : List Bool) (S : List Sl) (f : Pos → ByteArray) (k : Nat) : Nat × (Pos → ByteArray) := (S.take k).foldl (stepK keep) (0, f)
/-- One slot of baring. -/
def known (t : ByteArray) : ByteArray := if t = no then dynB else t
def stepB (st : List ByteArray × (Pos → ByteArray)) (s : Sl) : List ByteArray × (Pos → ByteArray) := (st.1 ++ [known (st.2 s.pos)], upd st.2 s.pos no)
def bareAt (S : List Sl) (f : Pos → ByteArray) (k : Nat) : List ByteArray × (Pos → ByteArray) := (S.take k).foldl stepB ([], f)
section
variable {keep : List Bool} {S : List Sl} {f g : Pos → ByteArray} {k : Nat} {s : Sl}
theorem take_step {α β : Type} {F : β → α → β} {b : β} {l : List α} {k : Nat} {x : α} (h : l[k]? = some x) : (l.take (k + 1)).foldl F b = F ((l.take k).foldl F b) x := by
  rw [List.take_add_one, h, List.foldl_append]; rfl
theorem keep_step (h : S[k]? = some s) : keepAt keep S f (k + 1) = stepK keep (keepAt keep S f k) s := take_step h
theorem bare_step (h : S[k]? = some s) : bareAt S f (k + 1) = stepB (bareAt S f k) s := take_step h
theorem upd_same {p : Pos} {t : ByteArray} : upd f p t p = t := by simp [upd]
theorem upd_other {p q : Pos} {t : ByteArray} (h : q ≠ p) : upd f p t q = f q := by simp [upd, h]
/-- Ahead of its round a slot's text is as it was. -/
theorem keep_old (hd : Dist S) (h : S[k]? = some s) : ∀ j, j ≤ k → (keepAt keep S f j).2 s.pos = f s.pos
  | 0, _ => rfl
  | j + 1, hj => by
    have hjl : j < S.length := by have := (List.getElem?_eq_some_iff.1 h).1; omega
    obtain ⟨a, ha⟩ : ∃ a, S[j]? = some a := ⟨_, List.getElem?_eq_getElem hjl⟩
    have ih := keep_old hd h j (by omega)
    rw [keep_step ha]
    unfold stepK
    split
    · split
      · exact (upd_other (hd.ne h ha (by omega))).trans (ih)
      · exact ih
    · exact ih
theorem bare_old (hd : Dist S) (h : S[k]? = some s) : ∀ j, j ≤ k → (bareAt S f j).2 s.pos = f s.pos
  | 0, _ => rfl
  | j + 1, hj => by
    have hjl : j < S.length := by have := (List.getElem?_eq_some_iff.1 h).1; omega
    obtain ⟨a, ha⟩ : ∃ a, S[j]? = some a := ⟨_, List.getElem?_eq_getElem hjl⟩
    rw [bare_step ha]
    unfold stepB
    exact (upd_other (hd.ne h ha (by omega))).trans (bare_old hd h j (by omega))
/-- Behind its round it stays. -/
theorem keep_new (hd : Dist S) (h : S[k]? = some s) : ∀ j, k < j → j ≤ S.length → (keepAt keep S f j).2 s.pos = (keepAt keep S f (k + 1)).2 s.pos
  | 0, hj, _ => by omega
  | j + 1, hj, hl => by
    by_cases e : j = k
    · rw [e]
    · obtain ⟨a, ha⟩ : ∃ a, S[j]? = some a := ⟨_, List.getElem?_eq_getElem (by omega)⟩
      have ih := keep_new hd h j (by omega) (by omega)
      rw [keep_step ha]
      unfold stepK
      split
      · split
        · exact (upd_other (hd.ne h ha (by omega))).trans (ih)
        · exact ih
      · exact ih
theorem bare_new (hd : Dist S) (h : S[k]? = some s) : ∀ j, k < j → j ≤ S.length → (bareAt S f j).2 s.pos = no
  | 0, hj, _ => by omega
  | j + 1, hj, hl => by
    obtain ⟨a, ha⟩ : ∃ a, S[j]? = some a := ⟨_, List.getElem?_eq_getElem (by omega)⟩
    rw [bare_step ha]
    unfold stepB
    by_cases e : j = k
    · subst e
      rw [h] at ha
      cases ha
      exact upd_same
    · exact (upd_other (hd.ne h ha (by omega))).trans (bare_new hd h j (by omega) (by omega))
/-- How many are written among the first. -/
theorem keep_count (hd : Dist S) : ∀ k, k ≤ S.length → (keepAt keep S f k).1 = ((S.take k).filter fun s => isW (f s.pos)).length
  | 0, _ => rfl
  | k + 1, hk => by
    obtain ⟨a, ha⟩ : ∃ a, S[k]? = some a := ⟨_, List.getElem?_eq_getElem (by omega)⟩
    have ih := keep_count hd k (by omega)
    rw [keep_step ha, List.take_add_one, ha, List.filter_append, List.length_append, ← ih]
    unfold stepK
    rw [keep_old hd ha k (Nat.le_refl _)]
    by_cases hw : isW (f a.pos) = true
    · simp [hw]
    · simp [hw]
/-- What a slot has become. -/
theorem keep_done (hd : Dist S) (h : S[k]? = some s) : (keepAt keep S f S.length).2 s.pos = if isW (f s.pos) = true ∧ keep[(keepAt keep S f k).1]? = some false then laid s no else f s.pos := by
  rw [keep_new hd h S.length (List.getElem?_eq_some_iff.1 h).1 (Nat.le_refl _), keep_step h]
  unfold stepK
  rw [keep_old hd h k (Nat.le_refl _)]
  by_cases hw : isW (f s.pos) = true
  · by_cases hk : keep[(keepAt keep S f k).1]? = some false
    · simp only [hw, hk, if_true, and_self]; exact upd_same
    · simp only [hw, hk, if_true, and_false, if_false]; exact keep_old hd h k (Nat.le_refl _)
  · simp only [hw, false_and, if_false]; exact keep_old hd h k (Nat.le_refl _)
theorem keep_off {p : Pos} (h : ∀ s ∈ S, s.pos ≠ p) : ∀ k, (keepAt keep S f k).2 p = f p
  | 0 => rfl
  | k + 1 => by
    cases ha : S[k]? with
    | none =>
      have hl : S.length ≤ k := List.getElem?_eq_none_iff.1 ha
      have ih := keep_off h k
      unfold keepAt at ih ⊢
      rw [List.take_of_length_le (by omega)] at ih ⊢
      exact ih
    | some a =>
      have ih := keep_off h k
      rw [keep_step ha]
      unfold stepK
      split
      · split
        · exact (upd_other (fun e => h a (List.mem_of_getElem? ha) e.symm)).trans (ih)
        · exact ih
      · exact ih
theorem bare_off {p : Pos} (h : ∀ s ∈ S, s.pos ≠ p) : ∀ k, (bareAt S f k).2 p = f p
  | 0 => rfl
  | k + 1 => by
    cases ha : S[k]? with
    | none =>
      have hl : S.length ≤ k := List.getElem?_eq_none_iff.1 ha
      have ih := bare_off h k
      unfold bareAt at ih ⊢
      rw [List.take_of_length_le (by omega)] at ih ⊢
      exact ih
    | some a =>
      have ih := bare_off h k
      rw [bare_step ha]
      unfold stepB
      exact (upd_other (fun e => h a (List.mem_of_getElem? ha) e.symm)).trans (ih)
theorem bare_notes (hd : Dist S) : ∀ k, k ≤ S.length → (bareAt S f k).1 = (S.take k).map fun s => known (f s.pos)
  | 0, _ => rfl
  | k + 1, hk => by
    obtain ⟨a, ha⟩ : ∃ a, S[k]? = some a := ⟨_, List.getElem?_eq_getElem (by omega)⟩
    rw [bare_step ha, List.take_add_one, ha, List.map_append, ← bare_notes hd k (by omega)]
    unfold stepB
    rw [bare_old hd ha k (Nat.le_refl _)]
    rfl
end
/-- The texts of bared modules are told by what is no slot. -/
theorem bare_congr {L : List Md} {f g : Pos → ByteArray} (h : ∀ p, (∀ s ∈ slots L, s.pos ≠ p) → f p = g p) : (bareAt (slots L) f (slots L).length).2 = (bareAt (slots L) g (slots L).length).2 := by
  funext p
  by_cases hp : ∀ s ∈ slots L, s.pos ≠ p
  · rw [bare_off hp, bare_off hp]; exact h p hp
  · simp only [ne_eq, Classical.not_forall, Decidable.not_not] at hp
    obtain ⟨s, hs, rfl⟩ := hp
    obtain ⟨k, hk⟩ := mem_at.1 hs
    have hl := (List.getElem?_eq_some_iff.1 hk).1
    rw [bare_new (slots_dist L) hk _ hl (Nat.le_refl _), bare_new (slots_dist L) hk _ hl (Nat.le_refl _)]
end Culp.Er


/- Walks of the reference of package text: lists of texts. -/
import Derived.Test.YtebameiaeldfiaaGreatDoorTxJ
namespace Go.Proofs.YtebameiaeldfiaaGreatDoor
set_option linter.unusedSimpArgs false
set_option linter.unusedVariables false
open Go.RowKit Culp

/-- Texts in a block. -/
def Strs (w : World) (g : Nat) (L : List (List UInt8)) : Prop := ∀ k x, L[k]? = some x → w.cell? ⟨g, k, none⟩ = some (.string (bs x))
theorem Strs.later {w w' : World} {g : Nat} {L : List (List UInt8)} (h : Strs w g L) (hb : Below w.heap.size w w') : Strs w' g L := fun k x hx => cell_later hb (h k x hx)
set_option maxHeartbeats 800000 in
theorem in_any (L : List (List UInt8)) (g c : Nat) (x : List UInt8) (w : World) (hL : Strs w g L) (hl : L.length ≤ 1000) :
    Calls Tryz.prog 95 #[.slice (some ⟨g, 0, none⟩) L.length c, .string (bs x)] w (Gives (.bool (decide (x ∈ L))) w) := by
  have HL := Lib.hid hL
  clear hL
  go_enter Tryz.func95, Tryz.ntmps95
  go_wp2_with fail
  go_loop [5] (fun i => ∃ k : Nat, k ≤ L.length ∧ i = .int .i64 k ∧ Hid (x ∉ L.take k)) (fun i => L.length - (intOf i).toNat)
  case atStart => exact ⟨0, Nat.zero_le _, rfl, Lib.hid (by simp)⟩
  case round =>
    obtain ⟨k, hk, rfl, HN⟩ := hrel
    by_cases hlt : k < L.length
    · have hget : L[k]? = some L[k] := List.getElem?_eq_getElem hlt
      have hcell := HL.out k _ hget
      have HT : Hid (L.take (k + 1) = L.take k ++ [L[k]]) := Lib.hid (List.take_succ_eq_append_getElem hlt)
      have HM : Hid (L[k] ∈ L) := Lib.hid (List.getElem_mem hlt)
      have hb := beq_bs L[k] (bs x).toList
      rw [toL' (bs x), bs_list] at hb
      clear hget
      generalize L[k] = y at *
      by_cases e : y = x
      · have HE := Lib.hid (show x ∈ L by rw [← e]; exact HM.out)
        have q : ((bs y).toList == (bs x).toList) = true := by rw [toL' (bs x), bs_list, hb, e]; simp
        clear e hb
        go_wp2_with fail
        go_ret
        exact Gives.mk (bool_congr (by simp [HE.out]))
      · have HE := Lib.hid (show x ∉ L.take (k + 1) by rw [HT.out, List.mem_append]; intro h; rcases h with h | h; · exact HN.out h
                                                       · simp at h; exact e h.symm)
        have q : ((bs y).toList == (bs x).toList) = false := by rw [toL' (bs x), bs_list, hb]; simp [e]
        clear e hb
        go_wp2_with fail
        go_round
        case rel => exact ⟨k + 1, by omega, by go_num, HE⟩
        case measure => simp [intOf]; omega
    · have HE := Lib.hid (show x ∉ L by have := HN.out; rw [List.take_of_length_le (by omega)] at this; exact this)
      go_wp2_with fail
      go_ret
      exact Gives.mk (bool_congr (by simp [HE.out]))

/-- A list of texts that a call makes. -/
def MakesStrs (L : List (List UInt8)) (w : World) (e : Ending) (w' : World) : Prop := e = .returned (.slice (some ⟨w.heap.size, 0, none⟩) L.length L.length) ∧ Strs w' w.heap.size L ∧ Below w.heap.size w w'
theorem strs_alloc (w : World) (L : List (List UInt8)) (t : TypeId) : Strs (w.alloc (.cells (L.map fun x => Value.string (bs x)).toArray t)) w.heap.size L := fun k x hx => by
  rw [World.cell?_alloc_at _ _ _ _ rfl]
  simp [hx]
set_option maxHeartbeats 800000 in
theorem rWords_any (w : World) : Calls Tryz.prog 96 #[] w (MakesStrs Tx.words w) := by
  go_enter Tryz.func96, Tryz.ntmps96
  go_wp2_with fail
  go_ret
  exact ⟨rfl, strs_alloc w Tx.words 9, (Below.refl _ _).alloc (Nat.le_refl _) _⟩
def marksL : List (List UInt8) := Tx.marks2 ++ Tx.marks1.map fun c => [c]
set_option maxHeartbeats 800000 in
theorem rIsWord_any (x : List UInt8) (w : World) : Calls Tryz.prog 75 #[.string (bs x)] w (Makes (.bool (Tx.isWord x)) w) := by
  go_enter Tryz.func75, Tryz.ntmps75
  go_wp2_with fail
  refine (rWords_any _).mono ?_
  rintro e w' ⟨rfl, hS, hb⟩
  have HS := Lib.hid hS
  have HB := Lib.hid hb
  clear hS hb
  go_wp2_with fail
  refine (in_any Tx.words _ _ x _ HS.out (by decide)).mono ?_
  rintro e w2 ⟨rfl, rfl⟩
  go_wp2_with fail
  go_ret
  exact Makes.mk rfl HB.out
end Go.Proofs.YtebameiaeldfiaaGreatDoor

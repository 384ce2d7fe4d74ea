/- Walks of package text and of its reference: a name's or a number's letters. -/
import Derived.Test.YtenbecjnlgmkeaaDoorTxC
namespace Go.Proofs.YtenbecjnlgmkeaaDoor
set_option linter.unusedSimpArgs false
set_option linter.unusedVariables false
open Go.RowKit Culp

def bs (l : List UInt8) : ByteArray := ⟨l.toArray⟩
theorem bs_list (l : List UInt8) : (bs l).data.toList = l := rfl
theorem bs_size (l : List UInt8) : (bs l).size = l.length := rfl
theorem bs_inj {a b : List UInt8} (h : bs a = bs b) : a = b := by have := congrArg (fun x => x.data.toList) h; simpa [bs] using this
theorem extract_bs (s : ByteArray) (a b : Nat) : s.extract a b = bs ((s.data.toList.drop a).take (b - a)) := str_inj' (by rw [Lib.extract_data, bs_list])
/-- The letters from a place on, seen as far as a place. -/
theorem run_ends {s : ByteArray} {at_ k : Nat} (h1 : at_ ≤ k) (h2 : k ≤ s.size) (ha : ∀ i (h : i < s.size), at_ ≤ i → i < k → Tx.inner s[i] = true) (he : ∀ h : k < s.size, Tx.inner s[k] = false) :
    Tx.run (s.data.toList.drop at_) = (s.data.toList.drop at_).take (k - at_) := by
  have hl := size_list s
  have e1 : s.data.toList.drop at_ = (s.data.toList.drop at_).take (k - at_) ++ s.data.toList.drop k := by
    have : s.data.toList.drop k = (s.data.toList.drop at_).drop (k - at_) := by rw [List.drop_drop]; congr 1; omega
    rw [this, List.take_append_drop]
  have hall : ((s.data.toList.drop at_).take (k - at_)).all Tx.inner = true := by
    rw [List.all_eq_true]
    intro x hx
    obtain ⟨i, hi, rfl⟩ := List.mem_iff_getElem.1 hx
    rw [List.length_take, List.length_drop] at hi
    rw [List.getElem_take, List.getElem_drop]
    exact ha (at_ + i) (by omega) (by omega) (by omega)
  conv => lhs; rw [e1]
  refine Tx.run_app hall ?_
  by_cases hk : k < s.size
  · right
    refine ⟨s[k], s.data.toList.drop (k + 1), ?_, he hk⟩
    rw [List.drop_eq_getElem_cons (by omega)]; rfl
  · left
    exact List.drop_of_length_le (by omega)
theorem inner_or {c : UInt8} (h : Tx.inner c = true) : Tx.letter c = true ∨ (Tx.letter c = false ∧ Tx.digit c = true) ∨ (Tx.letter c = false ∧ Tx.digit c = false ∧ (((c.toNat : Nat) : Int) == 95) = true) := by
  unfold Tx.inner at h
  simp only [Bool.or_eq_true, decide_eq_true_eq] at h
  cases h1 : Tx.letter c
  · cases h2 : Tx.digit c
    · rw [h1, h2] at h
      simp at h
      right; right
      refine ⟨rfl, rfl, ?_⟩
      simp [h]
    · exact .inr (.inl ⟨rfl, rfl⟩)
  · exact .inl rfl
theorem inner_nor {c : UInt8} (h : Tx.inner c = false) : Tx.letter c = false ∧ Tx.digit c = false ∧ (((c.toNat : Nat) : Int) == 95) = false := by
  unfold Tx.inner at h
  simp only [Bool.or_eq_false_iff, decide_eq_false_iff_not] at h
  refine ⟨h.1.1, h.1.2, ?_⟩
  rw [beq_eq_false_iff_ne]
  intro e
  exact h.2 (by omega)
theorem byte_sizeOf : ∀ w, (Go.sizeOf 5).run Tryd.prog w = .ok 1 w := fun w => by kernel_rfl
/-- A piece of a slice, as text. -/
theorem cut_text (W : World) (b o len cap l h : Nat) (s : ByteArray) (hB : Lib.Bytes W b o s) (hlh : l < h) (hh : h ≤ s.size) (hcap : s.size ≤ cap) :
    (Instr.slice 22 (.slice (some ⟨b, o, none⟩) len cap) (some (.int .i64 (l : Int))) (some (.int .i64 (h : Int))) none).run Tryd.prog W = .ok (.slice (some ⟨b, o + l, none⟩) (h - l) (cap - l)) W ∧
    (convert 22 9 (.slice (some ⟨b, o + l, none⟩) (h - l) (cap - l))).run Tryd.prog W = .ok (.string (bs ((s.data.toList.drop l).take (h - l)))) W := by
  refine ⟨Lib.run_slice_window W 22 5 Tryd.underlying22 byte_sizeOf b o len cap l h hlh (by omega), ?_⟩
  rw [Lib.run_convert_window W 22 5 9 Tryd.underlying22 Tryd.underlying5 Tryd.underlying9 b o s hB l (h - l) (cap - l) (by omega), extract_bs]
  congr 4; omega

set_option maxHeartbeats 800000 in
theorem rrun_any (s : ByteArray) (sv : Value) (at_ : Nat) (w : World) (hb : BytesV w sv s) (hat : at_ < s.size) (hin : Tx.inner s[at_] = true) (hs : s.size ≤ 1000000000000000) :
    Calls Tryd.prog 36 #[sv, .int .i64 at_] w (Gives (.string (bs (Tx.run (s.data.toList.drop at_)))) w) := by
  obtain ⟨A, c, rfl, hc, hA⟩ := hb
  obtain ⟨b, o, rfl, hB⟩ := hA (by omega)
  have HB := Lib.hid hB
  have HI := Lib.hid hin
  clear hA hB hin
  go_enter Tryd.func36, Tryd.ntmps36
  go_wp2_with fail
  go_loop [5] (fun i => ∃ k : Nat, at_ ≤ k ∧ k ≤ s.size ∧ i = .int .i64 k ∧ Hid (∀ i (h : i < s.size), at_ ≤ i → i < k → Tx.inner s[i] = true)) (fun i => s.size - (intOf i).toNat)
  case atStart => exact ⟨at_, Nat.le_refl _, by omega, rfl, Lib.hid (fun i h h1 h2 => by omega)⟩
  case round =>
    obtain ⟨k, hk1, hk2, rfl, HA⟩ := hrel
    by_cases hlt : k < s.size
    · have hcell := HB.out k hlt
      cases hik : Tx.inner s[k]
      · obtain ⟨h1, h2, h3⟩ := inner_nor hik
        have hgt : at_ < k := by
          rcases Nat.lt_or_ge at_ k with h | h
          · exact h
          · have : at_ = k := by omega
            subst this
            rw [HI.out] at hik; cases hik
        have HE := Lib.hid (run_ends hk1 hk2 HA.out (fun _ => hik))
        obtain ⟨c1, c2⟩ := cut_text w b o s.size c at_ k s HB.out hgt hk2 hc
        clear hik
        go_wp2_with fail
        refine (rletter_any s[k] _).mono ?_
        rw [h1]
        rintro e w' ⟨rfl, rfl⟩
        go_wp2_with fail
        refine (rdigit_any s[k] _).mono ?_
        rw [h2]
        rintro e w' ⟨rfl, rfl⟩
        go_wp2_with fail
        go_ret
        exact Gives.mk (by rw [HE.out]; rfl)
      · have HN : Hid (∀ i (h : i < s.size), at_ ≤ i → i < k + 1 → Tx.inner s[i] = true) := Lib.hid (fun i h h1 h2 => by
          by_cases e : i = k
          · subst e; exact hik
          · exact HA.out i h h1 (by omega))
        rcases inner_or hik with h1 | ⟨h1, h2⟩ | ⟨h1, h2, h3⟩
        · clear hik
          go_wp2_with fail
          refine (rletter_any s[k] _).mono ?_
          rw [h1]
          rintro e w' ⟨rfl, rfl⟩
          go_wp2_with fail
          go_round
          case rel => exact ⟨k + 1, by omega, by omega, by go_num, HN⟩
          case measure => simp [intOf]; omega
        all_goals
          clear hik
          go_wp2_with fail
          refine (rletter_any s[k] _).mono ?_
          rw [h1]
          rintro e w' ⟨rfl, rfl⟩
          go_wp2_with fail
          refine (rdigit_any s[k] _).mono ?_
          rw [h2]
          rintro e w' ⟨rfl, rfl⟩
          go_wp2_with fail
          go_round
          case rel => exact ⟨k + 1, by omega, by omega, by go_num, HN⟩
          case measure => simp [intOf]; omega
    · have hk : s.size ≤ k := by omega
      have HE := Lib.hid (run_ends hk1 hk2 HA.out (fun h => absurd h hlt))
      obtain ⟨c1, c2⟩ := cut_text w b o s.size c at_ k s HB.out (by omega) hk2 hc
      go_wp2_with fail
      go_ret
      exact Gives.mk (by rw [HE.out]; rfl)

/-- A reader as it lies in memory. -/
def Rd (r : Nat) (v : Value) (at_ line beg : Int) (m : Value) (w : World) : Prop := w.heap[r]? = some (.cells #[v, .int .i64 at_, .int .i64 line, .int .i64 beg, m] 59 (0, 0))
section
variable {r : Nat} {v m : Value} {at_ line beg : Int} {w w' : World}
theorem Rd.lt (h : Rd r v at_ line beg m w) : r < w.heap.size := by
  rcases Nat.lt_or_ge r w.heap.size with hlt | hge
  · exact hlt
  · unfold Rd at h; rw [Array.getElem?_eq_none hge] at h; cases h
theorem Rd.c0 (h : Rd r v at_ line beg m w) : w.cell? ⟨r, 0, none⟩ = some v := by unfold Rd at h; simp [World.cell?, h]
theorem Rd.c1 (h : Rd r v at_ line beg m w) : w.cell? ⟨r, 1, none⟩ = some (.int .i64 at_) := by unfold Rd at h; simp [World.cell?, h]
theorem Rd.c2 (h : Rd r v at_ line beg m w) : w.cell? ⟨r, 2, none⟩ = some (.int .i64 line) := by unfold Rd at h; simp [World.cell?, h]
theorem Rd.c3 (h : Rd r v at_ line beg m w) : w.cell? ⟨r, 3, none⟩ = some (.int .i64 beg) := by unfold Rd at h; simp [World.cell?, h]
theorem Rd.c4 (h : Rd r v at_ line beg m w) : w.cell? ⟨r, 4, none⟩ = some m := by unfold Rd at h; simp [World.cell?, h]
theorem Rd.free (h : Rd r v at_ line beg m w) (i : Nat) : w.frozen? ⟨r, i, none⟩ = false := by unfold Rd at h; simp [World.frozen?, h]
theorem Rd.later (h : Rd r v at_ line beg m w) (hb : Below w.heap.size w w') : Rd r v at_ line beg m w' := (hb.block r h.lt).trans h
theorem Rd.drew (h : Rd r v at_ line beg m w) : Rd r v at_ line beg m w.drew := h
theorem Rd.set1 (h : Rd r v at_ line beg m w) (x : Int) : Rd r v x line beg m (w.setCell ⟨r, 1, none⟩ (.int .i64 x)) := by
  unfold Rd at h ⊢
  simp [World.setCell, Array.getElem?_modify, h]
theorem Rd.set2 (h : Rd r v at_ line beg m w) (x : Int) : Rd r v at_ x beg m (w.setCell ⟨r, 2, none⟩ (.int .i64 x)) := by
  unfold Rd at h ⊢
  simp [World.setCell, Array.getElem?_modify, h]
theorem Rd.set3 (h : Rd r v at_ line beg m w) (x : Int) : Rd r v at_ line x m (w.setCell ⟨r, 3, none⟩ (.int .i64 x)) := by
  unfold Rd at h ⊢
  simp [World.setCell, Array.getElem?_modify, h]
end
/-- Bytes lie elsewhere than a reader. -/
theorem Rd.apart {r : Nat} {v m : Value} {at_ line beg : Int} {w : World} (h : Rd r v at_ line beg m w) {b o : Nat} {s : ByteArray} (hB : Lib.Bytes w b o s) (h0 : 0 < s.size) (hv : ∀ x, v ≠ .int .u8 x) (hm : ∀ x, m ≠ .int .u8 x) : b ≠ r := by
  rintro rfl
  have := hB 0 h0
  unfold Rd at h
  simp only [World.cell?, h, Option.bind_some] at this
  rcases o with _ | _ | _ | _ | _ | o
  · simp at this; exact hv _ this
  · simp at this
  · simp at this
  · simp at this
  · simp at this; exact hm _ this
  · simp at this
theorem bytes_keep {r : Nat} {w w' : World} {b o : Nat} {s : ByteArray} (hB : Lib.Bytes w b o s) (hk : Keep r w w') (hne : b ≠ r) : Lib.Bytes w' b o s := fun i hi => hk.cell (hB i hi) hne
end Go.Proofs.YtenbecjnlgmkeaaDoor

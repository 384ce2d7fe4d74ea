/- Walks of package text: marks. -/
import Derived.Test.YtenbecjnlgmkeaaDoorTxI
import Derived.Test.YtenbecjnlgmkeaaDoorShelf
import Derived.Lib.IndexAny
namespace Go.Proofs.YtenbecjnlgmkeaaDoor
set_option linter.unusedSimpArgs false
set_option linter.unusedVariables false
open Go.RowKit Culp

theorem beq_bs (l m : List UInt8) : ((bs l).toList == m) = (l == m) := by rw [toL', bs_list]
theorem head_text (W : World) (b o cap h : Nat) (s : ByteArray) (hB : Lib.Bytes W b o s) (h0 : 0 < h) (hh : h ≤ s.size) (hcap : s.size ≤ cap) :
    (convert 22 9 (.slice (some ⟨b, o, none⟩) h cap)).run Tryd.prog W = .ok (.string (bs (s.data.toList.take h))) W := by
  have := (cut_text W b o s.size cap 0 h s hB h0 hh hcap).2
  simpa using this
theorem take2 (s : ByteArray) (h : 1 < s.size) : s.data.toList.take 2 = [s[0], s[1]] ∧ s.data.toList = s[0] :: s[1] :: s.data.toList.drop 2 := by
  have hl := size_list s
  have e : s.data.toList = s[0] :: s[1] :: s.data.toList.drop 2 := by
    have := Tx.drop2 (l := s.data.toList) (k := 0) (by omega)
    rw [List.drop_zero] at this
    exact this
  refine ⟨?_, e⟩
  conv => lhs; rw [e]
  rfl
theorem take1 (s : ByteArray) (h : 0 < s.size) : s.data.toList.take 1 = [s[0]] ∧ s.data.toList = s[0] :: s.data.toList.drop 1 := by
  have hl := size_list s
  have e : s.data.toList = s[0] :: s.data.toList.drop 1 := by
    have := Tx.drop1 (l := s.data.toList) (k := 0) (by omega)
    rw [List.drop_zero] at this
    exact this
  refine ⟨?_, e⟩
  conv => lhs; rw [e]
  rfl
def marksS : ByteArray := { data := #[40, 41, 91, 93, 123, 125, 44, 58, 59, 46, 61, 60, 43, 45, 42, 63, 33] }
theorem mark_ix (c : UInt8) (w : World) : Calls Tryd.prog 54 #[.string { data := #[40, 41, 91, 93, 123, 125, 44, 58, 59, 46, 61, 60, 43, 45, 42, 63, 33] }, .int .u8 (c.toNat : Int)] w (fun e w' => ∃ x : Int, e = .returned (.int .i64 x) ∧ (0 ≤ x ↔ c ∈ Tx.marks1) ∧ w = w') := by
  refine (Tryd.strings_IndexByte { data := #[40, 41, 91, 93, 123, 125, 44, 58, 59, 46, 61, 60, 43, 45, 42, 63, 33] } (c.toNat : Int) w).mono ?_
  rintro e w' ⟨rfl, rfl⟩
  refine ⟨_, rfl, ?_, rfl⟩
  have e1 : ((c.toNat : Int).toNat.toUInt8) = c := by simp
  rw [e1]
  have := Lib.contains_iff_indexByte Tx.marks1 c
  constructor
  · intro h
    have h2 : Tx.marks1.contains c = true := by rw [this]; exact decide_eq_true h
    simpa using h2
  · intro h
    have h2 : Tx.marks1.contains c = true := by simpa using h
    rw [this] at h2
    exact of_decide_eq_true h2
set_option maxRecDepth 100000 in
set_option maxHeartbeats 800000 in
theorem tmark_any (s : ByteArray) (sv : Value) (w : World) (hb : BytesV w sv s) (h0 : 0 < s.size) (hs : s.size ≤ 1000000) :
    Calls Tryd.prog 51 #[sv] w (Gives (.string (bs (Tx.mark s.data.toList))) w) := by
  obtain ⟨A, c, rfl, hc, hA⟩ := hb
  obtain ⟨b, o, rfl, hB⟩ := hA h0
  have HB := Lib.hid hB
  have hcell := HB.out 0 h0
  rw [Nat.add_zero] at hcell
  clear hA hB
  have hs1 := take1 s h0
  have hc1 := head_text w b o c 1 s HB.out (by omega) (by omega) hc
  rw [hs1.1] at hc1
  have HE := Lib.hid hs1.2
  clear hs1
  by_cases h2 : 1 < s.size
  · have hs2 := take2 s h2
    have hc2 := head_text w b o c 2 s HB.out (by omega) (by omega) hc
    rw [hs2.1] at hc2
    have HE2 := Lib.hid hs2.2
    have hb := beq_bs [s[0], s[1]]
    clear hs2
    have no : (∀ m ∈ Tx.marks2, ([s[0], s[1]] == m) = false) → [s[0], s[1]] ∉ Tx.marks2 := fun h hm => by have := h _ hm; simp at this
    have yes : ∀ m ∈ Tx.marks2, ([s[0], s[1]] == m) = true → Tx.mark s.data.toList = [s[0], s[1]] := fun m hm h => by
      rw [HE2.out, Tx.mark, if_pos (by have := eq_of_beq h; rw [this]; exact hm)]
    have YES := Lib.hid yes
    have q1 := hb [45, 62]
    have q2 := hb [61, 62]
    have q3 := hb [58, 61]
    have q4 := hb [61, 61]
    have q5 := hb [43, 43]
    clear hb yes
    cases p1 : ([s[0], s[1]] == [45, 62])
    case true =>
      have Y := Lib.hid (YES.out _ (by decide) p1)
      rw [p1] at q1
      clear q2 q3 q4 q5 no p1
      go_enter Tryd.func51, Tryd.ntmps51
      go_wp2_with fail
      go_ret
      exact Gives.mk (by rw [Y.out]; rfl)
    rw [p1] at q1
    cases p2 : ([s[0], s[1]] == [61, 62])
    case true =>
      have Y := Lib.hid (YES.out _ (by decide) p2)
      rw [p2] at q2
      clear q3 q4 q5 no p1 p2
      go_enter Tryd.func51, Tryd.ntmps51
      go_wp2_with fail
      go_ret
      exact Gives.mk (by rw [Y.out]; rfl)
    rw [p2] at q2
    cases p3 : ([s[0], s[1]] == [58, 61])
    case true =>
      have Y := Lib.hid (YES.out _ (by decide) p3)
      rw [p3] at q3
      clear q4 q5 no p1 p2 p3
      go_enter Tryd.func51, Tryd.ntmps51
      go_wp2_with fail
      go_ret
      exact Gives.mk (by rw [Y.out]; rfl)
    rw [p3] at q3
    cases p4 : ([s[0], s[1]] == [61, 61])
    case true =>
      have Y := Lib.hid (YES.out _ (by decide) p4)
      rw [p4] at q4
      clear q5 no p1 p2 p3 p4
      go_enter Tryd.func51, Tryd.ntmps51
      go_wp2_with fail
      go_ret
      exact Gives.mk (by rw [Y.out]; rfl)
    rw [p4] at q4
    cases p5 : ([s[0], s[1]] == [43, 43])
    case true =>
      have Y := Lib.hid (YES.out _ (by decide) p5)
      rw [p5] at q5
      clear no p1 p2 p3 p4 p5
      go_enter Tryd.func51, Tryd.ntmps51
      go_wp2_with fail
      go_ret
      exact Gives.mk (by rw [Y.out]; rfl)
    rw [p5] at q5
    have N := Lib.hid (no (by simp only [Tx.marks2, List.forall_mem_cons]; exact ⟨p1, p2, p3, p4, p5, by simp⟩))
    clear no p1 p2 p3 p4 p5 YES
    by_cases hm : s[0] ∈ Tx.marks1
    · have Y : Hid (Tx.mark s.data.toList = [s[0]]) := Lib.hid (by rw [HE2.out, Tx.mark, if_neg N.out, if_pos hm])
      have HM := Lib.hid hm
      clear hm
      go_enter Tryd.func51, Tryd.ntmps51
      go_wp2_with fail
      refine (mark_ix s[0] _).mono ?_
      rintro e w' ⟨x, rfl, hx, rfl⟩
      have hx0 : 0 ≤ x := hx.2 HM.out
      clear hx
      go_wp2_with fail
      go_ret
      exact Gives.mk (by rw [Y.out]; rfl)
    · have Y : Hid (Tx.mark s.data.toList = []) := Lib.hid (by rw [HE2.out, Tx.mark, if_neg N.out, if_neg hm])
      have HM := Lib.hid hm
      clear hm
      go_enter Tryd.func51, Tryd.ntmps51
      go_wp2_with fail
      refine (mark_ix s[0] _).mono ?_
      rintro e w' ⟨x, rfl, hx, rfl⟩
      have hx0 : x < 0 := by
        by_cases h : 0 ≤ x
        · exact absurd (hx.1 h) HM.out
        · omega
      clear hx
      go_wp2_with fail
      go_ret
      exact Gives.mk (by rw [Y.out]; rfl)
  · have HE3 : Hid (s.data.toList = [s[0]]) := Lib.hid (by
      have h1 := HE.out
      rw [List.drop_of_length_le (by rw [size_list]; omega)] at h1
      exact h1)
    by_cases hm : s[0] ∈ Tx.marks1
    · have Y : Hid (Tx.mark s.data.toList = [s[0]]) := Lib.hid (by rw [HE3.out, Tx.mark, if_pos hm])
      have HM := Lib.hid hm
      clear hm
      go_enter Tryd.func51, Tryd.ntmps51
      go_wp2_with fail
      refine (mark_ix s[0] _).mono ?_
      rintro e w' ⟨x, rfl, hx, rfl⟩
      have hx0 : 0 ≤ x := hx.2 HM.out
      clear hx
      go_wp2_with fail
      go_ret
      exact Gives.mk (by rw [Y.out]; rfl)
    · have Y : Hid (Tx.mark s.data.toList = []) := Lib.hid (by rw [HE3.out, Tx.mark, if_neg hm])
      have HM := Lib.hid hm
      clear hm
      go_enter Tryd.func51, Tryd.ntmps51
      go_wp2_with fail
      refine (mark_ix s[0] _).mono ?_
      rintro e w' ⟨x, rfl, hx, rfl⟩
      have hx0 : x < 0 := by
        by_cases h : 0 ≤ x
        · exact absurd (hx.1 h) HM.out
        · omega
      clear hx
      go_wp2_with fail
      go_ret
      exact Gives.mk (by rw [Y.out]; rfl)
end Go.Proofs.YtenbecjnlgmkeaaDoor

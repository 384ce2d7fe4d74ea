
/- Walks of trees: kinds, types, annotations, names. -/
import Derived.Test.YtebameiaeldfiaaGreatDoorTr
import Derived.Test.YtebameiaeldfiaaGreatDoorR4W
import Derived.Test.YtebameiaeldfiaaGreatDoorTxT
namespace Go.Proofs.YtebameiaeldfiaaGreatDoor
set_option linter.unusedSimpArgs false
set_option linter.unusedVariables false
open Go.RowKit Go.Maps Culp

set_option maxHeartbeats 1600000 in
theorem arities_any (k : Int) (w : World) : Calls Tryz.prog 61 #[.int .i8 k] w (Gives (.int .i64 (Tr.arit k)) w) := by
  go_enter Tryz.func61, Tryz.ntmps61
  go_wp2
  all_goals
    go_ret
    refine Gives.mk ?_
    simp_all [Tr.arit]
theorem tArity_any (k : Int) (w : World) : Calls Tryz.prog 21 #[.int .i8 k] w (Gives (.tuple #[.int .i64 (max (Tr.arit k) 0), .bool (decide (0 ≤ Tr.arit k))]) w) := by
  have h := Tr.arit_bounds k
  go_enter Tryz.func21, Tryz.ntmps21
  go_wp2_with fail
  refine (arities_any k _).mono ?_
  rintro e w' ⟨rfl, rfl⟩
  generalize Tr.arit k = a at *
  go_wp2_with fail
  go_ret2
  exact Gives.mk rfl
/-- What the document's Arity answers. -/
def arV (k : Int) : Value := if 0 ≤ Tr.arit k then .tuple #[.int .i64 (Tr.arit k), .bool true] else .tuple #[.int .i64 0, .bool false]
set_option maxHeartbeats 1600000 in
theorem rArity_any (k : Int) (w : World) : Calls Tryz.prog 87 #[.int .i8 k] w (Gives (arV k) w) := by
  go_enter Tryz.func87, Tryz.ntmps87
  go_wp2
  all_goals
    go_ret2
    refine Gives.mk ?_
    simp_all [arV, Tr.arit]
    try (split <;> decide)
theorem isType_any (s : ByteArray) (w : World) : Calls Tryz.prog 84 #[.string s] w (Gives (.bool (isTy s.data.toList)) w) := by
  go_enter Tryz.func84, Tryz.ntmps84
  go_wp2_with fail
  refine (Check_any s _).mono ?_
  rintro e w' ⟨rfl, ⟨h, rfl⟩ | ⟨h, p, _, rfl⟩⟩
  · have H := Lib.hid h
    clear h
    go_wp2_with fail
    go_ret
    exact Gives.mk (by rw [H.out]; rfl)
  · have H := Lib.hid h
    have hc : ((if 64 < s.size then 21 else 20 : Int) == 0) = false := by split <;> rfl
    generalize (if 64 < s.size then 21 else 20 : Int) = c at *
    clear h
    go_wp2_with fail
    go_ret
    exact Gives.mk (by rw [H.out]; rfl)
theorem nil_yes {s : ByteArray} (h : s.size = 0) : (s.toList == []) = true := by rw [toL', List.eq_nil_of_length_eq_zero (l := s.data.toList) (by rw [size_list]; exact h)]; rfl
theorem nil_no {s : ByteArray} (h : s.size ≠ 0) : (s.toList == []) = false := by
  rw [toL', beq_eq_false_iff_ne]
  intro e
  have := congrArg List.length e
  rw [size_list] at this
  exact h this
theorem note_nil {s : ByteArray} (h : s.size = 0) : Tr.note s.data.toList = true := by
  unfold Tr.note
  rw [List.eq_nil_of_length_eq_zero (l := s.data.toList) (by rw [size_list]; exact h)]; rfl
theorem note_some {s : ByteArray} (h : s.size ≠ 0) : Tr.note s.data.toList = isTy s.data.toList := by
  unfold Tr.note
  rw [decide_eq_false (fun e => h (by rw [← size_list, e]; rfl)), Bool.false_or]
theorem tNote_any (s : ByteArray) (w : World) : Calls Tryz.prog 73 #[.string s] w (Gives (.bool (Tr.note s.data.toList)) w) := by
  by_cases h : s.size = 0
  · have q := nil_yes h
    have H := Lib.hid (note_nil h)
    clear h
    go_enter Tryz.func73, Tryz.ntmps73
    go_wp2_with fail
    go_ret
    exact Gives.mk (by rw [H.out]; rfl)
  · have q := nil_no h
    have H := Lib.hid (note_some h)
    clear h
    go_enter Tryz.func73, Tryz.ntmps73
    go_wp2_with fail
    refine (isType_any s _).mono ?_
    rintro e w' ⟨rfl, rfl⟩
    rw [← H.out]
    go_wp2_with fail
    go_ret
    exact Gives.mk rfl
/-- What TypeEnd answers. -/
def endI (s : ByteArray) (k : Nat) : Nat := match eatAt s k 1 with | some r => s.size - r.length | none => 0
theorem end_some {s : ByteArray} {k j : Nat} (hj : j ≤ s.size) (h : eatAt s k 1 = some (s.data.toList.drop j)) : endI s k = j := by
  unfold endI
  rw [h]
  simp only [List.length_drop, size_list]
  omega
theorem end_none {s : ByteArray} {k : Nat} (h : eatAt s k 1 = none) : endI s k = 0 := by unfold endI; rw [h]
set_option maxHeartbeats 1600000 in
theorem TypeEnd_any (s : ByteArray) (k : Nat) (w : World) (hk : k ≤ s.size) (hs : s.size ≤ 1000000000000000) :
    Calls Tryz.prog 97 #[.string s, .int .i64 k] w (Gives (.int .i64 (endI s k)) w) := by
  go_enter Tryz.func97, Tryz.ntmps97
  go_wp2
  go_loop [1, 5] (fun a l => ∃ j n : Nat, j ≤ s.size ∧ n ≤ j + 1 ∧ a = .int .i64 j ∧ l = .int .i64 n ∧ Hid (eatAt s k 1 = eatAt s j n)) (fun a _ => s.size - (intOf a).toNat)
  case atStart => exact ⟨k, 1, by omega, by omega, rfl, rfl, rfl⟩
  case round =>
    obtain ⟨j, n, hj, hn, rfl, rfl, H⟩ := hrel
    rcases n with _ | n
    · have X : Hid (endI s k = j) := end_some hj (H.out.trans (by simp [eatAt]))
      clear H
      go_wp2
      all_goals
        go_ret
        exact Gives.mk (by rw [X.out]; rfl)
    · by_cases hlt : j < s.size
      · rcases byte_cases s[j] with h | h | h | h | h | h | h | h | ⟨ha, h1, h2, h3, h4, h5, h6, h7, h8⟩
        case inr.inr.inr.inr.inr.inr.inr.inr =>
          have X : Hid (endI s k = 0) := end_none (H.out.trans (eatAt_bad s n hlt ha))
          clear ha H
          go_wp2
          go_ret
          exact Gives.mk (by rw [X.out]; rfl)
        all_goals first
          | (have ha : ari s[j] = some 0 := by rw [h]; rfl
             have X : Hid (eatAt s k 1 = eatAt s (j + 1) (n + 0)) := H.out.trans (eatAt_step s n hlt ha)
             clear ha H
             go_wp2
             go_round
             case rel => exact ⟨j + 1, n + 0, by omega, by omega, by go_num, by go_num, X⟩
             case measure => (simp [intOf]; omega))
          | (have ha : ari s[j] = some 1 := by rw [h]; rfl
             have X : Hid (eatAt s k 1 = eatAt s (j + 1) (n + 1)) := H.out.trans (eatAt_step s n hlt ha)
             clear ha H
             go_wp2
             go_round
             case rel => exact ⟨j + 1, n + 1, by omega, by omega, by go_num, by go_num, X⟩
             case measure => (simp [intOf]; omega))
          | (have ha : ari s[j] = some 2 := by rw [h]; rfl
             have X : Hid (eatAt s k 1 = eatAt s (j + 1) (n + 2)) := H.out.trans (eatAt_step s n hlt ha)
             clear ha H
             go_wp2
             go_round
             case rel => exact ⟨j + 1, n + 2, by omega, by omega, by go_num, by go_num, X⟩
             case measure => (simp [intOf]; omega))
      · have X : Hid (endI s k = 0) := end_none (H.out.trans (eatAt_end s n (by omega)))
        clear H
        go_wp2
        go_ret
        exact Gives.mk (by rw [X.out]; rfl)
theorem isTy_end {s : ByteArray} (h0 : 1 ≤ s.size) (h64 : s.size ≤ 64) : isTy s.data.toList = decide (endI s 0 = s.size) := by
  unfold isTy endI eatAt
  rw [size_list, decide_eq_true h64, Bool.true_and, List.drop_zero, Bool.eq_iff_iff, beq_iff_eq, decide_eq_true_eq]
  cases h : eat s.data.toList 1 with
  | none => simp; omega
  | some r =>
    have := eat_length h
    rw [size_list] at this
    simp only [Option.some.injEq]
    constructor
    · rintro rfl; simp
    · intro h1
      exact List.eq_nil_of_length_eq_zero (by omega)
theorem rType_any (s : ByteArray) (w : World) : Calls Tryz.prog 77 #[.string s] w (Gives (.bool (isTy s.data.toList)) w) := by
  by_cases h0 : s.size < 1
  · have H : Hid (isTy s.data.toList = false) := Lib.hid (by rw [List.eq_nil_of_length_eq_zero (l := s.data.toList) (by rw [size_list]; omega)]; rfl)
    go_enter Tryz.func77, Tryz.ntmps77
    go_wp2_with fail
    go_ret
    exact Gives.mk (by rw [H.out]; rfl)
  by_cases h64 : 64 < s.size
  · have H := Lib.hid (isTy_long h64)
    go_enter Tryz.func77, Tryz.ntmps77
    go_wp2_with fail
    go_ret
    exact Gives.mk (by rw [H.out]; rfl)
  have H := Lib.hid (isTy_end (s := s) (by omega) (by omega))
  go_enter Tryz.func77, Tryz.ntmps77
  go_wp2_with fail
  refine (TypeEnd_any s 0 _ (Nat.zero_le _) (by omega)).mono ?_
  rintro e w' ⟨rfl, rfl⟩
  go_wp2_with fail
  go_ret
  refine Gives.mk ?_
  rw [H.out]
  refine bool_congr ?_
  rw [Bool.eq_iff_iff, beq_iff_eq, decide_eq_true_eq]
  omega
theorem rNote_any (s : ByteArray) (w : World) : Calls Tryz.prog 57 #[.string s] w (Gives (.bool (Tr.note s.data.toList)) w) := by
  by_cases h : s.size = 0
  · have q := nil_yes h
    have H := Lib.hid (note_nil h)
    clear h
    go_enter Tryz.func57, Tryz.ntmps57
    go_wp2_with fail
    go_ret
    exact Gives.mk (by rw [H.out]; rfl)
  · have q := nil_no h
    have H := Lib.hid (note_some h)
    clear h
    go_enter Tryz.func57, Tryz.ntmps57
    go_wp2_with fail
    refine (rType_any s _).mono ?_
    rintro e w' ⟨rfl, rfl⟩
    rw [← H.out]
    go_wp2_with fail
    go_ret
    exact Gives.mk rfl
end Go.Proofs.YtebameiaeldfiaaGreatDoor

/- Walks of the reference's types as texts (culpritref04), and of culpritref00.Deep. -/
import Derived.Test.YtnmhiddahfnkoaaTw
namespace Go.Proofs.Ytnmhiddahfnkoaa
set_option linter.unusedSimpArgs false
set_option linter.unusedVariables false
open Go.RowKit Culp

theorem byte_cases (c : UInt8) : c = 105 ∨ c = 98 ∨ c = 116 ∨ c = 63 ∨ c = 108 ∨ c = 120 ∨ c = 62 ∨ c = 44 ∨
    (ari c = none ∧ ((c.toNat : Int) == 105) = false ∧ ((c.toNat : Int) == 98) = false ∧ ((c.toNat : Int) == 116) = false ∧ ((c.toNat : Int) == 63) = false ∧
      ((c.toNat : Int) == 108) = false ∧ ((c.toNat : Int) == 120) = false ∧ ((c.toNat : Int) == 62) = false ∧ ((c.toNat : Int) == 44) = false) := by
  by_cases h1 : c = 105; · exact .inl h1
  by_cases h2 : c = 98; · exact .inr (.inl h2)
  by_cases h3 : c = 116; · exact .inr (.inr (.inl h3))
  by_cases h4 : c = 63; · exact .inr (.inr (.inr (.inl h4)))
  by_cases h5 : c = 108; · exact .inr (.inr (.inr (.inr (.inl h5))))
  by_cases h6 : c = 120; · exact .inr (.inr (.inr (.inr (.inr (.inl h6)))))
  by_cases h7 : c = 62; · exact .inr (.inr (.inr (.inr (.inr (.inr (.inl h7))))))
  by_cases h8 : c = 44; · exact .inr (.inr (.inr (.inr (.inr (.inr (.inr (.inl h8)))))))
  refine .inr (.inr (.inr (.inr (.inr (.inr (.inr (.inr ⟨?_, ?_⟩)))))))
  · simp [ari, h1, h2, h3, h4, h5, h6, h7, h8]
  · have e := fun n => u8_eq_iff c n
    have a1 := e 105; have a2 := e 98; have a3 := e 116; have a4 := e 63; have a5 := e 108; have a6 := e 120; have a7 := e 62; have a8 := e 44
    simp at a1 a2 a3 a4 a5 a6 a7 a8
    refine ⟨?_, ?_, ?_, ?_, ?_, ?_, ?_, ?_⟩ <;> rw [beq_eq_false_iff_ne] <;> simp_all

/-- What Behind answers. -/
def behindI (s : ByteArray) (k : Nat) : Int := match eatAt s k 1 with | some r => ((s.size - r.length : Nat) : Int) | none => -1
theorem behind_some {s : ByteArray} {k j : Nat} (hj : j ≤ s.size) (h : eatAt s k 1 = some (s.data.toList.drop j)) : behindI s k = j := by
  unfold behindI
  rw [h]
  have : s.data.toList.length = s.size := by simp
  simp only [List.length_drop, this]
  omega
theorem behind_none {s : ByteArray} {k : Nat} (h : eatAt s k 1 = none) : behindI s k = -1 := by unfold behindI; rw [h]

set_option maxHeartbeats 1600000 in
theorem Behind_any (s : ByteArray) (k : Nat) (w : World) (hs : s.size ≤ 1000000000000000) :
    Calls Try.prog 79 #[.string s, .int .i64 k] w (Gives (.int .i64 (behindI s k)) w) := by
  by_cases hk : s.size ≤ k
  · have X := Lib.hid (behind_none (eatAt_end s 0 hk))
    have hk0 : (0 : Int) ≤ (k : Int) := by omega
    go_enter Try.func79, Try.ntmps79
    go_wp2
    go_ret
    exact Gives.mk (int_congr X.out.symm)
  · have hk0 : (0 : Int) ≤ (k : Int) := by omega
    have hkl : (k : Int) < (s.size : Int) := by omega
    go_enter Try.func79, Try.ntmps79
    go_wp2
    go_loop [1, 5] (fun a l => ∃ j n : Nat, j ≤ s.size ∧ n ≤ j + 1 ∧ a = .int .i64 j ∧ l = .int .i64 n ∧ Hid (eatAt s k 1 = eatAt s j n)) (fun a _ => s.size - (intOf a).toNat)
    case atStart => exact ⟨k, 1, by omega, by omega, rfl, rfl, rfl⟩
    case round =>
      obtain ⟨j, n, hj, hn, rfl, rfl, H⟩ := hrel
      rcases n with _ | n
      · have X : Hid (behindI s k = j) := behind_some hj (H.out.trans (by simp [eatAt]))
        clear H
        go_wp2
        all_goals
          go_ret
          exact Gives.mk (int_congr X.out.symm)
      · by_cases hlt : j < s.size
        · rcases byte_cases s[j] with h | h | h | h | h | h | h | h | ⟨ha, h1, h2, h3, h4, h5, h6, h7, h8⟩
          case inr.inr.inr.inr.inr.inr.inr.inr =>
            have X : Hid (behindI s k = -1) := behind_none (H.out.trans (eatAt_bad s n hlt ha))
            clear ha H
            go_wp2
            go_ret
            exact Gives.mk (int_congr X.out.symm)
          all_goals first
            | (have ha : ari s[j] = some 0 := by rw [h]; rfl
               have X : Hid (eatAt s k 1 = eatAt s (j + 1) (n + 0)) := H.out.trans (eatAt_step s n hlt ha)
               clear ha H
               go_wp2
               go_round
               case rel => exact ⟨j + 1, n + 0, by omega, by omega, by go_num, by go_num, X⟩
               case measure => (simp [intOf]; omega))
            | (have ha : ari s[j] = some 1 := by rw [h]; rfl
               have X : Hid (eatAt s k 1 = eatAt s (j + 1) (n + 1)) := H.out.trans (eatAt_step s n hlt ha)
               clear ha H
               go_wp2
               go_round
               case rel => exact ⟨j + 1, n + 1, by omega, by omega, by go_num, by go_num, X⟩
               case measure => (simp [intOf]; omega))
            | (have ha : ari s[j] = some 2 := by rw [h]; rfl
               have X : Hid (eatAt s k 1 = eatAt s (j + 1) (n + 2)) := H.out.trans (eatAt_step s n hlt ha)
               clear ha H
               go_wp2
               go_round
               case rel => exact ⟨j + 1, n + 2, by omega, by omega, by go_num, by go_num, X⟩
               case measure => (simp [intOf]; omega))
        · have X : Hid (behindI s k = -1) := behind_none (H.out.trans (eatAt_end s n (by omega)))
          clear H
          go_wp2
          go_ret
          exact Gives.mk (int_congr X.out.symm)

/-- Some truth, and nothing done. -/
def SomeBool (w : World) (e : Ending) (w' : World) : Prop := ∃ b : Bool, e = .returned (.bool b) ∧ w = w'
set_option maxHeartbeats 400000 in
theorem Deep_any (s : ByteArray) (w : World) (hs : s.size ≤ 1000000000000000) : Calls Try.prog 50 #[.string s] w (SomeBool w) := by
  go_enter Try.func50, Try.ntmps50
  go_wp2
  go_loop [3, 4] (fun m i => ∃ j n : Nat, j ≤ s.size ∧ n ≤ 13 ∧ i = .int .i64 j ∧ m = .int .i64 n) (fun _ i => s.size - (intOf i).toNat)
  case atStart => exact ⟨0, 0, by omega, by omega, rfl, rfl⟩
  case round =>
    obtain ⟨j, n, hj, hn, rfl, rfl⟩ := hrel
    by_cases hlt : j < s.size
    · by_cases hn' : n ≤ 12
      · go_wp2
        · go_round
          case rel => exact ⟨j + 1, n + 1, by omega, by omega, by go_num, by go_num⟩
          case measure => simp [intOf]; omega
        · go_round
          case rel => exact ⟨j + 1, n, by omega, by omega, by go_num, rfl⟩
          case measure => simp [intOf]; omega
      · go_wp2
        go_ret
        exact ⟨_, rfl, rfl⟩
    · go_wp2
      go_ret
      exact ⟨_, rfl, rfl⟩

theorem isTy_behind {s : ByteArray} (h : s.size ≤ 64) (h0 : 0 < s.size) : (behindI s 0 == (s.size : Int)) = isTy s.data.toList := by
  rw [isTy_short h]
  cases he : eatAt s 0 1 with
  | none => rw [behind_none he, beq_eq_false_iff_ne.2 (by omega)]; rfl
  | some r =>
    have hr := eat_length he
    simp at hr
    have hb : behindI s 0 = ((s.size - r.length : Nat) : Int) := by unfold behindI; rw [he]
    rw [hb]
    cases r with
    | nil => simp
    | cons c r => simp at hr ⊢; omega
set_option maxHeartbeats 800000 in
theorem Good_any (s : ByteArray) (w : World) (hs : s.size ≤ 1000000000000000) : Calls Try.prog 74 #[.string s] w (Gives (.bool (isTy s.data.toList)) w) := by
  by_cases h1 : s.size ≤ 64
  · by_cases h0 : 0 < s.size
    · have X := Lib.hid (isTy_behind h1 h0)
      have i1 : (s.size : Int) ≤ 64 := by omega
      have i2 : (0 : Int) < (s.size : Int) := by omega
      go_enter Try.func74, Try.ntmps74
      go_wp2_with (go_at_call 79; refine (Behind_any s 0 _ hs).mono ?_; rintro e w' ⟨rfl, rfl⟩)
      go_ret
      exact Gives.mk (bool_congr X.out)
    · have X : Hid (isTy s.data.toList = false) := by
        have : s.size = 0 := by omega
        have : s.data.toList = [] := List.eq_nil_of_length_eq_zero (by simpa using this)
        rw [Hid, this]; rfl
      go_enter Try.func74, Try.ntmps74
      go_wp2_with fail
      go_ret
      exact Gives.mk (bool_congr X.out.symm)
  · have X := Lib.hid (isTy_long (s := s) (by omega))
    go_enter Try.func74, Try.ntmps74
    go_wp2_with fail
    go_ret
    exact Gives.mk (bool_congr X.out.symm)

set_option maxHeartbeats 400000 in
theorem rParts_any (t : Ty) (w : World) : Calls Try.prog 80 #[.int .u8 t.hd.toNat] w (Gives (.int .i64 t.kids.length) w) := by
  cases t
  all_goals
    simp only [Ty.hd, Ty.kids]
    go_enter Try.func80, Try.ntmps80
    go_wp2
    go_ret
    exact Gives.mk rfl

end Go.Proofs.Ytnmhiddahfnkoaa


/- Walks of package text and of its reference: words and names. -/
import Derived.Test.YtebameiaeldfiaaGreatDoorTxQ
namespace Culp.Tx
set_option linter.unusedSimpArgs false
set_option linter.unusedVariables false
section
variable {l : List UInt8}
theorem isName_nil : isName [] = false := by decide
theorem isName_long (h : 32 < l.length) : isName l = false := by unfold isName; rw [decide_eq_false (p := l.length ≤ 32) (by omega)]; simp
theorem isName_first {c : UInt8} (h : l.head? = some c) (hc : letter c = false) : isName l = false := by unfold isName; rw [h]; simp [hc]
theorem isName_word (h : isWord l = true) : isName l = false := by unfold isName; rw [h]; simp
theorem isName_inner (h : ¬ l.all inner = true) : isName l = false := by unfold isName; rw [Bool.eq_false_iff.2 h]; simp
theorem isName_yes {c : UInt8} (h : l.head? = some c) (h1 : l.length ≤ 32) (hc : letter c = true) (hw : isWord l = false) (hi : l.all inner = true) : isName l = true := by
  unfold isName
  rw [h, hw, hi, decide_eq_true h1]
  cases l with
  | nil => simp at h
  | cons d l => simp [hc]
end
end Culp.Tx
namespace Go.Proofs.YtebameiaeldfiaaGreatDoor
open Go.RowKit Go.Maps Culp

theorem bs_self (s : ByteArray) : bs s.data.toList = s := str_inj' (bs_list _)
set_option maxHeartbeats 800000 in
theorem tIsWord_any (s : ByteArray) (w : World) (hs : s.size ≤ 140737488351232) (hS : Sp w) : Calls Tryz.prog 93 #[.string s] w (Makes (.bool (Tx.isWord s.data.toList)) w) := by
  have hkey : keyOf Tryz.prog 9 (.string s) = some (.string s.data.toList) := Go.WideMaps.keyOf_string_mk Tryz.underlying9 (by unfold maxLen; omega)
  have HS := Lib.hid hS
  clear hS
  go_enter Tryz.func93, Tryz.ntmps93
  go_wp2_with fail
  refine (twords_any _ HS.out).mono ?_
  rintro e w2 ⟨B, rfl, hB, hown, hb⟩
  have HB := Lib.hid hb
  unfold WordsMap at hown
  clear hb hB
  go_wp2_with (at_lookup; refine wpList_lookup_own_int _ rfl _ _ 154 rfl 9 3 .i64 lawS Tryz.underlying154 Tryz.underlying3 (zeroI _) B 23 _ rfl hown _ _ rfl hkey ?_; intro c hat hwc)
  obtain ⟨h1, h2⟩ := wordsD_is _ hat
  have H2 := Lib.hid h2
  clear h2 hat hwc hown hkey
  go_wp2_with fail
  go_ret
  exact Makes.mk (bool_congr H2.out) HB.out

set_option maxHeartbeats 1600000 in
theorem tIsName_any (s : ByteArray) (w : World) (hs : s.size ≤ 140737488351232) (hS : Sp w) : Calls Tryz.prog 72 #[.string s] w (Makes (.bool (Tx.isName s.data.toList)) w) := by
  have hl := size_list s
  have HSP := Lib.hid hS
  clear hS
  by_cases h0 : s.size = 0
  · have HN : Hid (Tx.isName s.data.toList = false) := Lib.hid (by rw [List.eq_nil_of_length_eq_zero (l := s.data.toList) (by omega)]; exact Tx.isName_nil)
    have q1 : (s.toList == []) = true := by rw [toL', List.eq_nil_of_length_eq_zero (l := s.data.toList) (by omega)]; rfl
    have q2 : s.size ≤ 0 := by omega
    clear hl h0
    go_enter Tryz.func72, Tryz.ntmps72
    go_wp2_with fail
    go_ret
    exact Makes.mk (by rw [HN.out]; rfl) (Below.refl _ _)
  have h1 : 0 < s.size := by omega
  have q1 : (s.toList == []) = false := by
    rw [toL']
    cases hx : s.data.toList with
    | nil => rw [hx] at hl; simp at hl; omega
    | cons a b => rfl
  have hh := head_get s h1
  clear h0
  by_cases h32 : 32 < s.size
  · have HN := Lib.hid (Tx.isName_long (l := s.data.toList) (by omega))
    clear hl hh
    go_enter Tryz.func72, Tryz.ntmps72
    go_wp2_with fail
    go_ret
    exact Makes.mk (by rw [HN.out]; rfl) (Below.refl _ _)
  have HL := Lib.hid hl
  have HH := Lib.hid hh
  clear hl hh
  cases hc : Tx.letter s[0]
  · have HN := Lib.hid (Tx.isName_first HH.out hc)
    have HC := Lib.hid hc
    clear hc
    go_enter Tryz.func72, Tryz.ntmps72
    go_wp2_with fail
    refine (tletter_any s[0] _).mono ?_
    rw [HC.out]
    rintro e w' ⟨rfl, rfl⟩
    go_wp2_with fail
    go_ret
    exact Makes.mk (by rw [HN.out]; rfl) (Below.refl _ _)
  have HC := Lib.hid hc
  clear hc
  cases hw : Tx.isWord s.data.toList
  case true =>
    have HN := Lib.hid (Tx.isName_word hw)
    have HW := Lib.hid hw
    clear hw
    go_enter Tryz.func72, Tryz.ntmps72
    go_wp2_with fail
    refine (tletter_any s[0] _).mono ?_
    rw [HC.out]
    rintro e w' ⟨rfl, rfl⟩
    go_wp2_with fail
    refine (tIsWord_any s _ hs HSP.out).mono ?_
    rw [HW.out]
    rintro e w2 ⟨rfl, hb⟩
    have HB := Lib.hid hb
    clear hb
    go_wp2_with fail
    go_ret
    exact Makes.mk (by rw [HN.out]; rfl) HB.out
  have HW := Lib.hid hw
  clear hw
  go_enter Tryz.func72, Tryz.ntmps72
  go_wp2_with fail
  refine (tletter_any s[0] _).mono ?_
  rw [HC.out]
  rintro e w' ⟨rfl, rfl⟩
  go_wp2_with fail
  refine (tIsWord_any s _ hs HSP.out).mono ?_
  rw [HW.out]
  rintro e w2 ⟨rfl, hb⟩
  have HB := Lib.hid hb
  clear hb
  go_wp2_with fail
  go_loop [23] (fun i => ∃ k : Nat, k ≤ s.size ∧ i = .int .i64 k ∧ Hid ((s.data.toList.take k).all Tx.inner = true)) (fun i => s.size - (intOf i).toNat)
  case atStart => exact ⟨0, Nat.zero_le _, rfl, Lib.hid rfl⟩
  case round =>
    obtain ⟨k, hk, rfl, HA⟩ := hrel
    by_cases hlt : k < s.size
    · have HM := Lib.hid (mem_get s k hlt)
      have HT := Lib.hid (take_snoc' s k hlt)
      cases hi : Tx.inner s[k]
      · have HN := Lib.hid (Tx.isName_inner (not_all_of HM.out hi))
        have HI := Lib.hid hi
        clear hi
        go_wp2_with fail
        refine (inner_any s[k] _).mono ?_
        rw [HI.out]
        rintro e w' ⟨rfl, rfl⟩
        go_wp2_with fail
        go_ret
        exact Makes.mk (by rw [HN.out]; rfl) HB.out
      · have HN : Hid ((s.data.toList.take (k + 1)).all Tx.inner = true) := Lib.hid (by rw [HT.out, List.all_append, HA.out]; simp [hi])
        have HI := Lib.hid hi
        clear hi
        go_wp2_with fail
        refine (inner_any s[k] _).mono ?_
        rw [HI.out]
        rintro e w' ⟨rfl, rfl⟩
        go_wp2_with fail
        go_round
        case rel => exact ⟨k + 1, by omega, by go_num, HN⟩
        case measure => simp [intOf]; omega
    · have HN := Lib.hid (Tx.isName_yes HH.out (by rw [HL.out]; omega) HC.out HW.out (by have := HA.out; rw [List.take_of_length_le (by rw [HL.out]; omega)] at this; exact this))
      go_wp2_with fail
      go_ret
      exact Makes.mk (by rw [HN.out]; rfl) HB.out
set_option maxHeartbeats 1600000 in
theorem rIsName_any (s : ByteArray) (w : World) (hs : s.size ≤ 140737488351232) : Calls Tryz.prog 56 #[.string s] w (Makes (.bool (Tx.isName s.data.toList)) w) := by
  have hl := size_list s
  have HE := bs_self s
  have HE2 := Lib.hid HE
  clear HE
  by_cases h0 : s.size = 0
  · have HN : Hid (Tx.isName s.data.toList = false) := Lib.hid (by rw [List.eq_nil_of_length_eq_zero (l := s.data.toList) (by omega)]; exact Tx.isName_nil)
    have q1 : (s.toList == []) = true := by rw [toL', List.eq_nil_of_length_eq_zero (l := s.data.toList) (by omega)]; rfl
    have q2 : s.size ≤ 0 := by omega
    clear hl h0
    go_enter Tryz.func56, Tryz.ntmps56
    go_wp2_with fail
    go_ret
    exact Makes.mk (by rw [HN.out]; rfl) (Below.refl _ _)
  have h1 : 0 < s.size := by omega
  have q1 : (s.toList == []) = false := by
    rw [toL']
    cases hx : s.data.toList with
    | nil => rw [hx] at hl; simp at hl; omega
    | cons a b => rfl
  have hh := head_get s h1
  clear h0
  by_cases h32 : 32 < s.size
  · have HN := Lib.hid (Tx.isName_long (l := s.data.toList) (by omega))
    clear hl hh
    go_enter Tryz.func56, Tryz.ntmps56
    go_wp2_with fail
    go_ret
    exact Makes.mk (by rw [HN.out]; rfl) (Below.refl _ _)
  have HL := Lib.hid hl
  have HH := Lib.hid hh
  clear hl hh
  cases hc : Tx.letter s[0]
  · have HN := Lib.hid (Tx.isName_first HH.out hc)
    have HC := Lib.hid hc
    clear hc
    go_enter Tryz.func56, Tryz.ntmps56
    go_wp2_with fail
    refine (rletter_any s[0] _).mono ?_
    rw [HC.out]
    rintro e w' ⟨rfl, rfl⟩
    go_wp2_with fail
    go_ret
    exact Makes.mk (by rw [HN.out]; rfl) (Below.refl _ _)
  have HC := Lib.hid hc
  clear hc
  cases hw : Tx.isWord s.data.toList
  case true =>
    have HN := Lib.hid (Tx.isName_word hw)
    have HW := Lib.hid hw
    clear hw
    go_enter Tryz.func56, Tryz.ntmps56
    go_wp2_with fail
    refine (rletter_any s[0] _).mono ?_
    rw [HC.out]
    rintro e w' ⟨rfl, rfl⟩
    go_wp2_with fail
    refine ((show Calls Tryz.prog 75 #[.string s] _ (Makes (.bool (Tx.isWord s.data.toList)) _) by have := rIsWord_any s.data.toList w; rw [bs_self] at this; exact this)).mono ?_
    rw [HW.out]
    rintro e w2 ⟨rfl, hb⟩
    have HB := Lib.hid hb
    clear hb
    go_wp2_with fail
    go_ret
    exact Makes.mk (by rw [HN.out]; rfl) HB.out
  have HW := Lib.hid hw
  clear hw
  go_enter Tryz.func56, Tryz.ntmps56
  go_wp2_with fail
  refine (rletter_any s[0] _).mono ?_
  rw [HC.out]
  rintro e w' ⟨rfl, rfl⟩
  go_wp2_with fail
  refine ((show Calls Tryz.prog 75 #[.string s] _ (Makes (.bool (Tx.isWord s.data.toList)) _) by have := rIsWord_any s.data.toList w; rw [bs_self] at this; exact this)).mono ?_
  rw [HW.out]
  rintro e w2 ⟨rfl, hb⟩
  have HB := Lib.hid hb
  clear hb
  go_wp2_with fail
  go_loop [3] (fun i => ∃ k : Nat, k ≤ s.size ∧ i = .int .i64 k ∧ Hid ((s.data.toList.take k).all Tx.inner = true)) (fun i => s.size - (intOf i).toNat)
  case atStart => exact ⟨0, Nat.zero_le _, rfl, Lib.hid rfl⟩
  case round =>
    obtain ⟨k, hk, rfl, HA⟩ := hrel
    by_cases hlt : k < s.size
    · have HM := Lib.hid (mem_get s k hlt)
      have HT := Lib.hid (take_snoc' s k hlt)
      cases hi : Tx.inner s[k]
      · have HN := Lib.hid (Tx.isName_inner (not_all_of HM.out hi))
        obtain ⟨i1, i2, i3⟩ := inner_nor hi
        have i4 : (((s[k].toNat : Nat) : Int) != 95) = true := by rw [bne, i3]; rfl
        have HI1 := Lib.hid i1
        have HI2 := Lib.hid i2
        clear hi i1 i2 i3
        go_wp2_with fail
        refine (rletter_any s[k] _).mono ?_
        rw [HI1.out]
        rintro e w' ⟨rfl, rfl⟩
        go_wp2_with fail
        refine (rdigit_any s[k] _).mono ?_
        rw [HI2.out]
        rintro e w' ⟨rfl, rfl⟩
        go_wp2_with fail
        go_ret
        exact Makes.mk (by rw [HN.out]; rfl) HB.out
      · have HN : Hid ((s.data.toList.take (k + 1)).all Tx.inner = true) := Lib.hid (by rw [HT.out, List.all_append, HA.out]; simp [hi])
        rcases inner_or hi with i1 | ⟨i1, i2⟩ | ⟨i1, i2, i3⟩
        · have HI1 := Lib.hid i1
          clear hi i1
          go_wp2_with fail
          refine (rletter_any s[k] _).mono ?_
          rw [HI1.out]
          rintro e w' ⟨rfl, rfl⟩
          go_wp2_with fail
          go_round
          case rel => exact ⟨k + 1, by omega, by go_num, HN⟩
          case measure => simp [intOf]; omega
        · have HI1 := Lib.hid i1
          have HI2 := Lib.hid i2
          clear hi i1 i2
          go_wp2_with fail
          refine (rletter_any s[k] _).mono ?_
          rw [HI1.out]
          rintro e w' ⟨rfl, rfl⟩
          go_wp2_with fail
          refine (rdigit_any s[k] _).mono ?_
          rw [HI2.out]
          rintro e w' ⟨rfl, rfl⟩
          go_wp2_with fail
          go_round
          case rel => exact ⟨k + 1, by omega, by go_num, HN⟩
          case measure => simp [intOf]; omega
        · have HI1 := Lib.hid i1
          have HI2 := Lib.hid i2
          have i4 : (((s[k].toNat : Nat) : Int) != 95) = false := by rw [bne, i3]; rfl
          clear hi i1 i2 i3
          go_wp2_with fail
          refine (rletter_any s[k] _).mono ?_
          rw [HI1.out]
          rintro e w' ⟨rfl, rfl⟩
          go_wp2_with fail
          refine (rdigit_any s[k] _).mono ?_
          rw [HI2.out]
          rintro e w' ⟨rfl, rfl⟩
          go_wp2_with fail
          go_round
          case rel => exact ⟨k + 1, by omega, by go_num, HN⟩
          case measure => simp [intOf]; omega
    · have HN := Lib.hid (Tx.isName_yes HH.out (by rw [HL.out]; omega) HC.out HW.out (by have := HA.out; rw [List.take_of_length_le (by rw [HL.out]; omega)] at this; exact this))
      go_wp2_with fail
      go_ret
      exact Makes.mk (by rw [HN.out]; rfl) HB.out
end Go.Proofs.YtebameiaeldfiaaGreatDoor

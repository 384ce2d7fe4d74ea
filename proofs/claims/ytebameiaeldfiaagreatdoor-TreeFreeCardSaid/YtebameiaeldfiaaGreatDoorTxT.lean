
/- Walks of the reference of package text: a text is quoted. -/
import Derived.Test.YtebameiaeldfiaaGreatDoorTxS
namespace Go.Proofs.YtebameiaeldfiaaGreatDoor
set_option linter.unusedSimpArgs false
set_option linter.unusedVariables false
open Go.RowKit Go.Maps Culp

theorem bs_app (a b : List UInt8) : bs a ++ bs b = bs (a ++ b) := str_inj' (by simp [bs])
theorem bs_more {t u : ByteArray} {a b : List UInt8} (h : t = bs a) (hu : u = bs b) : t ++ u = bs (a ++ b) := by rw [h, hu, bs_app]
theorem one_byte (s : ByteArray) (k : Nat) (h : k < s.size) : s.extract k (k + 1) = bs [s[k]] := by
  rw [extract_bs, Tx.drop1 (l := s.data.toList) (by rw [size_list]; exact h), show k + 1 - k = 1 by omega]; rfl
set_option maxRecDepth 100000 in
set_option maxHeartbeats 1600000 in
theorem rQuote_any (s : ByteArray) (w : World) (hs : s.size ≤ 140737488351232) : Calls Tryz.prog 88 #[.string s] w (QuoteRes s.data.toList w) := by
  have hl := size_list s
  by_cases h64 : 64 < s.size
  · have HQ := Lib.hid (Tx.quote_long (l := s.data.toList) (by omega))
    clear hl
    go_enter Tryz.func88, Tryz.ntmps88
    go_wp2_with fail
    go_ret2
    exact QuoteRes.no HQ.out (Below.refl _ _)
  have HL := Lib.hid hl
  clear hl
  go_enter Tryz.func88, Tryz.ntmps88
  go_wp2_with fail
  go_loop [4, 5] (fun v i => ∃ (k : Nat) (acc : List UInt8) (t : ByteArray), k ≤ s.size ∧ i = .int .i64 k ∧ v = .string t ∧ Hid (t = bs (34 :: acc)) ∧ Hid (Tx.escs (s.data.toList.take k) = some acc) ∧ acc.length ≤ 2 * k ∧ t.size ≤ 2 * k + 1) (fun _ i => s.size - (intOf i).toNat)
  case atStart => exact ⟨0, [], _, Nat.zero_le _, rfl, rfl, Lib.hid rfl, Lib.hid rfl, by simp, by decide⟩
  case round =>
    obtain ⟨k, acc, t, hk, rfl, rfl, HTT, HE, hal, htl⟩ := hrel
    by_cases hlt : k < s.size
    · have HM := Lib.hid (mem_get s k hlt)
      have HT := Lib.hid (take_snoc' s k hlt)
      have step : ∀ e, Tx.esc s[k] = some e → Hid (Tx.escs (s.data.toList.take (k + 1)) = some (acc ++ e)) := fun e he => Lib.hid (by rw [HT.out]; exact Tx.escs_snoc HE.out he)
      by_cases c10 : s[k].toNat = 10
      · have e10 := eq_lit (n := s[k].toNat) (z := 10) (by omega)
        have HE2 := step _ (Tx.esc_nl c10)
        clear step c10
        go_wp2_with fail
        go_round
        case rel => exact ⟨k + 1, acc ++ [92, 110], _, by omega, by go_num, rfl, Lib.hid (bs_more (b := [92, 110]) HTT.out (by first | exact HX.out | rfl)), HE2, by simp; omega, by rw [ByteArray.size_append]; first | (rw [HX.out, bs_size]; simp; omega) | (show t.size + 2 ≤ _; omega)⟩
        case measure => simp [intOf]; omega
      have e10 := ne_lit (n := s[k].toNat) (z := 10) (by omega)
      by_cases c34 : s[k].toNat = 34
      · have e34 := eq_lit (n := s[k].toNat) (z := 34) (by omega)
        have ec : s[k] = 34 := UInt8.toNat_inj.1 c34
        have HE2 := step _ (Tx.esc_q (.inl c34))
        rw [ec] at HE2
        clear step c34 ec c10
        go_wp2_with fail
        go_round
        case rel => exact ⟨k + 1, acc ++ [92, 34], _, by omega, by go_num, rfl, Lib.hid (bs_more (b := [92, 34]) HTT.out (by first | exact HX.out | rfl)), HE2, by simp; omega, by rw [ByteArray.size_append]; first | (rw [HX.out, bs_size]; simp; omega) | (show t.size + 2 ≤ _; omega)⟩
        case measure => simp [intOf]; omega
      have e34 := ne_lit (n := s[k].toNat) (z := 34) (by omega)
      by_cases c92 : s[k].toNat = 92
      · have e92 := eq_lit (n := s[k].toNat) (z := 92) (by omega)
        have ec : s[k] = 92 := UInt8.toNat_inj.1 c92
        have HE2 := step _ (Tx.esc_q (.inr c92))
        rw [ec] at HE2
        clear step c34 c92 ec c10
        go_wp2_with fail
        go_round
        case rel => exact ⟨k + 1, acc ++ [92, 92], _, by omega, by go_num, rfl, Lib.hid (bs_more (b := [92, 92]) HTT.out (by first | exact HX.out | rfl)), HE2, by simp; omega, by rw [ByteArray.size_append]; first | (rw [HX.out, bs_size]; simp; omega) | (show t.size + 2 ≤ _; omega)⟩
        case measure => simp [intOf]; omega
      have e92 := ne_lit (n := s[k].toNat) (z := 92) (by omega)
      by_cases hr : s[k].toNat < 32 ∨ 126 < s[k].toNat
      · have HQ := Lib.hid (Tx.quote_bad (Tx.escs_no HM.out (Tx.esc_no c10 hr)))
        clear step c10 c34 c92
        by_cases hr2 : s[k].toNat < 32
        · clear hr
          go_wp2_with fail
          go_ret2
          exact QuoteRes.no HQ.out (Below.refl _ _)
        · have hr3 : 126 < s[k].toNat := by omega
          clear hr
          go_wp2_with fail
          go_ret2
          exact QuoteRes.no HQ.out (Below.refl _ _)
      have hr1 : 32 ≤ s[k].toNat := by omega
      have hr2 : s[k].toNat ≤ 126 := by omega
      have HE2 := step _ (Tx.esc_c hr1 hr2 c34 c92)
      have HX := Lib.hid (one_byte s k hlt)
      clear step c34 c92 hr c10
      go_wp2_with fail
      go_round
      case rel => exact ⟨k + 1, acc ++ [s[k]], _, by omega, by go_num, rfl, Lib.hid (bs_more (b := [s[k]]) HTT.out (by first | exact HX.out | rfl)), HE2, by simp; omega, by rw [ByteArray.size_append]; first | (rw [HX.out, bs_size]; simp; omega) | (show t.size + 2 ≤ _; omega)⟩
      case measure => simp [intOf]; omega
    · have HQ := Lib.hid (Tx.quote_good (l := s.data.toList) (m := acc) (by rw [HL.out]; omega) (by have := HE.out; rw [List.take_of_length_le (by rw [HL.out]; omega)] at this; exact this))
      go_wp2_with fail
      go_ret2
      exact QuoteRes.yes HQ.out (Below.refl _ _) (bs_more (b := [34]) HTT.out rfl)
end Go.Proofs.YtebameiaeldfiaaGreatDoor

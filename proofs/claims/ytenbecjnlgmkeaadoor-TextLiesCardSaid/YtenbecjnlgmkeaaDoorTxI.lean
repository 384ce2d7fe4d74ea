/- Walks of the reference of package text: a text in quotes. -/
import Derived.Test.YtenbecjnlgmkeaaDoorTxH
namespace Culp.Tx
set_option linter.unusedSimpArgs false
set_option linter.unusedVariables false
/-- So far a text's token has been read; places of the source. -/
def Unq2 (l : List UInt8) (at_ i : Nat) (acc : List UInt8) : Prop := Unq (l.drop at_) (i - at_) acc
section
variable {l acc : List UInt8} {at_ i n : Nat} {c : UInt8}
theorem Unq2.start : Unq2 l at_ (at_ + 1) [] := by
  unfold Unq2
  rw [show at_ + 1 - at_ = 1 by omega]
  exact Unq.start _
theorem drop_sub (h1 : at_ + 1 ≤ i) : (l.drop at_).drop (i - at_) = l.drop i := by rw [List.drop_drop]; congr 1; omega
theorem Unq2.more (h : Unq2 l at_ i acc) (h1 : at_ + 1 ≤ i) (hu : unq (l.drop i) = (unq (l.drop (i + n))).map (fun p => (c :: p.1, p.2 + n))) : Unq2 l at_ (i + n) (acc ++ [c]) := by
  unfold Unq2 at h ⊢
  rw [show i + n - at_ = (i - at_) + n by omega]
  refine h.more (by omega) ?_
  rw [drop_sub h1, show (i - at_) + n = i + n - at_ by omega, drop_sub (by omega), hu]
theorem Unq2.none (h : Unq2 l at_ i acc) (h1 : at_ + 1 ≤ i) (hu : unq (l.drop i) = Option.none) : unq ((l.drop at_).drop 1) = Option.none := Unq.none h (by rw [drop_sub h1, hu])
theorem Unq2.done (h : Unq2 l at_ i acc) (h1 : at_ + 1 ≤ i) (hu : unq (l.drop i) = some ([], 1)) : unq ((l.drop at_).drop 1) = some (acc, i - at_) := Unq.done h (by omega) (by rw [drop_sub h1, hu])
end
end Culp.Tx
namespace Go.Proofs.YtenbecjnlgmkeaaDoor
open Go.RowKit Culp

set_option maxRecDepth 100000 in
set_option maxHeartbeats 1600000 in
theorem rquoted_any (s : ByteArray) (sv : Value) (at_ : Nat) (w : World) (hb : BytesV w sv s) (h0 : at_ < s.size) (hs : s.size ≤ 1000000) :
    Calls Tryd.prog 39 #[sv, .int .i64 at_] w (QuotedRes (s.data.toList.drop at_) at_ w) := by
  obtain ⟨A, c, rfl, hc, hA⟩ := hb
  obtain ⟨b, o, rfl, hB⟩ := hA (by omega)
  have HB := Lib.hid hB
  clear hA hB
  go_enter Tryd.func39, Tryd.ntmps39
  go_wp2_with fail
  go_loopw [7, 8] (fun v i wr => ∃ (i' : Nat) (acc : List UInt8) (u : Value), i = .int .i64 i' ∧ v = u ∧ at_ + 1 ≤ i' ∧ i' ≤ s.size ∧ acc.length ≤ i' ∧ Hid (Tx.Unq2 s.data.toList at_ i' acc) ∧ wr.ownsRow w.heap.size 5 1 u acc.length (acc.map byteV) ∧ Below w.heap.size w wr) (fun _ i _ => s.size - (intOf i).toNat)
  case atStart => exact ⟨at_ + 1, [], _, by go_num, rfl, Nat.le_refl _, h0, by simp, Lib.hid Tx.Unq2.start, World.ownsRow_nil _ _ _ _, Below.refl _ _⟩
  case round =>
    obtain ⟨i, acc, u, rfl, rfl, hk1, hk, hal, HU, hown, hbel⟩ := hrel
    by_cases hlt : i < s.size
    · have hkl : i < s.data.toList.length := by rw [size_list]; exact hlt
      have hcell := cell_later hbel (HB.out i hlt)
      have hdr := Tx.drop1 hkl
      have hget : s.data.toList[i] = s[i] := rfl
      rw [hget] at hdr
      have HD := Lib.hid hdr
      clear hdr hget
      by_cases c34 : s[i].toNat = 34
      · have e34 := neq_lit0 (n := s[i].toNat) (z := 34) (by omega)
        have HF := Lib.hid (HU.out.done hk1 (by rw [HD.out]; exact Tx.unq_34 c34))
        have hcv := own_text hown
        have HBE := Lib.hid hbel
        have HL := Lib.hid hown.1
        obtain ⟨A2, c2, rfl, _, _⟩ := own_form hown
        clear hown hbel c34 HU HD
        go_wp2_with fail
        go_ret3
        exact QuotedRes.yes HF.out HBE.out (by omega) (by simp; omega)
      have e34 := neq_lit (n := s[i].toNat) (z := 34) (by omega)
      by_cases c92 : s[i].toNat = 92
      · have e92 := eq_lit (n := s[i].toNat) (z := 92) (by omega)
        by_cases hlt2 : i + 1 < s.size
        · have hkl2 : i + 1 < s.data.toList.length := by rw [size_list]; exact hlt2
          have hcell2 := cell_later hbel (HB.out (i + 1) hlt2)
          have hdr2 : s.data.toList.drop i = s[i] :: s[i + 1] :: s.data.toList.drop (i + 2) := Tx.drop2 hkl2
          have HD2 := Lib.hid hdr2
          have q1 : (((i : Nat) : Int) + 1 == ((s.size : Nat) : Int)) = false := by simp; omega
          clear hdr2
          by_cases d34 : s[i + 1].toNat = 34
          · have f34 := neq_lit0 (n := s[i + 1].toNat) (z := 34) (by omega)
            have f110 := ne_lit (n := s[i + 1].toNat) (z := 110) (by omega)
            have HU := Lib.hid (HU.out.more (n := 2) (c := s[i + 1]) hk1 (by rw [HD2.out]; exact Tx.unq_esc c92 (.inl d34)))
            clear c34 c92 d34 HD HD2
            go_wp2_with (at_builtin; refine append_one rfl (.tmp 68) (.tmp 70) 22 5 rfl w.heap.size _ 1 Tryd.underlying22 u8_info rfl _ _ _ rfl hown _ rfl rfl ?_ ?_ ?_ ?_)
            · omega
            · omega
            · exact hbel.size
            intro v' w2 hown' hg hb'
            have hb2 := hbel.trans hb'
            have hown2 : w2.ownsRow w.heap.size 5 1 v' (acc ++ [s[i + 1]]).length ((acc ++ [s[i + 1]]).map byteV) := by rw [List.length_append, List.map_append]; exact hown'
            clear hown hbel hg hb' hown'
            go_wp2_with fail
            go_roundw
            case rel => exact ⟨i + 2, acc ++ [s[i + 1]], v', rfl, rfl, by omega, by omega, by simp; omega, HU.out, hown2, hb2⟩
            case measure => simp [intOf]; omega
          have f34 := neq_lit (n := s[i + 1].toNat) (z := 34) (by omega)
          by_cases d92 : s[i + 1].toNat = 92
          · have f92 := neq_lit0 (n := s[i + 1].toNat) (z := 92) (by omega)
            have f110 := ne_lit (n := s[i + 1].toNat) (z := 110) (by omega)
            have HU := Lib.hid (HU.out.more (n := 2) (c := s[i + 1]) hk1 (by rw [HD2.out]; exact Tx.unq_esc c92 (.inr d92)))
            clear c34 c92 d34 d92 HD HD2
            go_wp2_with (at_builtin; refine append_one rfl (.tmp 68) (.tmp 70) 22 5 rfl w.heap.size _ 1 Tryd.underlying22 u8_info rfl _ _ _ rfl hown _ rfl rfl ?_ ?_ ?_ ?_)
            · omega
            · omega
            · exact hbel.size
            intro v' w2 hown' hg hb'
            have hb2 := hbel.trans hb'
            have hown2 : w2.ownsRow w.heap.size 5 1 v' (acc ++ [s[i + 1]]).length ((acc ++ [s[i + 1]]).map byteV) := by rw [List.length_append, List.map_append]; exact hown'
            clear hown hbel hg hb' hown'
            go_wp2_with fail
            go_roundw
            case rel => exact ⟨i + 2, acc ++ [s[i + 1]], v', rfl, rfl, by omega, by omega, by simp; omega, HU.out, hown2, hb2⟩
            case measure => simp [intOf]; omega
          have f92 := neq_lit (n := s[i + 1].toNat) (z := 92) (by omega)
          by_cases d110 : s[i + 1].toNat = 110
          · have f110 := eq_lit (n := s[i + 1].toNat) (z := 110) (by omega)
            have g110 := neq_lit0 (n := s[i + 1].toNat) (z := 110) (by omega)
            have HU := Lib.hid (HU.out.more (n := 2) (c := 10) hk1 (by rw [HD2.out]; exact Tx.unq_n c92 d110))
            clear c34 c92 d34 d92 d110 HD HD2
            go_wp2_with (at_builtin; refine append_one rfl (.tmp 68) (.tmp 70) 22 5 rfl w.heap.size _ 1 Tryd.underlying22 u8_info rfl _ _ _ rfl hown _ rfl rfl ?_ ?_ ?_ ?_)
            · omega
            · omega
            · exact hbel.size
            intro v' w2 hown' hg hb'
            have hb2 := hbel.trans hb'
            have hown2 : w2.ownsRow w.heap.size 5 1 v' (acc ++ [10]).length ((acc ++ [10]).map byteV) := by rw [List.length_append, List.map_append]; exact hown'
            clear hown hbel hg hb' hown'
            go_wp2_with fail
            go_roundw
            case rel => exact ⟨i + 2, acc ++ [10], v', rfl, rfl, by omega, by omega, by simp; omega, HU.out, hown2, hb2⟩
            case measure => simp [intOf]; omega
          · have g110 := neq_lit (n := s[i + 1].toNat) (z := 110) (by omega)
            have HF := Lib.hid (HU.out.none hk1 (by rw [HD2.out]; exact Tx.unq_92 c92 d34 d92 d110))
            clear c34 c92 d34 d92 d110 HD HD2
            have HBE := Lib.hid hbel
            clear hown hbel HU
            go_wp2_with fail
            go_ret3
            exact QuotedRes.no HF.out HBE.out
        · have HF := Lib.hid (HU.out.none hk1 (by rw [HD.out, List.drop_of_length_le (by rw [size_list]; omega)]; exact Tx.unq_one c34))
          have q1 : (((i : Nat) : Int) + 1 == ((s.size : Nat) : Int)) = true := by simp; omega
          clear c34 c92 HD
          have HBE := Lib.hid hbel
          clear hown hbel HU
          go_wp2_with fail
          go_ret3
          exact QuotedRes.no HF.out HBE.out
      have e92 := ne_lit (n := s[i].toNat) (z := 92) (by omega)
      by_cases hr : s[i].toNat < 32 ∨ 126 < s[i].toNat
      · have HF := Lib.hid (HU.out.none hk1 (by rw [HD.out]; exact Tx.unq_bad hr))
        clear c34 c92 HD
        by_cases hr2 : s[i].toNat < 32
        · clear hr
          have HBE := Lib.hid hbel
          clear hown hbel HU
          go_wp2_with fail
          go_ret3
          exact QuotedRes.no HF.out HBE.out
        · have hr3 : 126 < s[i].toNat := by omega
          clear hr
          have HBE := Lib.hid hbel
          clear hown hbel HU
          go_wp2_with fail
          go_ret3
          exact QuotedRes.no HF.out HBE.out
      · have hr2 : 32 ≤ s[i].toNat := by omega
        have hr3 : s[i].toNat ≤ 126 := by omega
        have HU := Lib.hid (HU.out.more (n := 1) (c := s[i]) hk1 (by rw [HD.out]; exact Tx.unq_c c34 c92 hr2 hr3))
        clear c34 c92 hr HD
        go_wp2_with (at_builtin; refine append_one rfl (.tmp 68) (.tmp 70) 22 5 rfl w.heap.size _ 1 Tryd.underlying22 u8_info rfl _ _ _ rfl hown _ rfl rfl ?_ ?_ ?_ ?_)
        · omega
        · omega
        · exact hbel.size
        intro v' w2 hown' hg hb'
        have hb2 := hbel.trans hb'
        have hown2 : w2.ownsRow w.heap.size 5 1 v' (acc ++ [s[i]]).length ((acc ++ [s[i]]).map byteV) := by rw [List.length_append, List.map_append]; exact hown'
        clear hown hbel hg hb' hown'
        go_wp2_with fail
        go_roundw
        case rel => exact ⟨i + 1, acc ++ [s[i]], v', rfl, rfl, by omega, by omega, by simp; omega, HU.out, hown2, hb2⟩
        case measure => simp [intOf]; omega
    · have HF := Lib.hid (HU.out.none hk1 (by rw [List.drop_of_length_le (by rw [size_list]; omega)]; rfl))
      have hcv := own_text hown
      obtain ⟨A2, c2, rfl, _, _⟩ := own_form hown
      have HBE := Lib.hid hbel
      clear hown hbel HU
      go_wp2_with fail
      go_ret3
      exact QuotedRes.no HF.out HBE.out
end Go.Proofs.YtenbecjnlgmkeaaDoor

/- Walks of package text and of its reference: a text in quotes. -/
import Derived.Test.YtenbecjnlgmkeaaDoorTxG
namespace Culp.Tx
set_option linter.unusedSimpArgs false
set_option linter.unusedVariables false
theorem unq_34 {c : UInt8} {l : List UInt8} (h : c.toNat = 34) : unq (c :: l) = some ([], 1) := by
  cases l with
  | nil => rw [unq, if_pos h]
  | cons d l => rw [unq, if_pos h]
theorem unq_esc {c d : UInt8} {l : List UInt8} (h : c.toNat = 92) (hd : d.toNat = 34 ∨ d.toNat = 92) : unq (c :: d :: l) = (unq l).map (fun p => (d :: p.1, p.2 + 2)) := by rw [unq, if_neg (by omega), if_pos h, if_pos hd]
theorem unq_n {c d : UInt8} {l : List UInt8} (h : c.toNat = 92) (hd : d.toNat = 110) : unq (c :: d :: l) = (unq l).map (fun p => (10 :: p.1, p.2 + 2)) := by rw [unq, if_neg (by omega), if_pos h, if_neg (by omega), if_pos hd]
theorem unq_bad {c : UInt8} {l : List UInt8} (h : c.toNat < 32 ∨ 126 < c.toNat) : unq (c :: l) = none := by
  cases l with
  | nil => rw [unq, if_neg (by omega)]
  | cons d l => rw [unq, if_neg (by omega), if_neg (by omega), if_pos h]
theorem unq_92 {c d : UInt8} {l : List UInt8} (h : c.toNat = 92) (hd : d.toNat ≠ 34) (hd2 : d.toNat ≠ 92) (hd3 : d.toNat ≠ 110) : unq (c :: d :: l) = none := by rw [unq, if_neg (by omega), if_pos h, if_neg (by omega), if_neg hd3]
theorem unq_one {c : UInt8} (h : c.toNat ≠ 34) : unq [c] = none := by rw [unq, if_neg h]
theorem unq_c {c : UInt8} {l : List UInt8} (h : c.toNat ≠ 34) (h1 : c.toNat ≠ 92) (h2 : 32 ≤ c.toNat) (h3 : c.toNat ≤ 126) : unq (c :: l) = (unq l).map (fun p => (c :: p.1, p.2 + 1)) := by
  cases l with
  | nil => rw [unq_one h]; rfl
  | cons d l => rw [unq, if_neg h, if_neg h1, if_neg (by omega)]
/-- So far a text's token has been read. -/
def Unq (l : List UInt8) (k : Nat) (acc : List UInt8) : Prop := unq (l.drop 1) = (unq (l.drop k)).map (fun p => (acc ++ p.1, p.2 + (k - 1)))
theorem Unq.start (l : List UInt8) : Unq l 1 [] := by unfold Unq; simp
theorem Unq.more {l acc : List UInt8} {k n : Nat} {c : UInt8} (h : Unq l k acc) (h1 : 1 ≤ k) (hu : unq (l.drop k) = (unq (l.drop (k + n))).map (fun p => (c :: p.1, p.2 + n))) : Unq l (k + n) (acc ++ [c]) := by
  unfold Unq at h ⊢
  rw [h, hu]
  cases unq (l.drop (k + n)) with
  | none => rfl
  | some p => simp; omega
theorem Unq.none {l acc : List UInt8} {k : Nat} (h : Unq l k acc) (hu : unq (l.drop k) = Option.none) : unq (l.drop 1) = Option.none := by
  unfold Unq at h; rw [h, hu]; rfl
theorem Unq.done {l acc : List UInt8} {k : Nat} (h : Unq l k acc) (h1 : 1 ≤ k) (hu : unq (l.drop k) = some ([], 1)) : unq (l.drop 1) = some (acc, k) := by
  unfold Unq at h; rw [h, hu]; simp; omega
theorem drop1 {l : List UInt8} {k : Nat} (hk : k < l.length) : l.drop k = l[k] :: l.drop (k + 1) := List.drop_eq_getElem_cons hk
theorem drop2 {l : List UInt8} {k : Nat} (hk : k + 1 < l.length) : l.drop k = l[k] :: l[k + 1] :: l.drop (k + 2) := by rw [drop1 (by omega), drop1 hk]
end Culp.Tx
namespace Go.Proofs.YtenbecjnlgmkeaaDoor
open Go.RowKit Culp

def byteV (c : UInt8) : Value := .int .u8 (c.toNat : Int)
theorem u8_info : (Tryd.prog.info? 5).map (fun i => (i.zero, i.size, i.bytes)) = some (some (.int .u8 0), 1, 1) := by kernel_rfl
theorem text_none (c : Nat) (W : World) : (convert 22 9 (.slice none ([] : List UInt8).length c)).run Tryd.prog W = .ok (.string (bs [])) W := by kernel_rfl
theorem text_at (w : World) (g c : Nat) (l : List UInt8) (h : Lib.Bytes w g 0 (bs l)) : (convert 22 9 (.slice (some ⟨g, 0, none⟩) l.length c)).run Tryd.prog w = .ok (.string (bs l)) w := by
  have := Lib.run_convert_whole w 22 5 9 Tryd.underlying22 Tryd.underlying5 Tryd.underlying9 g 0 (bs l) h c
  rw [bs_size] at this
  exact this
/-- An own row of bytes, as text. -/
theorem own_text {w : World} {base : Nat} {v : Value} {l : List UInt8} (h : w.ownsRow base 5 1 v l.length (l.map byteV)) : (convert 22 9 v).run Tryd.prog w = .ok (.string (bs l)) w := by
  obtain ⟨A, c, rfl, hl, hA⟩ := own_form h
  rcases Nat.eq_zero_or_pos l.length with h0 | h0
  · have hl0 : l = [] := List.eq_nil_of_length_eq_zero h0
    subst hl0
    have hA2 : A = none ∨ ∃ g, A = some ⟨g, 0, none⟩ := by
      rcases h.2 with ⟨hv, _⟩ | ⟨g, cap, cur, hv, _⟩
      · injection hv with hv1 _ hv3
        exact .inl hv1
      · injection hv with hv1 _ hv3
        exact .inr ⟨g, hv1⟩
    clear h hl hA h0
    rcases hA2 with rfl | ⟨g, rfl⟩
    · exact text_none c w
    · exact text_at w g c [] (fun i hi => absurd hi (by rw [bs_size]; simp))
  · obtain ⟨g, rfl, _, hc⟩ := hA h0
    refine text_at w g c l (fun i hi => ?_)
    rw [Nat.zero_add]
    refine hc i _ ?_
    rw [List.getElem?_map, List.getElem?_eq_getElem (by rw [← bs_size]; exact hi)]
    rfl

/-- What quoted answers. -/
def QuotedRes (l : List UInt8) (base : Nat) (w : World) (e : Ending) (w' : World) : Prop := Below w.heap.size w w' ∧ match Tx.unq (l.drop 1) with
  | some (t, k) => e = .returned (.tuple #[.string (bs t), .int .i64 ((base + k + 1 : Nat) : Int), .bool (decide (t.length ≤ 64))])
  | none => ∃ x y, e = .returned (.tuple #[x, y, .bool false])
theorem QuotedRes.yes {l t : List UInt8} {base k : Nat} {w w' : World} {x : Int} {b : Bool} (h : Tx.unq (l.drop 1) = some (t, k)) (hb : Below w.heap.size w w') (hx : x = ((base + k + 1 : Nat) : Int)) (hb2 : b = decide (t.length ≤ 64)) : QuotedRes l base w (.returned (.tuple #[.string (bs t), .int .i64 x, .bool b])) w' := ⟨hb, by rw [h, hx, hb2]⟩
theorem QuotedRes.no {l : List UInt8} {base : Nat} {w w' : World} {x y : Value} (h : Tx.unq (l.drop 1) = none) (hb : Below w.heap.size w w') : QuotedRes l base w (.returned (.tuple #[x, y, .bool false])) w' := ⟨hb, by rw [h]; exact ⟨x, y, rfl⟩⟩

set_option maxRecDepth 100000 in
set_option maxHeartbeats 1600000 in
theorem tquoted_any (s : ByteArray) (sv : Value) (w : World) (hb : BytesV w sv s) (h0 : 0 < s.size) (hs : s.size ≤ 1000000) :
    Calls Tryd.prog 50 #[sv] w (QuotedRes s.data.toList 0 w) := by
  obtain ⟨A, c, rfl, hc, hA⟩ := hb
  obtain ⟨b, o, rfl, hB⟩ := hA h0
  have HB := Lib.hid hB
  clear hA hB
  go_enter Tryd.func50, Tryd.ntmps50
  go_wp2_with fail
  go_loopw [5, 6] (fun v i wr => ∃ (k : Nat) (acc : List UInt8) (u : Value), i = .int .i64 k ∧ v = u ∧ 1 ≤ k ∧ k ≤ s.size ∧ acc.length ≤ k ∧ Hid (Tx.Unq s.data.toList k acc) ∧ wr.ownsRow w.heap.size 5 1 u acc.length (acc.map byteV) ∧ Below w.heap.size w wr) (fun _ i _ => s.size - (intOf i).toNat)
  case atStart => exact ⟨1, [], _, rfl, rfl, Nat.le_refl _, h0, by simp, Lib.hid (Tx.Unq.start _), World.ownsRow_nil _ _ _ _, Below.refl _ _⟩
  case round =>
    obtain ⟨k, acc, u, rfl, rfl, hk1, hk, hal, HU, hown, hbel⟩ := hrel
    by_cases hlt : k < s.size
    · have hkl : k < s.data.toList.length := by rw [size_list]; exact hlt
      have hcell := cell_later hbel (HB.out k hlt)
      have hdr := Tx.drop1 hkl
      have hget : s.data.toList[k] = s[k] := rfl
      rw [hget] at hdr
      have HD := Lib.hid hdr
      clear hdr hget
      by_cases c34 : s[k].toNat = 34
      · have e34 := eq_lit (n := s[k].toNat) (z := 34) (by omega)
        have HF := Lib.hid (HU.out.done hk1 (by rw [HD.out]; exact Tx.unq_34 c34))
        have hcv := own_text hown
        have HBE := Lib.hid hbel
        have HL := Lib.hid hown.1
        obtain ⟨A2, c2, rfl, _, _⟩ := own_form hown
        clear hown hbel c34 HU HD
        go_wp2_with fail
        go_ret3
        exact QuotedRes.yes HF.out HBE.out (by omega) (by simp; omega)
      have e34 := ne_lit (n := s[k].toNat) (z := 34) (by omega)
      by_cases c92 : s[k].toNat = 92
      · have e92 := eq_lit (n := s[k].toNat) (z := 92) (by omega)
        have l1 : 32 ≤ s[k].toNat := by omega
        have l2 : s[k].toNat ≤ 126 := by omega
        by_cases hlt2 : k + 1 < s.size
        · have hkl2 : k + 1 < s.data.toList.length := by rw [size_list]; exact hlt2
          have hcell2 := cell_later hbel (HB.out (k + 1) hlt2)
          have hdr2 : s.data.toList.drop k = s[k] :: s[k + 1] :: s.data.toList.drop (k + 2) := Tx.drop2 hkl2
          have HD2 := Lib.hid hdr2
          clear hdr2
          by_cases d34 : s[k + 1].toNat = 34
          · have f34 := eq_lit (n := s[k + 1].toNat) (z := 34) (by omega)
            have HU := Lib.hid (HU.out.more (n := 2) (c := s[k + 1]) hk1 (by rw [HD2.out]; exact Tx.unq_esc c92 (.inl d34)))
            clear c34 c92 d34 HD HD2
            go_wp2_with (at_builtin; refine append_one rfl (.tmp 60) (.tmp 65) 22 5 rfl w.heap.size _ 1 Tryd.underlying22 u8_info rfl _ _ _ rfl hown _ rfl rfl ?_ ?_ ?_ ?_)
            · omega
            · omega
            · exact hbel.size
            intro v' w2 hown' hg hb'
            have hb2 := hbel.trans hb'
            have hown2 : w2.ownsRow w.heap.size 5 1 v' (acc ++ [s[k + 1]]).length ((acc ++ [s[k + 1]]).map byteV) := by rw [List.length_append, List.map_append]; exact hown'
            clear hown hbel hg hb' hown'
            go_wp2_with fail
            go_roundw
            case rel => exact ⟨k + 2, acc ++ [s[k + 1]], v', rfl, rfl, by omega, by omega, by simp; omega, HU.out, hown2, hb2⟩
            case measure => simp [intOf]; omega
          have f34 := ne_lit (n := s[k + 1].toNat) (z := 34) (by omega)
          by_cases d92 : s[k + 1].toNat = 92
          · have f92 := eq_lit (n := s[k + 1].toNat) (z := 92) (by omega)
            have HU := Lib.hid (HU.out.more (n := 2) (c := s[k + 1]) hk1 (by rw [HD2.out]; exact Tx.unq_esc c92 (.inr d92)))
            clear c34 c92 d34 d92 HD HD2
            go_wp2_with (at_builtin; refine append_one rfl (.tmp 60) (.tmp 65) 22 5 rfl w.heap.size _ 1 Tryd.underlying22 u8_info rfl _ _ _ rfl hown _ rfl rfl ?_ ?_ ?_ ?_)
            · omega
            · omega
            · exact hbel.size
            intro v' w2 hown' hg hb'
            have hb2 := hbel.trans hb'
            have hown2 : w2.ownsRow w.heap.size 5 1 v' (acc ++ [s[k + 1]]).length ((acc ++ [s[k + 1]]).map byteV) := by rw [List.length_append, List.map_append]; exact hown'
            clear hown hbel hg hb' hown'
            go_wp2_with fail
            go_roundw
            case rel => exact ⟨k + 2, acc ++ [s[k + 1]], v', rfl, rfl, by omega, by omega, by simp; omega, HU.out, hown2, hb2⟩
            case measure => simp [intOf]; omega
          have f92 := ne_lit (n := s[k + 1].toNat) (z := 92) (by omega)
          by_cases d110 : s[k + 1].toNat = 110
          · have f110 := eq_lit (n := s[k + 1].toNat) (z := 110) (by omega)
            have HU := Lib.hid (HU.out.more (n := 2) (c := 10) hk1 (by rw [HD2.out]; exact Tx.unq_n c92 d110))
            clear c34 c92 d34 d92 d110 HD HD2
            go_wp2_with (at_builtin; refine append_one rfl (.tmp 87) (.tmp 88) 22 5 rfl w.heap.size _ 1 Tryd.underlying22 u8_info rfl _ _ _ rfl hown _ rfl rfl ?_ ?_ ?_ ?_)
            · omega
            · omega
            · exact hbel.size
            intro v' w2 hown' hg hb'
            have hb2 := hbel.trans hb'
            have hown2 : w2.ownsRow w.heap.size 5 1 v' (acc ++ [10]).length ((acc ++ [10]).map byteV) := by rw [List.length_append, List.map_append]; exact hown'
            clear hown hbel hg hb' hown'
            go_wp2_with fail
            go_roundw
            case rel => exact ⟨k + 2, acc ++ [10], v', rfl, rfl, by omega, by omega, by simp; omega, HU.out, hown2, hb2⟩
            case measure => simp [intOf]; omega
          · have f110 := ne_lit (n := s[k + 1].toNat) (z := 110) (by omega)
            have HF := Lib.hid (HU.out.none (by rw [HD2.out]; exact Tx.unq_92 c92 d34 d92 d110))
            have HBE := Lib.hid hbel
            clear hown hbel c34 c92 d34 d92 d110 HD HD2 HU
            go_wp2_with fail
            go_ret3
            exact QuotedRes.no HF.out HBE.out
        · have HF := Lib.hid (HU.out.none (by rw [HD.out, List.drop_of_length_le (by rw [size_list]; omega)]; exact Tx.unq_one c34))
          have HBE := Lib.hid hbel
          clear hown hbel c34 c92 HD HU
          go_wp2_with fail
          go_ret3
          exact QuotedRes.no HF.out HBE.out
      have e92 := ne_lit (n := s[k].toNat) (z := 92) (by omega)
      by_cases hr : s[k].toNat < 32 ∨ 126 < s[k].toNat
      · have HF := Lib.hid (HU.out.none (by rw [HD.out]; exact Tx.unq_bad hr))
        have HBE := Lib.hid hbel
        clear hown hbel c34 c92 HD HU
        by_cases hr2 : s[k].toNat < 32
        · go_wp2_with fail
          go_ret3
          exact QuotedRes.no HF.out HBE.out
        · have hr3 : 126 < s[k].toNat := by omega
          go_wp2_with fail
          go_ret3
          exact QuotedRes.no HF.out HBE.out
      · have hr2 : 32 ≤ s[k].toNat := by omega
        have hr3 : s[k].toNat ≤ 126 := by omega
        have HU := Lib.hid (HU.out.more (n := 1) (c := s[k]) hk1 (by rw [HD.out]; exact Tx.unq_c c34 c92 hr2 hr3))
        clear c34 c92 hr HD
        go_wp2_with (at_builtin; refine append_one rfl (.tmp 18) (.tmp 20) 22 5 rfl w.heap.size _ 1 Tryd.underlying22 u8_info rfl _ _ _ rfl hown _ rfl rfl ?_ ?_ ?_ ?_)
        · omega
        · omega
        · exact hbel.size
        intro v' w2 hown' hg hb'
        have hb2 := hbel.trans hb'
        have hown2 : w2.ownsRow w.heap.size 5 1 v' (acc ++ [s[k]]).length ((acc ++ [s[k]]).map byteV) := by rw [List.length_append, List.map_append]; exact hown'
        clear hown hbel hg hb' hown'
        go_wp2_with fail
        go_roundw
        case rel => exact ⟨k + 1, acc ++ [s[k]], v', rfl, rfl, by omega, by omega, by simp; omega, HU.out, hown2, hb2⟩
        case measure => simp [intOf]; omega
    · have HF := Lib.hid (HU.out.none (by rw [List.drop_of_length_le (by rw [size_list]; omega)]; rfl))
      have HBE := Lib.hid hbel
      clear hown hbel HU
      go_wp2_with fail
      go_ret3
      exact QuotedRes.no HF.out HBE.out
end Go.Proofs.YtenbecjnlgmkeaaDoor

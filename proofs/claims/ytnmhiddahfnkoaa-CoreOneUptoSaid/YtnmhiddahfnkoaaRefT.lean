/- Walks of the document's answer for layer 10: parts of types, consistent types, small asks. -/
import Derived.Test.YtnmhiddahfnkoaaRefS
import Derived.Test.YtnmhiddahfnkoaaR4W
namespace Go.Proofs.Ytnmhiddahfnkoaa
set_option linter.unusedSimpArgs false
set_option linter.unusedVariables false
open Go.RowKit Culp

theorem behind_part {t k : Ty} {d r : List Ty} (h : t.kids = d ++ k :: r) : behindI t.str (1 + (Ty.encs d).length) = (1 + (Ty.encs (d ++ [k])).length : Nat) := by
  obtain ⟨h1, h2, h3, h4⟩ := part_at h
  exact behind_some h3 h1

set_option maxHeartbeats 800000 in
theorem Part_any (t k : Ty) (d r : List Ty) (ht : t.fits) (h : t.kids = d ++ k :: r) (w : World) : Calls Try.prog 81 #[.string t.str, .int .i64 d.length] w (Gives (.string k.str) w) := by
  have hsz : t.str.size ≤ 64 := by rw [str_size]; exact ht
  have hdl : d.length ≤ 2 := by
    have : t.kids.length ≤ 2 := by cases t <;> simp [Ty.kids]
    rw [h] at this; simp at this; omega
  have HK := Lib.hid h
  obtain ⟨h1, h2, h3, h4⟩ := part_at h
  have H2 := Lib.hid h2
  have HB := Lib.hid (behind_part h)
  clear h h1 h2
  go_enter Try.func81, Try.ntmps81
  go_wp2
  go_loop [5, 6] (fun a i => ∃ j : Nat, j ≤ d.length ∧ i = .int .i64 j ∧ a = .int .i64 (1 + (Ty.encs (d.take j)).length : Nat)) (fun _ i => d.length - (intOf i).toNat)
  case atStart => exact ⟨0, by omega, rfl, by simp [Ty.encs]⟩
  case round =>
    obtain ⟨j, hj, rfl, rfl⟩ := hrel
    by_cases hlt : j < d.length
    · have hsp : t.kids = d.take j ++ d[j] :: (d.drop (j + 1) ++ k :: r) := by
        rw [HK.out, ← List.cons_append, ← List.drop_eq_getElem_cons hlt, ← List.append_assoc, List.take_append_drop]
      have hbp := behind_part hsp
      rw [← List.take_succ_eq_append_getElem hlt] at hbp
      have HP := Lib.hid hbp
      clear hbp hsp
      go_wp2_with fail
      refine (Behind_any t.str _ _ (by omega)).mono ?_
      rintro e w' ⟨rfl, rfl⟩
      go_wp2_with fail
      go_round
      case rel => exact ⟨j + 1, by omega, by go_num, by rw [HP.out]⟩
      case measure => simp [intOf]; omega
    · obtain rfl : j = d.length := by omega
      rw [List.take_length]
      generalize hb : 1 + (Ty.encs (d ++ [k])).length = B at *
      generalize ha : 1 + (Ty.encs d).length = E at *
      have HBB := Lib.hid (show behindI t.str E = (B : Int) from HB.out)
      have hAB : E ≤ B := by omega
      clear hb ha HB
      go_wp2_with fail
      refine (Behind_any t.str E _ (by omega)).mono ?_
      rw [HBB.out]
      rintro e w' ⟨rfl, rfl⟩
      go_wp2_with fail
      go_ret
      exact Gives.mk (by rw [H2.out]; rfl)

/-- The head of a part, or a text that is no type. -/
def partM (t : Ty) (h : UInt8) (i : Nat) : Option Ty := if t.hd = h then t.kids[i]? else none
def noneS : ByteArray := ⟨#[110, 111, 110, 101]⟩
theorem none_ne (t : Ty) : t.str ≠ noneS := by
  intro h
  have h1 : t.enc = [110, 111, 110, 101] := by rw [← str_list, h]; rfl
  cases t <;> simp [Ty.enc] at h1
theorem kids_split {t k : Ty} {i : Nat} (h : t.kids[i]? = some k) : ∃ d r, d.length = i ∧ t.kids = d ++ k :: r := by
  have hi := (List.getElem?_eq_some_iff.1 h).1
  refine ⟨t.kids.take i, t.kids.drop (i + 1), by simp; omega, ?_⟩
  have e : t.kids[i] = k := by rw [List.getElem?_eq_getElem hi] at h; exact Option.some.inj h
  rw [← e, ← List.drop_eq_getElem_cons hi, List.take_append_drop]
theorem str_ne_nil (t : Ty) : (t.str.toList == []) = false := by
  rw [toL, str_list, beq_eq_false_iff_ne]
  intro h; have := t.enc_pos; rw [h] at this; simp at this
set_option maxHeartbeats 800000 in
theorem part_yes (t k : Ty) (ht : t.fits) (i : Nat) (h : t.kids[i]? = some k) (w : World) : Calls Try.prog 77 #[.string t.str, .int .u8 t.hd.toNat, .int .i64 i] w (Gives (.string k.str) w) := by
  obtain ⟨d, r, rfl, hk⟩ := kids_split h
  have hp : 0 < t.str.size := by rw [str_size]; exact t.enc_pos
  have i1 : (0 : Int) < (t.str.size : Int) := by omega
  have e1 := str_get t hp
  have e2 := str_ne_nil t
  have e2' : t.str.toList ≠ [] := by intro h; rw [h] at e2; simp at e2
  have HP := Lib.hid (Part_any t k d r ht hk)
  clear h hk
  have e3 : (((t.hd.toNat : Nat) : Int) != ((t.hd.toNat : Nat) : Int)) = false := by simp
  go_enter Try.func77, Try.ntmps77
  go_wp2_with fail
  refine (HP.out _).mono ?_
  rintro e w' ⟨rfl, rfl⟩
  go_wp2_with fail
  go_ret
  exact Gives.mk rfl
theorem hd_beq (t : Ty) (h : UInt8) : (((t.hd.toNat : Nat) : Int) == ((h.toNat : Nat) : Int)) = decide (t.hd = h) := by
  rw [Bool.eq_iff_iff]
  simp only [beq_iff_eq, decide_eq_true_eq]
  exact u8_eq_iff _ _
set_option maxHeartbeats 800000 in
theorem part_no (t : Ty) (h : UInt8) (hh : t.hd ≠ h) (i : Int) (w : World) : Calls Try.prog 77 #[.string t.str, .int .u8 h.toNat, .int .i64 i] w (Gives (.string noneS) w) := by
  have hp : 0 < t.str.size := by rw [str_size]; exact t.enc_pos
  have i1 : (0 : Int) < (t.str.size : Int) := by omega
  have e1 := str_get t hp
  have e2 := str_ne_nil t
  have e2' : t.str.toList ≠ [] := by intro h; rw [h] at e2; simp at e2
  have e3 : (((t.hd.toNat : Nat) : Int) != ((h.toNat : Nat) : Int)) = true := by
    have := hd_beq t h
    rw [decide_eq_false hh] at this
    simp [bne, this]
  clear hh
  go_enter Try.func77, Try.ntmps77
  go_wp2_with fail
  go_ret
  exact Gives.mk rfl

/-- The first fault counts. -/
def failS (s : Option Flt) (f : Flt) : Option Flt := match s with | none => some f | some x => some x
/-- The walk's block, with the fault, if one. -/
def WkS (g : Nat) (tv : Value) (p : Int) (s : Option Flt) (av : Value) (w : World) : Prop := match s with
  | none => Wk g tv p 0 0 av w
  | some (e, n) => e ≠ 0 ∧ Wk g tv p e n av w
theorem WkS.form {g : Nat} {tv : Value} {p : Int} {s : Option Flt} {av : Value} {w : World} (h : WkS g tv p s av w) : ∃ e n : Int, Wk g tv p e n av w ∧ ((s = none ∧ e = 0 ∧ n = 0) ∨ ∃ m : Nat, s = some (e, m) ∧ e ≠ 0 ∧ n = m) := by
  rcases s with _ | ⟨e, n⟩
  · exact ⟨0, 0, h, .inl ⟨rfl, rfl, rfl⟩⟩
  · exact ⟨e, n, h.2, .inr ⟨n, rfl, h.1, rfl⟩⟩
theorem WkS.later {g : Nat} {tv : Value} {p : Int} {s : Option Flt} {av : Value} {w w' : World} (h : WkS g tv p s av w) (hb : Below w.heap.size w w') : WkS g tv p s av w' := by
  rcases s with _ | ⟨e, n⟩
  · exact Wk.later h hb
  · exact ⟨h.1, h.2.later hb⟩
def AskRes (g : Nat) (tv : Value) (p : Int) (s : Option Flt) (av v : Value) (w : World) (en : Ending) (w' : World) : Prop := en = .returned v ∧ Keep g w w' ∧ WkS g tv p s av w'
theorem rfailS_any (g : Nat) (tv : Value) (p : Int) (s : Option Flt) (av : Value) (e1 : Int) (n1 : Nat) (h1 : e1 ≠ 0) (w : World) (h : WkS g tv p s av w) :
    Calls Try.prog 57 #[.pointer (some ⟨g, 0, none⟩), .int .i64 e1, .int .i64 n1] w (AskRes g tv p (failS s (e1, n1)) av (.tuple #[]) w) := by
  obtain ⟨e, n, hw, hs⟩ := h.form
  refine (rfail_any g tv p e n av e1 n1 w hw).mono ?_
  rintro en w' ⟨rfl, hk, _, hf⟩
  refine ⟨rfl, hk, ?_⟩
  rcases hs with ⟨rfl, rfl, rfl⟩ | ⟨m, rfl, he, rfl⟩
  · rw [if_pos rfl] at hf; exact ⟨h1, hf⟩
  · rw [if_neg he] at hf; exact ⟨he, hf.2⟩
set_option maxHeartbeats 400000 in
theorem want_any (g : Nat) (tv : Value) (p : Int) (s : Option Flt) (av : Value) (b : Bool) (n : Nat) (w : World) (h : WkS g tv p s av w) :
    Calls Try.prog 68 #[.pointer (some ⟨g, 0, none⟩), .bool b, .int .i64 n] w (AskRes g tv p (if b then s else failS s (23, n)) av (.tuple #[]) w) := by
  have H := Lib.hid h
  clear h
  cases b with
  | true =>
    go_enter Try.func68, Try.ntmps68
    go_wp2_with fail
    go_end0
    exact ⟨rfl, Keep.refl _ _, H.out⟩
  | false =>
    go_enter Try.func68, Try.ntmps68
    go_wp2_with fail
    refine (rfailS_any g tv p s av 23 n (by decide) _ H.out).mono ?_
    rintro e w' ⟨rfl, hk, hw⟩
    have HK := Lib.hid hk
    have HW := Lib.hid hw
    clear hk hw
    go_wp2_with fail
    go_end0
    exact ⟨rfl, HK.out, HW.out⟩
set_option maxHeartbeats 400000 in
theorem rmade_any (g : Nat) (tv : Value) (p : Int) (s : Option Flt) (av : Value) (t : Ty) (n : Nat) (w : World) (h : WkS g tv p s av w) :
    Calls Try.prog 76 #[.pointer (some ⟨g, 0, none⟩), .string t.str, .int .i64 n] w (AskRes g tv p (if t.enc.length ≤ 64 then s else failS s (21, n)) av (.string t.str) w) := by
  have H := Lib.hid h
  clear h
  by_cases hf : t.enc.length ≤ 64
  · have i1 : decide (64 < (t.str.size : Int)) = false := decide_eq_false (by rw [str_size]; omega)
    rw [if_pos hf]
    go_enter Try.func76, Try.ntmps76
    go_wp2_with fail
    go_ret
    exact ⟨rfl, Keep.refl _ _, H.out⟩
  · have i1 : decide (64 < (t.str.size : Int)) = true := decide_eq_true (by rw [str_size]; omega)
    rw [if_neg hf]
    go_enter Try.func76, Try.ntmps76
    go_wp2_with fail
    refine (rfailS_any g tv p s av 21 n (by decide) _ H.out).mono ?_
    rintro e w' ⟨rfl, hk, hw⟩
    have HK := Lib.hid hk
    have HW := Lib.hid hw
    clear hk hw
    go_wp2_with fail
    go_ret
    exact ⟨rfl, HK.out, HW.out⟩

/-- The document's consistent types. -/
def RConsC (n : Nat) : Prop := ∀ (s t : Ty) (w : World), s.fits → t.fits → s.sz ≤ n → Calls Try.prog 75 #[.string s.str, .string t.str] w (Makes (.bool (cons s t)) w)
set_option maxHeartbeats 1600000 in
theorem rcons_step {n : Nat} (ih : RConsC n) : RConsC (n + 1) := by
  intro s t w hs ht hn
  have hps : 0 < s.str.size := by rw [str_size]; exact s.enc_pos
  have hpt : 0 < t.str.size := by rw [str_size]; exact t.enc_pos
  have i1 : (0 : Int) < (s.str.size : Int) := by omega
  have i2 : (0 : Int) < (t.str.size : Int) := by omega
  have e1 := str_get s hps
  have e2 := str_get t hpt
  have hd1 : ((s.hd.toNat : Int) == 63) = decide (s.hd = 63) := hd_beq s 63
  have hd2 : ((t.hd.toNat : Int) == 63) = decide (t.hd = 63) := hd_beq t 63
  have hh := hd_ne s t
  by_cases h1 : s.hd = 63
  · rw [decide_eq_true h1] at hd1
    have X : Hid (cons s t = true) := by cases s <;> simp [Ty.hd] at h1; rfl
    clear h1 hd2 hh
    go_enter Try.func75, Try.ntmps75
    go_wp2_with fail
    go_ret
    exact Makes.mk (bool_congr X.out.symm) (Below.refl _ _)
  · rw [decide_eq_false h1] at hd1
    by_cases h2 : t.hd = 63
    · rw [decide_eq_true h2] at hd2
      have X : Hid (cons s t = true) := by cases t <;> simp [Ty.hd] at h2; cases s <;> rfl
      clear h1 h2 hh
      go_enter Try.func75, Try.ntmps75
      go_wp2_with fail
      go_ret
      exact Makes.mk (bool_congr X.out.symm) (Below.refl _ _)
    · rw [decide_eq_false h2] at hd2
      have g1 : s ≠ .dyn := by rintro rfl; exact h1 rfl
      have g2 : t ≠ .dyn := by rintro rfl; exact h2 rfl
      by_cases h3 : s.hd = t.hd
      · have X := Lib.hid (cons_same h3)
        rw [decide_eq_true h3, Bool.not_true] at hh
        have hkl := kids_same h3
        have HKP := Lib.hid (rParts_any s)
        clear h1 h2 g1 g2 h3
        go_enter Try.func75, Try.ntmps75
        go_wp2_with fail
        go_quiet (fail)
        go_wp2_with fail
        go_loopw [5] (fun i wr => ∃ k : Nat, k ≤ s.kids.length ∧ i = .int .i64 k ∧ Hid (cons s t = allK cons (s.kids.drop k) (t.kids.drop k)) ∧ Hid (Below w.heap.size w wr)) (fun i _ => s.kids.length - (intOf i).toNat)
        case atStart => exact ⟨0, by omega, rfl, X, Lib.hid (below_dn _ _)⟩
        case round =>
          obtain ⟨k, hk, rfl, HX, HB⟩ := hrel
          have hk2 : s.kids.length ≤ 2 := by cases s <;> simp [Ty.kids]
          by_cases hlt : k < s.kids.length
          · have hlt' : k < t.kids.length := by omega
            have hst := allK_step cons s.kids t.kids k hlt hlt'
            have P1 := Lib.hid (fun w => let ⟨d, r, hd, hh⟩ := kids_split (List.getElem?_eq_getElem hlt); hd ▸ Part_any s _ d r hs hh w)
            have P2 := Lib.hid (fun w => let ⟨d, r, hd, hh⟩ := kids_split (List.getElem?_eq_getElem hlt'); hd ▸ Part_any t _ d r ht hh w)
            have hm1 : s.kids[k] ∈ s.kids := List.getElem_mem hlt
            have hm2 : t.kids[k] ∈ t.kids := List.getElem_mem hlt'
            have q1 := fits_sub hs hm1
            have q2 := fits_sub ht hm2
            have q3 : (s.kids[k]).sz ≤ n := by have := kids_sz hm1; omega
            generalize s.kids[k] = ks at *
            generalize t.kids[k] = kt at *
            have HST := Lib.hid (HX.out.trans hst)
            have Q1 := Lib.hid q1
            have Q2 := Lib.hid q2
            clear hst hm1 hm2 q1 q2
            go_wp2_with fail
            refine (HKP.out _).mono ?_
            rintro e w' ⟨rfl, rfl⟩
            go_wp2_with fail
            refine (P1.out _).mono ?_
            rintro e w' ⟨rfl, rfl⟩
            go_wp2_with fail
            refine (P2.out _).mono ?_
            rintro e w' ⟨rfl, rfl⟩
            go_wp2_with fail
            refine (ih ks kt _ Q1.out Q2.out q3).mono ?_
            rintro e w2 ⟨rfl, hb2⟩
            have HB2 := Lib.hid (below_later hb2 HB.out)
            clear hb2
            cases hc : cons ks kt with
            | true =>
              have X2 : Hid (cons s t = allK cons (s.kids.drop (k + 1)) (t.kids.drop (k + 1))) := by rw [Hid, HST.out, hc]; rfl
              clear hc HST
              go_wp2_with fail
              go_roundw
              case rel => exact ⟨k + 1, by omega, by go_num, X2, HB2⟩
              case measure => simp [intOf]; omega
            | false =>
              have X2 : Hid (cons s t = false) := by rw [Hid, HST.out, hc]; rfl
              clear hc HST
              go_wp2_with fail
              go_ret
              exact Makes.mk (bool_congr X2.out.symm) HB2.out
          · have X2 : Hid (cons s t = true) := by rw [Hid, HX.out]; exact allK_end cons _ _ k (by omega)
            go_wp2_with fail
            refine (HKP.out _).mono ?_
            rintro e w' ⟨rfl, rfl⟩
            go_wp2_with fail
            go_ret
            exact Makes.mk (bool_congr X2.out.symm) HB.out
      · have X := Lib.hid (cons_head g1 g2 h3)
        rw [decide_eq_false h3, Bool.not_false] at hh
        clear h1 h2 h3 g1 g2
        go_enter Try.func75, Try.ntmps75
        go_wp2_with fail
        go_quiet (fail)
        go_wp2_with fail
        go_ret
        exact Makes.mk (bool_congr X.out.symm) (below_dn _ _)

theorem rcons_all : ∀ n, RConsC n
  | 0 => fun s _ _ _ _ h => absurd h (by have := s.sz_pos; omega)
  | n + 1 => rcons_step (rcons_all n)
theorem rConsistent_any (s t : Ty) (hs : s.fits) (ht : t.fits) (w : World) : Calls Try.prog 75 #[.string s.str, .string t.str] w (Makes (.bool (cons s t)) w) := rcons_all s.sz s t w hs ht (Nat.le_refl _)
end Go.Proofs.Ytnmhiddahfnkoaa

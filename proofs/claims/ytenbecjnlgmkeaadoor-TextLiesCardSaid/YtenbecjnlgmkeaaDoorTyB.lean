/- Walks of the reference of package text: one token, the walk. -/
import Derived.Test.YtenbecjnlgmkeaaDoorTyA
namespace Go.Proofs.YtenbecjnlgmkeaaDoor
set_option linter.unusedSimpArgs false
set_option linter.unusedVariables false
open Go.RowKit Go.Maps Culp

theorem marksL_len : ∀ m ∈ marksL, 1 ≤ m.length ∧ m.length ≤ 2 := by decide
set_option maxRecDepth 100000 in
set_option maxHeartbeats 6400000 in
theorem rOne_any (s : ByteArray) (sv : Value) (at_ : Nat) (w : World) (hb : BytesV w sv s) (hat : at_ < s.size) (hs : s.size ≤ 65536) :
    Calls Tryd.prog 19 #[sv, .int .i64 at_] w (OneRes s.data.toList at_ w) := by
  have HBV := Lib.hid hb
  obtain ⟨A, c, rfl, hc, hA⟩ := hb
  obtain ⟨b, o, rfl, hB⟩ := hA (by omega)
  have hbl : b < w.heap.size := World.block_lt_of_cell? _ _ (hB 0 (by omega))
  have hos : OS s b o w.heap.size (w.heap.size + 1) 0 0 { data := #[] } at_ 0 w ((w.alloc (.cells #[.int .i8 0, .int .i64 0, .string { data := #[] }, .int .i64 0, .int .i64 0, .int .i64 0, .int .i64 0] 44)).alloc (.cells #[.int .i8 0, .int .i64 0, .string { data := #[] }, .int .i64 0, .int .i64 0, .int .i64 at_, .int .i64 0] 44)) := by
    have hb1 : Below w.heap.size w ((w.alloc (.cells #[.int .i8 0, .int .i64 0, .string { data := #[] }, .int .i64 0, .int .i64 0, .int .i64 0, .int .i64 0] 44)).alloc (.cells #[.int .i8 0, .int .i64 0, .string { data := #[] }, .int .i64 0, .int .i64 0, .int .i64 at_, .int .i64 0] 44)) := ((Below.refl _ _).alloc (Nat.le_refl _) _).alloc (by simp) _
    refine ⟨?_, (tok7_alloc w 0 0 { data := #[] } 0 0 0 0).later ((Below.refl _ _).alloc (Nat.le_refl _) _), bytes_later hB hb1, hb1⟩
    have := tok7_alloc (w.alloc (.cells #[.int .i8 0, .int .i64 0, .string { data := #[] }, .int .i64 0, .int .i64 0, .int .i64 0, .int .i64 0] 44)) 0 0 { data := #[] } 0 0 at_ 0
    simpa using this
  have HO := Lib.hid hos
  have hcell := hos.byt at_ hat
  have hdr : s.data.toList.drop at_ = s[at_] :: s.data.toList.drop (at_ + 1) := Tx.drop1 (l := s.data.toList) (by rw [size_list]; exact hat)
  have HD := Lib.hid hdr
  have hl := size_list s
  have hrunl : (Tx.run (s.data.toList.drop at_)).length ≤ 65536 := by
    have := Tx.run_len (s.data.toList.drop at_)
    rw [List.length_drop] at this; omega
  clear hA hB hos hdr hl
  have d1 : ¬ w.heap.size + 1 = w.heap.size := by omega
  have d2 : ¬ w.heap.size = w.heap.size + 1 := by omega
  cases hlet : Tx.letter s[at_]
  case true =>
    have HL := Lib.hid hlet
    have HI := Lib.hid (Tx.letter_inner hlet)
    clear hlet
    go_enter Tryd.func19, Tryd.ntmps19
    go_wp2_with fail
    refine (rletter_any s[at_] _).mono ?_
    rw [HL.out]
    rintro e w' ⟨rfl, rfl⟩
    go_wp2_with fail
    refine (rrun_any s _ at_ _ (HBV.out.later HO.out.bel) hat HI.out (by omega)).mono ?_
    rintro e w' ⟨rfl, rfl⟩
    generalize hx : bs (Tx.run (s.data.toList.drop at_)) = t at *
    have hts : t.size = (Tx.run (s.data.toList.drop at_)).length := by rw [← hx]; rfl
    have ht1 : t.size ≤ 65536 := by omega
    have HX := Lib.hid hx
    have HTZ := Lib.hid hts
    clear hx hts hcell
    generalize (w.alloc (.cells #[.int .i8 0, .int .i64 0, .string { data := #[] }, .int .i64 0, .int .i64 0, .int .i64 0, .int .i64 0] 44)).alloc (.cells #[.int .i8 0, .int .i64 0, .string { data := #[] }, .int .i64 0, .int .i64 0, .int .i64 at_, .int .i64 0] 44) = W at HO ⊢
    have t0 := HO.out.tok.cell 0
    have t1 := HO.out.tok.cell 1
    have t2 := HO.out.tok.cell 2
    have t3 := HO.out.tok.cell 3
    have t4 := HO.out.tok.cell 4
    have t5 := HO.out.tok.cell 5
    have t6 := HO.out.tok.cell 6
    have u0 := HO.out.tok.free 0
    have u1 := HO.out.tok.free 1
    have u2 := HO.out.tok.free 2
    have u6 := HO.out.tok.free 6
    have r0 := HO.out.res.cell 0
    have r1 := HO.out.res.cell 1
    have r2 := HO.out.res.cell 2
    have r3 := HO.out.res.cell 3
    have r4 := HO.out.res.cell 4
    have r5 := HO.out.res.cell 5
    have r6 := HO.out.res.cell 6
    have v0 := HO.out.res.free 0
    have v1 := HO.out.res.free 1
    have v2 := HO.out.res.free 2
    have v3 := HO.out.res.free 3
    have v4 := HO.out.res.free 4
    have v5 := HO.out.res.free 5
    have v6 := HO.out.res.free 6
    simp only [List.getElem?_cons_zero, List.getElem?_cons_succ] at t0 t1 t2 t3 t4 t5 t6 r0 r1 r2 r3 r4 r5 r6
    go_wp2_with fail
    have hw0 := rIsWord_any (Tx.run (s.data.toList.drop at_)) ((W.setCell ⟨w.heap.size + 1, 2, none⟩ (.string t)).setCell ⟨w.heap.size + 1, 0, none⟩ (.int .i8 2))
    rw [HX.out] at hw0
    refine hw0.mono ?_
    clear hw0
    rintro e w2 ⟨rfl, hb2⟩
    have HO := Lib.hid (((HO.out.put (by omega) (by omega) hbl (HO.out.tok.put2 t)).put (by omega) (by omega) hbl ((HO.out.tok.put2 t).put0 2)).later hb2)
    clear t0 t1 t2 t3 t4 t5 t6 u0 u1 u2 u6 r0 r1 r2 r3 r4 r5 r6 v0 v1 v2 v3 v4 v5 v6 hb2
    have t0 := HO.out.tok.cell 0
    have t1 := HO.out.tok.cell 1
    have t2 := HO.out.tok.cell 2
    have t3 := HO.out.tok.cell 3
    have t4 := HO.out.tok.cell 4
    have t5 := HO.out.tok.cell 5
    have t6 := HO.out.tok.cell 6
    have u0 := HO.out.tok.free 0
    have u1 := HO.out.tok.free 1
    have u2 := HO.out.tok.free 2
    have u6 := HO.out.tok.free 6
    have r0 := HO.out.res.cell 0
    have r1 := HO.out.res.cell 1
    have r2 := HO.out.res.cell 2
    have r3 := HO.out.res.cell 3
    have r4 := HO.out.res.cell 4
    have r5 := HO.out.res.cell 5
    have r6 := HO.out.res.cell 6
    have v0 := HO.out.res.free 0
    have v1 := HO.out.res.free 1
    have v2 := HO.out.res.free 2
    have v3 := HO.out.res.free 3
    have v4 := HO.out.res.free 4
    have v5 := HO.out.res.free 5
    have v6 := HO.out.res.free 6
    simp only [List.getElem?_cons_zero, List.getElem?_cons_succ] at t0 t1 t2 t3 t4 t5 t6 r0 r1 r2 r3 r4 r5 r6
    cases hw : Tx.isWord (Tx.run (s.data.toList.drop at_))
    case true =>
      have HWD := Lib.hid hw
      clear hw
      by_cases h32 : t.size ≤ 32
      · have HE : Hid (Tx.one (s.data.toList.drop at_) = .ok (⟨1, 0, Tx.run (s.data.toList.drop at_)⟩, t.size)) := Lib.hid (by
          have := Tx.one_word (l := s.data.toList.drop (at_ + 1)) HL.out (by rw [← HD.out, ← HTZ.out]; exact h32)
          rw [← HD.out, HWD.out, ← HTZ.out] at this
          simpa using this)
        go_wp2_with fail
        exact one_ok ((HO.out.put (by omega) (by omega) hbl (HO.out.tok.put0 1)).put (by omega) (by omega) hbl ((HO.out.tok.put0 1).put5 ((at_ : Int) + (t.size : Int)))) (Nat.le_refl _) HE.out rfl rfl HX.out.symm rfl (by omega) rfl rfl
      · have HE : Hid (Tx.one (s.data.toList.drop at_) = .error 12) := Lib.hid (by rw [HD.out, Tx.one, if_pos HL.out, if_neg (by rw [← HD.out, ← HTZ.out]; exact h32)])
        go_wp2_with fail
        exact one_bad ((HO.out.put (by omega) (by omega) hbl (HO.out.tok.put0 1)).put (by omega) (by omega) hbl ((HO.out.tok.put0 1).put5 ((at_ : Int) + (t.size : Int)))) (Nat.le_refl _) HE.out rfl rfl rfl
    case false =>
      have HWD := Lib.hid hw
      clear hw
      by_cases h32 : t.size ≤ 32
      · have HE : Hid (Tx.one (s.data.toList.drop at_) = .ok (⟨2, 0, Tx.run (s.data.toList.drop at_)⟩, t.size)) := Lib.hid (by
          have := Tx.one_word (l := s.data.toList.drop (at_ + 1)) HL.out (by rw [← HD.out, ← HTZ.out]; exact h32)
          rw [← HD.out, HWD.out, ← HTZ.out] at this
          simpa using this)
        go_wp2_with fail
        exact one_ok (HO.out.put (by omega) (by omega) hbl (HO.out.tok.put5 ((at_ : Int) + (t.size : Int)))) (Nat.le_refl _) HE.out rfl rfl HX.out.symm rfl (by omega) rfl rfl
      · have HE : Hid (Tx.one (s.data.toList.drop at_) = .error 12) := Lib.hid (by rw [HD.out, Tx.one, if_pos HL.out, if_neg (by rw [← HD.out, ← HTZ.out]; exact h32)])
        go_wp2_with fail
        exact one_bad (HO.out.put (by omega) (by omega) hbl (HO.out.tok.put5 ((at_ : Int) + (t.size : Int)))) (Nat.le_refl _) HE.out rfl rfl rfl
  case false =>
    have HL := Lib.hid hlet
    clear hlet
    cases hdig : Tx.digit s[at_]
    case true =>
      have HG := Lib.hid hdig
      have HI := Lib.hid (Tx.digit_inner hdig)
      clear hdig
      go_enter Tryd.func19, Tryd.ntmps19
      go_wp2_with fail
      refine (rletter_any s[at_] _).mono ?_
      rw [HL.out]
      rintro e w' ⟨rfl, rfl⟩
      go_wp2_with fail
      refine (rdigit_any s[at_] _).mono ?_
      rw [HG.out]
      rintro e w' ⟨rfl, rfl⟩
      go_wp2_with fail
      refine (rrun_any s _ at_ _ (HBV.out.later HO.out.bel) hat HI.out (by omega)).mono ?_
      rintro e w' ⟨rfl, rfl⟩
      have hrp : 0 < (Tx.run (s.data.toList.drop at_)).length := by
        rw [HD.out]; unfold Tx.run; rw [List.takeWhile_cons, if_pos HI.out]; simp
      generalize hx : bs (Tx.run (s.data.toList.drop at_)) = t at *
      have hts : t.size = (Tx.run (s.data.toList.drop at_)).length := by rw [← hx]; rfl
      have htl : t.data.toList = Tx.run (s.data.toList.drop at_) := by rw [← hx]; rfl
      have ht0 : 0 < t.size := by omega
      have ht1 : t.size ≤ 65536 := by omega
      have HTZ := Lib.hid hts
      have HTL := Lib.hid htl
      clear hx hts htl hrp hcell
      generalize (w.alloc (.cells #[.int .i8 0, .int .i64 0, .string { data := #[] }, .int .i64 0, .int .i64 0, .int .i64 0, .int .i64 0] 44)).alloc (.cells #[.int .i8 0, .int .i64 0, .string { data := #[] }, .int .i64 0, .int .i64 0, .int .i64 at_, .int .i64 0] 44) = W at HO ⊢
      have t0 := HO.out.tok.cell 0
      have t1 := HO.out.tok.cell 1
      have t2 := HO.out.tok.cell 2
      have t3 := HO.out.tok.cell 3
      have t4 := HO.out.tok.cell 4
      have t5 := HO.out.tok.cell 5
      have t6 := HO.out.tok.cell 6
      have u0 := HO.out.tok.free 0
      have u1 := HO.out.tok.free 1
      have u2 := HO.out.tok.free 2
      have u6 := HO.out.tok.free 6
      have r0 := HO.out.res.cell 0
      have r1 := HO.out.res.cell 1
      have r2 := HO.out.res.cell 2
      have r3 := HO.out.res.cell 3
      have r4 := HO.out.res.cell 4
      have r5 := HO.out.res.cell 5
      have r6 := HO.out.res.cell 6
      have v0 := HO.out.res.free 0
      have v1 := HO.out.res.free 1
      have v2 := HO.out.res.free 2
      have v3 := HO.out.res.free 3
      have v4 := HO.out.res.free 4
      have v5 := HO.out.res.free 5
      have v6 := HO.out.res.free 6
      simp only [List.getElem?_cons_zero, List.getElem?_cons_succ] at t0 t1 t2 t3 t4 t5 t6 r0 r1 r2 r3 r4 r5 r6
      go_wp2_with fail
      refine (worth_any t _ ht0 ht1).mono ?_
      rintro e w' ⟨x, rfl, hxv, rfl⟩
      cases hwo : Tx.worth (Tx.run (s.data.toList.drop at_))
      case none =>
        have HE : Hid (Tx.one (s.data.toList.drop at_) = .error 13) := Lib.hid (by rw [HD.out, Tx.one, if_neg (by rw [HL.out]; simp), if_pos HG.out, ← HD.out, hwo])
        have HWO := Lib.hid hwo
        clear hwo hxv
        rw [HTL.out, HWO.out]
        go_wp2_with fail
        exact one_bad HO.out (Nat.le_refl _) HE.out rfl rfl rfl
      case some n =>
        have HE : Hid (Tx.one (s.data.toList.drop at_) = .ok (⟨3, n, []⟩, t.size)) := Lib.hid (by
          have := Tx.one_num (l := s.data.toList.drop (at_ + 1)) HG.out (n := n) (by rw [← HD.out]; exact hwo)
          rw [← HD.out, ← HTZ.out] at this
          exact this)
        have hxn := hxv n (by rw [HTL.out]; exact hwo)
        subst hxn
        have HWO := Lib.hid hwo
        clear hwo hxv
        rw [HTL.out, HWO.out]
        go_wp2_with fail
        exact one_ok (((HO.out.put (by omega) (by omega) hbl (HO.out.tok.put0 3)).put (by omega) (by omega) hbl ((HO.out.tok.put0 3).put1 n)).put (by omega) (by omega) hbl (((HO.out.tok.put0 3).put1 n).put5 ((at_ : Int) + (t.size : Int)))) (Nat.le_refl _) HE.out rfl rfl rfl rfl (by omega) rfl rfl
    case false =>
      have HG := Lib.hid hdig
      clear hdig
      by_cases c34 : s[at_].toNat = 34
      · have e34 := eq_lit (n := s[at_].toNat) (z := 34) (by omega)
        have HQ := Lib.hid c34
        clear c34
        go_enter Tryd.func19, Tryd.ntmps19
        go_wp2_with fail
        refine (rletter_any s[at_] _).mono ?_
        rw [HL.out]
        rintro e w' ⟨rfl, rfl⟩
        go_wp2_with fail
        refine (rdigit_any s[at_] _).mono ?_
        rw [HG.out]
        rintro e w' ⟨rfl, rfl⟩
        go_wp2_with fail
        refine (rquoted_any s _ at_ _ (HBV.out.later HO.out.bel) hat (by omega)).mono ?_
        rintro e W ⟨hb1, hres⟩
        have HO := Lib.hid (HO.out.later hb1)
        clear hb1 hcell
        have t0 := HO.out.tok.cell 0
        have t1 := HO.out.tok.cell 1
        have t2 := HO.out.tok.cell 2
        have t3 := HO.out.tok.cell 3
        have t4 := HO.out.tok.cell 4
        have t5 := HO.out.tok.cell 5
        have t6 := HO.out.tok.cell 6
        have u0 := HO.out.tok.free 0
        have u1 := HO.out.tok.free 1
        have u2 := HO.out.tok.free 2
        have u6 := HO.out.tok.free 6
        have r0 := HO.out.res.cell 0
        have r1 := HO.out.res.cell 1
        have r2 := HO.out.res.cell 2
        have r3 := HO.out.res.cell 3
        have r4 := HO.out.res.cell 4
        have r5 := HO.out.res.cell 5
        have r6 := HO.out.res.cell 6
        have v0 := HO.out.res.free 0
        have v1 := HO.out.res.free 1
        have v2 := HO.out.res.free 2
        have v3 := HO.out.res.free 3
        have v4 := HO.out.res.free 4
        have v5 := HO.out.res.free 5
        have v6 := HO.out.res.free 6
        simp only [List.getElem?_cons_zero, List.getElem?_cons_succ] at t0 t1 t2 t3 t4 t5 t6 r0 r1 r2 r3 r4 r5 r6
        cases hu : Tx.unq ((s.data.toList.drop at_).drop 1) with
        | none =>
          rw [hu] at hres
          obtain ⟨x, y, rfl⟩ := hres
          have HE : Hid (Tx.one (s.data.toList.drop at_) = .error 14) := Lib.hid (by
            have := Tx.one_text_no (l := s.data.toList.drop (at_ + 1)) HQ.out (by rw [HD.out] at hu; exact hu)
            rw [HD.out]; exact this)
          clear hu
          go_wp2_with fail
          exact one_bad HO.out (Nat.le_refl _) HE.out rfl rfl rfl
        | some p =>
          obtain ⟨t, k⟩ := p
          rw [hu] at hres
          simp only at hres
          have HU := Lib.hid hu
          clear hu
          by_cases h64 : t.length ≤ 64
          · have HE : Hid (Tx.one (s.data.toList.drop at_) = .ok (⟨4, 0, t⟩, k + 1)) := Lib.hid (by
              have := Tx.one_text (l := s.data.toList.drop (at_ + 1)) HQ.out (s := t) (j := k) (by have := HU.out; rw [HD.out] at this; exact this) h64
              rw [HD.out]; exact this)
            rw [decide_eq_true h64] at hres
            subst hres
            go_wp2_with fail
            exact one_ok (((HO.out.put (by omega) (by omega) hbl (HO.out.tok.put0 4)).put (by omega) (by omega) hbl ((HO.out.tok.put0 4).put2 (bs t))).put (by omega) (by omega) hbl (((HO.out.tok.put0 4).put2 (bs t)).put5 ((at_ + k + 1 : Nat) : Int))) (Nat.le_refl _) HE.out rfl rfl rfl rfl (by omega) rfl rfl
          · have HE : Hid (Tx.one (s.data.toList.drop at_) = .error 14) := Lib.hid (by
              rw [HD.out, Tx.one, if_neg (by rw [HL.out]; simp), if_neg (by rw [HG.out]; simp), if_pos HQ.out]
              have := HU.out
              rw [HD.out] at this
              rw [show Tx.unq (s.data.toList.drop (at_ + 1)) = some (t, k) from this]
              simp only [if_neg h64])
            rw [decide_eq_false h64] at hres
            subst hres
            go_wp2_with fail
            exact one_bad HO.out (Nat.le_refl _) HE.out rfl rfl rfl
      · have e34 := ne_lit (n := s[at_].toNat) (z := 34) (by omega)
        have HQ := Lib.hid c34
        clear c34
        go_enter Tryd.func19, Tryd.ntmps19
        go_wp2_with fail
        refine (rletter_any s[at_] _).mono ?_
        rw [HL.out]
        rintro e w' ⟨rfl, rfl⟩
        go_wp2_with fail
        refine (rdigit_any s[at_] _).mono ?_
        rw [HG.out]
        rintro e w' ⟨rfl, rfl⟩
        go_wp2_with fail
        refine (rMarks_any _).mono ?_
        rintro e W ⟨rfl, hst, hb1⟩
        have HO := Lib.hid (HO.out.later hb1)
        have hst2 : Strs W (w.heap.size + 2) marksL := by simpa using hst
        have HST := Lib.hid hst2
        clear hb1 hcell hst hst2
        go_wp2_with fail
        have hml : marksL.length ≤ 22 := Nat.le_refl _
        go_loopw [15] (fun i wr => ∃ k : Nat, k ≤ marksL.length ∧ i = .int .i64 k ∧ Hid (∀ x ∈ Tx.marksA.take k, ¬ Tx.Pfx x (s.data.toList.drop at_)) ∧ Hid (OS s b o w.heap.size (w.heap.size + 1) 0 0 { data := #[] } at_ 0 w wr) ∧ Hid (Strs wr (w.heap.size + 2) marksL)) (fun i _ => marksL.length - (intOf i).toNat)
        case atStart => exact ⟨0, Nat.zero_le _, rfl, Lib.hid (by simp), HO, HST⟩
        case round =>
          clear HO HST
          obtain ⟨k, hk, rfl, HN, HO, HST⟩ := hrel
          by_cases hlt : k < marksL.length
          · have hmk : marksL[k]? = some marksL[k] := List.getElem?_eq_getElem hlt
            have hcell := HST.out k _ hmk
            have hmA : Tx.marksA[k]? = some marksL[k] := hmk
            have HMA := Lib.hid hmA
            have hm12 : 1 ≤ marksL[k].length ∧ marksL[k].length ≤ 2 := marksL_len _ (List.getElem_mem hlt)
            have HT : Hid (∀ x ∈ Tx.marksA.take (k + 1), x ∈ Tx.marksA.take k ∨ x = marksL[k]) := Lib.hid (by
              intro x hx
              have : Tx.marksA.take (k + 1) = Tx.marksA.take k ++ [marksL[k]] := List.take_succ_eq_append_getElem (l := Tx.marksA) hlt
              rw [this, List.mem_append] at hx
              rcases hx with hx | hx
              · exact .inl hx
              · exact .inr (by simpa using hx))
            generalize marksL[k] = m at *
            clear hmk hmA
            have hsz : (bs m).size = m.length := rfl
            have HSZ := Lib.hid hsz
            have hm1 : 1 ≤ (bs m).size := by omega
            have hm2 : (bs m).size ≤ 2 := by omega
            clear hm12 hsz
            have w1 : IntKind.i64.wrap ((at_ : Int) + ((bs m).size : Int)) = (at_ : Int) + ((bs m).size : Int) := IntWalk.i64_in _ (by omega)
            by_cases hfit : at_ + (bs m).size ≤ s.size
            · have hd : decide ((at_ : Int) + ((bs m).size : Int) ≤ (s.size : Int)) = true := decide_eq_true (by omega)
              have hct := cut_text wr b o s.size c at_ (at_ + (bs m).size) s HO.out.byt (by omega) hfit hc
              have hctd := cut_text wr.drew b o s.size c at_ (at_ + (bs m).size) s (fun i hi => HO.out.byt i hi) (by omega) hfit hc
              rw [show at_ + (bs m).size - at_ = (bs m).size by omega] at hctd
              obtain ⟨x1, x2⟩ := hctd
              have x1' : (Instr.slice 22 (.slice (some ⟨b, o, none⟩) s.size c) (some (.int .i64 (at_ : Int))) (some (.int .i64 ((at_ : Int) + ((bs m).size : Int)))) none).run Tryd.prog wr.drew = .ok (.slice (some ⟨b, o + at_, none⟩) (bs m).size (c - at_)) wr.drew := by
                rw [← Int.natCast_add]; exact x1
              have hq := beq_bs ((s.data.toList.drop at_).take (bs m).size) (bs m).toList
              clear hct x1
              by_cases he : (s.data.toList.drop at_).take m.length = m
              · have hhit := Tx.mark_hit HN.out HMA.out ⟨by rw [List.length_drop, size_list, ← HSZ.out]; omega, he⟩
                have HH := Lib.hid hhit
                have q : ((bs ((s.data.toList.drop at_).take (bs m).size)).toList == (bs m).toList) = true := by rw [hq, toL' (bs m), bs_list, HSZ.out, he]; simp
                clear hq he hhit
                go_wp2_with fail
                refine wp_region_plan (S := fun w' => w'.cell? ⟨w.heap.size + 2, k, none⟩ = some (.string (bs m)) ∧
                    (Instr.slice 22 (.slice (some ⟨b, o, none⟩) s.size c) (some (.int .i64 (at_ : Int))) (some (.int .i64 ((at_ : Int) + ((bs m).size : Int)))) none).run Tryd.prog w' = .ok (.slice (some ⟨b, o + at_, none⟩) (bs m).size (c - at_)) w' ∧
                    (convert 22 9 (.slice (some ⟨b, o + at_, none⟩) (bs m).size (c - at_))).run Tryd.prog w' = .ok (.string (bs ((s.data.toList.drop at_).take (bs m).size))) w')
                  [(0, true), (1, true), (2, true), (3, true), (4, true), (5, true), (6, true), (7, true), (8, true), (9, true), (10, true), (11, true), (12, true), (13, true), (14, true), (15, true), (16, true), (17, true), (18, true), (19, true), (20, true), (21, true), (22, true), (23, true), (24, true), (25, true), (26, true), (27, true)] (by kernel_rfl) (by kernel_rfl) (by kernel_rfl) (fun _ _ _ _ _ h => h) ⟨hcell, x1', x2⟩ ?_
                intro HS
                repeat (first | (apply wpPlan_look; rfl; rfl; (intro wq hq; (try dsimp only at hq); go_split_ands; go_simp; (try rw [if_neg (by omega)]); (try rw [if_pos (by omega)]); try with_reducible rfl); simp only [Act.put, List.setIfInBounds_toArray, List.set_cons_zero, List.set_cons_succ]) | (apply wpPlan_skip; rfl; rfl; simp only [Act.put, List.setIfInBounds_toArray, List.set_cons_zero, List.set_cons_succ]) | (apply wpPlan_pass; rfl; rfl; assumption; simp only [Act.put, List.setIfInBounds_toArray, List.set_cons_zero, List.set_cons_succ]))
                apply wpPlan_done
                have HO := Lib.hid (HO.out.later (Below.refl _ _).drew)
                have hcell : wr.drew.cell? ⟨w.heap.size + 1 + 1, k, none⟩ = some (.string (bs m)) := hcell
                have HE : Hid (Tx.one (s.data.toList.drop at_) = .ok (⟨5, 0, m⟩, (bs m).size)) := Lib.hid (by
                  have hh := HH.out
                  have h1 := hh.1
                  rw [HD.out] at h1
                  have := Tx.one_mark HL.out HG.out HQ.out (by rw [h1]; exact hh.2)
                  rw [h1, ← HD.out] at this
                  exact this)
                clear q x1' x2 hd HS
                generalize wr.drew = W at HO hcell ⊢
                have d3 : ¬ w.heap.size + 1 + 1 = w.heap.size + 1 := by omega
                have t0 := HO.out.tok.cell 0
                have t1 := HO.out.tok.cell 1
                have t2 := HO.out.tok.cell 2
                have t3 := HO.out.tok.cell 3
                have t4 := HO.out.tok.cell 4
                have t5 := HO.out.tok.cell 5
                have t6 := HO.out.tok.cell 6
                have u0 := HO.out.tok.free 0
                have u1 := HO.out.tok.free 1
                have u2 := HO.out.tok.free 2
                have u6 := HO.out.tok.free 6
                have r0 := HO.out.res.cell 0
                have r1 := HO.out.res.cell 1
                have r2 := HO.out.res.cell 2
                have r3 := HO.out.res.cell 3
                have r4 := HO.out.res.cell 4
                have r5 := HO.out.res.cell 5
                have r6 := HO.out.res.cell 6
                have v0 := HO.out.res.free 0
                have v1 := HO.out.res.free 1
                have v2 := HO.out.res.free 2
                have v3 := HO.out.res.free 3
                have v4 := HO.out.res.free 4
                have v5 := HO.out.res.free 5
                have v6 := HO.out.res.free 6
                simp only [List.getElem?_cons_zero, List.getElem?_cons_succ] at t0 t1 t2 t3 t4 t5 t6 r0 r1 r2 r3 r4 r5 r6
                go_wp2_with fail
                exact one_ok (((HO.out.put (by omega) (by omega) hbl (HO.out.tok.put0 5)).put (by omega) (by omega) hbl ((HO.out.tok.put0 5).put2 (bs m))).put (by omega) (by omega) hbl (((HO.out.tok.put0 5).put2 (bs m)).put5 ((at_ : Int) + ((bs m).size : Int)))) (Nat.le_refl _) HE.out rfl rfl rfl rfl (by omega) rfl rfl
              · have q : ((bs ((s.data.toList.drop at_).take (bs m).size)).toList == (bs m).toList) = false := by rw [hq, toL' (bs m), bs_list, HSZ.out]; simp [he]
                have HN2 : Hid (∀ x ∈ Tx.marksA.take (k + 1), ¬ Tx.Pfx x (s.data.toList.drop at_)) := Lib.hid (by
                  intro x hx hp
                  rcases HT.out x hx with h | rfl
                  · exact HN.out x h hp
                  · exact he hp.2)
                clear hq he
                go_wp2_with fail
                refine wp_region_plan (S := fun w' => w'.cell? ⟨w.heap.size + 2, k, none⟩ = some (.string (bs m)) ∧
                    (Instr.slice 22 (.slice (some ⟨b, o, none⟩) s.size c) (some (.int .i64 (at_ : Int))) (some (.int .i64 ((at_ : Int) + ((bs m).size : Int)))) none).run Tryd.prog w' = .ok (.slice (some ⟨b, o + at_, none⟩) (bs m).size (c - at_)) w' ∧
                    (convert 22 9 (.slice (some ⟨b, o + at_, none⟩) (bs m).size (c - at_))).run Tryd.prog w' = .ok (.string (bs ((s.data.toList.drop at_).take (bs m).size))) w')
                  [(0, true), (1, true), (2, true), (3, true), (4, true), (5, true), (6, true), (7, true), (8, true), (9, true), (10, true), (11, true), (12, true), (13, true), (14, true), (15, true), (16, true), (17, true), (18, true), (19, true), (20, true), (21, true), (22, true), (23, true), (24, true), (25, true), (26, true), (27, true)] (by kernel_rfl) (by kernel_rfl) (by kernel_rfl) (fun _ _ _ _ _ h => h) ⟨hcell, x1', x2⟩ ?_
                intro HS
                repeat (first | (apply wpPlan_look; rfl; rfl; (intro wq hq; (try dsimp only at hq); go_split_ands; go_simp; (try rw [if_neg (by omega)]); (try rw [if_pos (by omega)]); try with_reducible rfl); simp only [Act.put, List.setIfInBounds_toArray, List.set_cons_zero, List.set_cons_succ]) | (apply wpPlan_skip; rfl; rfl; simp only [Act.put, List.setIfInBounds_toArray, List.set_cons_zero, List.set_cons_succ]) | (apply wpPlan_pass; rfl; rfl; assumption; simp only [Act.put, List.setIfInBounds_toArray, List.set_cons_zero, List.set_cons_succ]))
                apply wpPlan_done
                clear q x1' x2 hd HS w1
                go_wp2_with fail
                go_roundw
                case rel => exact ⟨k + 1, by omega, by go_num, HN2, Lib.hid (HO.out.later (Below.refl _ _).drew), Lib.hid (HST.out.later (Below.refl _ _).drew)⟩
                case measure => simp [intOf]; omega
            · have hd : decide ((at_ : Int) + ((bs m).size : Int) ≤ (s.size : Int)) = false := decide_eq_false (by omega)
              have HN2 : Hid (∀ x ∈ Tx.marksA.take (k + 1), ¬ Tx.Pfx x (s.data.toList.drop at_)) := Lib.hid (by
                intro x hx hp
                rcases HT.out x hx with h | rfl
                · exact HN.out x h hp
                · have := hp.1
                  rw [List.length_drop, size_list, ← HSZ.out] at this
                  omega)
              go_wp2_with fail
              refine wp_region_plan (S := fun w' => w'.cell? ⟨w.heap.size + 2, k, none⟩ = some (.string (bs m)))
                [(0, true), (1, true), (2, true), (3, true), (4, true), (5, true), (6, true), (7, true), (8, true), (9, true), (10, true), (11, true), (12, true), (13, true), (14, true), (15, true), (16, true), (17, true), (18, true), (19, true), (20, true), (21, true), (22, true), (23, true), (24, true), (25, true), (26, true), (27, true)] (by kernel_rfl) (by kernel_rfl) (by kernel_rfl) (fun _ _ _ _ _ h => h) hcell ?_
              intro HS
              repeat (first | (apply wpPlan_look; rfl; rfl; (intro wq hq; (try dsimp only at hq); go_split_ands; go_simp; (try rw [if_neg (by omega)]); (try rw [if_pos (by omega)]); try with_reducible rfl); simp only [Act.put, List.setIfInBounds_toArray, List.set_cons_zero, List.set_cons_succ]) | (apply wpPlan_skip; rfl; rfl; simp only [Act.put, List.setIfInBounds_toArray, List.set_cons_zero, List.set_cons_succ]) | (apply wpPlan_pass; rfl; rfl; assumption; simp only [Act.put, List.setIfInBounds_toArray, List.set_cons_zero, List.set_cons_succ]))
              apply wpPlan_done
              clear hd HS w1
              go_wp2_with fail
              go_roundw
              case rel => exact ⟨k + 1, by omega, by go_num, HN2, Lib.hid (HO.out.later (Below.refl _ _).drew), Lib.hid (HST.out.later (Below.refl _ _).drew)⟩
              case measure => simp [intOf]; omega
          · have HE : Hid (Tx.one (s.data.toList.drop at_) = .error 11) := Lib.hid (by
              have h1 : Tx.mark (s.data.toList.drop at_) = [] := Tx.mark_none (fun x hx => HN.out x (by rw [List.take_of_length_le (show Tx.marksA.length ≤ k by have : Tx.marksA.length = marksL.length := rfl; omega)]; exact hx))
              rw [HD.out] at h1
              rw [HD.out, Tx.one, if_neg (by rw [HL.out]; simp), if_neg (by rw [HG.out]; simp), if_neg HQ.out, if_pos h1])
            have t0 := HO.out.tok.cell 0
            have t1 := HO.out.tok.cell 1
            have t2 := HO.out.tok.cell 2
            have t3 := HO.out.tok.cell 3
            have t4 := HO.out.tok.cell 4
            have t5 := HO.out.tok.cell 5
            have t6 := HO.out.tok.cell 6
            have u0 := HO.out.tok.free 0
            have u1 := HO.out.tok.free 1
            have u2 := HO.out.tok.free 2
            have u6 := HO.out.tok.free 6
            have r0 := HO.out.res.cell 0
            have r1 := HO.out.res.cell 1
            have r2 := HO.out.res.cell 2
            have r3 := HO.out.res.cell 3
            have r4 := HO.out.res.cell 4
            have r5 := HO.out.res.cell 5
            have r6 := HO.out.res.cell 6
            have v0 := HO.out.res.free 0
            have v1 := HO.out.res.free 1
            have v2 := HO.out.res.free 2
            have v3 := HO.out.res.free 3
            have v4 := HO.out.res.free 4
            have v5 := HO.out.res.free 5
            have v6 := HO.out.res.free 6
            simp only [List.getElem?_cons_zero, List.getElem?_cons_succ] at t0 t1 t2 t3 t4 t5 t6 r0 r1 r2 r3 r4 r5 r6
            go_wp2_with fail
            exact one_bad HO.out (Nat.le_refl _) HE.out rfl rfl rfl
end Go.Proofs.YtenbecjnlgmkeaaDoor

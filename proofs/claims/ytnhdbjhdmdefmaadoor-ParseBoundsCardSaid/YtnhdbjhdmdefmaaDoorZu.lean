
/- Walks of parse: a parser is made of a source. -/
import Derived.Test.YtnhdbjhdmdefmaaDoorZt
namespace Culp.Gr
set_option linter.unusedSimpArgs false
set_option linter.unusedVariables false
open Go Go.RowKit Culp Culp.Tr Go.Proofs.YtnhdbjhdmdefmaaDoor
theorem further_le : ∀ (l : List UInt8) (p : Nat × Nat), (Tx.further p l).1 ≤ p.1 + l.length ∧ (Tx.further p l).2 ≤ p.2 + l.length
  | [], p => ⟨Nat.le_refl _, Nat.le_refl _⟩
  | c :: l, p => by
    have h := further_le l (Tx.step p c)
    have h2 : (Tx.step p c).1 ≤ p.1 + 1 ∧ (Tx.step p c).2 ≤ p.2 + 1 := by
      unfold Tx.step
      split <;> simp
    show (Tx.further (Tx.step p c) l).1 ≤ _ ∧ (Tx.further (Tx.step p c) l).2 ≤ _
    rw [List.length_cons]
    omega
theorem further_snoc (l : List UInt8) (p : Nat × Nat) (c : UInt8) : Tx.further p (l ++ [c]) = Tx.step (Tx.further p l) c := by
  unfold Tx.further
  rw [List.foldl_append]; rfl
theorem set_selfz {w : World} {g i : Nat} {t : TypeId} {v : Value} {cs : Array Value} {fr : Nat × Nat} (h : w.heap[g]? = some (.cells cs t fr)) (hv : cs[i]? = some v) : w.setCell ⟨g, i, none⟩ v = w := by
  have e : cs.setIfInBounds i v = cs := by
    apply Array.ext_getElem?
    intro j
    rw [Array.getElem?_setIfInBounds]
    split
    · rename_i hj
      subst hj
      have := (Array.getElem?_eq_some_iff.1 hv).1
      rw [if_pos this, hv]
    · rfl
  have hh : (w.setCell ⟨g, i, none⟩ v).heap = w.heap := by
    apply Array.ext_getElem?
    intro b
    simp only [World.setCell, Array.getElem?_modify]
    by_cases hb : g = b
    · subst hb
      simp [h, e]
    · simp [hb]
  show (⟨(w.setCell ⟨g, i, none⟩ v).heap, w.tape, w.drawn, w.os, w.output⟩ : World) = w
  rw [hh]
def ReadyRes (l : List UInt8) (w : World) (E : Ending) (w' : World) : Prop := Below w.heap.size w w' ∧ match Tx.toks l with
  | .ok L => ∃ (pb B : Nat) (tv : Value), E = .returned (.tuple #[.pointer (some ⟨pb, 0, none⟩), .int .i64 0, .agg #[.int .i64 0, .int .i64 0]]) ∧ w.heap.size ≤ pb ∧ w.heap.size ≤ B ∧ PS pb B L tv (endOf l) 0 [] (.slice none 0 0) w'
  | .error (c, p) => E = .returned (.tuple #[.pointer none, .int .i64 c, .agg #[.int .i64 p.1, .int .i64 p.2]])
end Culp.Gr
namespace Go.Proofs.YtnhdbjhdmdefmaaDoor
set_option linter.unusedSimpArgs false
set_option linter.unusedVariables false
open Go.RowKit Culp Culp.Tr Culp.Gr
set_option maxRecDepth 100000 in
set_option maxHeartbeats 6400000 in
theorem ready_any (s : ByteArray) (sv : Value) (w : World) (hb : BytesV w sv s) (hs : s.size ≤ 65536) (hS : Sp w) (hX : ∀ x, Tx.toks s.data.toList = .error x → 0 < x.1) (hL : ∀ L, Tx.toks s.data.toList = .ok L → L.length ≤ 65536 ∧ ∀ t ∈ L, t.1.s.length ≤ 64) :
    Calls Tryd.prog 26 #[sv] w (ReadyRes s.data.toList w) := by
  have hl := size_list s
  have hba : Below w.heap.size w (w.alloc (.cells #[.int .i64 0, .int .i64 0] 25)) := (Below.refl _ _).alloc (Nat.le_refl _) _
  have HT := Lib.hid (tTokens_any s sv _ (hb.later hba) (by omega) (hS.later hba))
  have HP0 := Lib.hid (pl2_alloc w 0 0)
  have HB0 := Lib.hid hba
  have HBV := Lib.hid hb
  have HL := Lib.hid hL
  obtain ⟨A, c, rfl, hc, hA⟩ := hb
  clear hA hS hba hL
  go_enter Tryd.func26, Tryd.ntmps26
  go_wp2_with fail
  refine HT.out.mono ?_
  clear HT
  generalize w.alloc (.cells #[.int .i64 0, .int .i64 0] 25) = W0 at HP0 HB0 ⊢
  rintro E w1 ⟨hb1, hr⟩
  have HP1 := Lib.hid (HP0.out.later hb1)
  have HB1 := Lib.hid (below_later hb1 HB0.out)
  have hsz : w.heap.size ≤ W0.heap.size := HB0.out.size
  clear HP0 hb1
  cases ho : Tx.toks s.data.toList with
  | error x =>
    obtain ⟨x, p⟩ := x
    rw [ho] at hr
    simp only at hr
    subst hr
    have hx := hX _ ho
    simp only at hx
    have ex : (((x : Nat) : Int) != 0) = true := bne_iff_ne.2 (by omega)
    have HOK := Lib.hid ho
    have hba : Below w1.heap.size w1 (w1.alloc (.cells #[.int .i64 p.1, .int .i64 p.2] 25)) := (Below.refl _ _).alloc (Nat.le_refl _) _
    have HP7 := Lib.hid (pl2_alloc w1 p.1 p.2)
    have HP4 := Lib.hid (HP1.out.later hba)
    have HB4 := Lib.hid (below_later hba HB1.out)
    have hne : w.heap.size ≠ w1.heap.size := by have := HP1.out.lt; omega
    clear hba ho hx HL hX HP1 HB1
    go_wp2_with fail
    generalize w1.alloc (.cells #[.int .i64 p.1, .int .i64 p.2] 25) = W4 at *
    generalize w1.heap.size = g7 at *
    have p0 := HP7.out.c0
    have p1 := HP7.out.c1
    go_still_tail 4, (by kernel_rfl)
    change wpList _ _ _ _ _ W4.drew
    clear p0 p1
    have r0 := (HP4.out.later (Below.refl _ _).drew).c0
    have r1 := (HP4.out.later (Below.refl _ _).drew).c1
    have f0 := (HP4.out.later (Below.refl _ _).drew).free 0
    have f1 := (HP4.out.later (Below.refl _ _).drew).free 1
    have HP5 := Lib.hid (HP4.out.later (Below.refl _ _).drew)
    have HB5 := Lib.hid HB4.out.drew
    clear HP4 HB4 HP7
    generalize W4.drew = W8 at *
    go_wp2_with fail
    have HT2 := set2_pl (a' := p.1) (b' := p.2) HP5.out
    have d0 := HT2.c0
    have d1 := HT2.c1
    unfold set2 at d0 d1
    refine bodyPost_ret (v := .tuple #[.pointer none, .int .i64 x, .agg #[.int .i64 p.1, .int .i64 p.2]]) (by simp [results, Tryd.results26, go_sem, d0, d1]) rfl ⟨(HB5.out.setCell (Nat.le_refl _) _).setCell (Nat.le_refl _) _, ?_⟩
    rw [HOK.out]
  | ok L =>
    rw [ho] at hr
    obtain ⟨v, rfl, hown⟩ := hr
    obtain ⟨At, ct, rfl⟩ := own_shape hown
    obtain ⟨hL1, hL2⟩ := HL.out L ho
    have hba : Below w1.heap.size w1 ((w1.alloc (.cells #[.int .i64 0, .int .i64 0] 25)).alloc (.cells #[.int .i64 1, .int .i64 1] 25)) := ((Below.refl _ _).alloc (Nat.le_refl _) _).alloc (by simp) _
    have HP8 : Hid (Pl2 (w1.heap.size + 1) 1 1 ((w1.alloc (.cells #[.int .i64 0, .int .i64 0] 25)).alloc (.cells #[.int .i64 1, .int .i64 1] 25))) := Lib.hid (Blk.alloc2 _ _ _ _)
    have HP4 := Lib.hid (HP1.out.later hba)
    have HB4 := Lib.hid (below_later hba HB1.out)
    have HO4 := Lib.hid (own_later hown hba)
    have HOK := Lib.hid ho
    have HL2 := Lib.hid hL2
    have hg8 : w.heap.size < w1.heap.size := Nat.lt_of_lt_of_le HP1.out.lt (Nat.le_refl _)
    clear hown hba HP1 HB1 ho hL2 HL hX
    go_wp2_with fail
    generalize (w1.alloc (.cells #[.int .i64 0, .int .i64 0] 25)).alloc (.cells #[.int .i64 1, .int .i64 1] 25) = W4 at *
    have HN8 := Lib.hid HP8.out.norow
    have HK4 : Hid (Keep (w1.heap.size + 1) W4 W4) := Lib.hid (Keep.refl _ _)
    have hw4 : w1.heap.size + 1 < W4.heap.size := HP8.out.lt
    generalize hg : w1.heap.size + 1 = g8 at *
    have HG := Lib.hid hg
    clear hg
    go_loopg [24] s.size (fun g iv wx => ∃ (k : Nat) (p : Nat × Nat), g = s.size - k ∧ iv = .int .i64 k ∧ k ≤ s.size ∧ p.1 ≤ k + 1 ∧ p.2 ≤ k + 1 ∧ Hid (p = Tx.further (1, 1) (s.data.toList.take k)) ∧ Hid (Pl2 g8 p.1 p.2 wx) ∧ Hid (Keep g8 W4 wx))
    case atStart => exact ⟨0, (1, 1), rfl, rfl, Nat.zero_le _, Nat.le_refl _, Nat.le_refl _, Lib.hid rfl, HP8, HK4⟩
    case round =>
      clear HP8 HK4
      obtain ⟨k, p, rfl, rfl, hk, hp1, hp2, HPF, HPL, HKP⟩ := hrel
      by_cases hlt : k < s.size
      · have hbv := HBV.out
        obtain ⟨A2, c2, e2, _, hA⟩ := hbv
        simp only [Value.slice.injEq] at e2
        obtain ⟨rfl, -, rfl⟩ := e2
        obtain ⟨b, o, rfl, hB⟩ := hA (by omega)
        have hbc : wr.cell? ⟨b, o + k, none⟩ = some (.int .u8 (s[k].toNat : Int)) := by
          have h4 := cell_later HB4.out (hB k hlt)
          have hbl : b < w.heap.size := by
            have := hB k hlt
            by_cases hbl : b < w.heap.size
            · exact hbl
            · simp [World.cell?, Array.getElem?_eq_none (Nat.le_of_not_lt hbl)] at this
          rw [World.cell?_of_block (w := W4) (HKP.out.block b (by have := HB4.out.size; omega) (by have := HG.out; omega))]
          exact h4
        have hsn : Tx.further (1, 1) (s.data.toList.take (k + 1)) = Tx.step p s[k] := by
          have he : s.data.toList.take (k + 1) = s.data.toList.take k ++ [s[k]] := by
            rw [List.take_succ_eq_append_getElem (by omega)]
            rfl
          rw [he, further_snoc, ← HPF.out]
        have c0 := HPL.out.c0
        have c1 := HPL.out.c1
        have f0 := HPL.out.free 0
        have f1 := HPL.out.free 1
        have HBB := Lib.hid hB
        clear hB hA
        by_cases h10 : s[k].toNat = 10
        · have e1 : (((s[k].toNat : Nat) : Int) == 10) = true := beq_iff_eq.2 (by omega)
          have HST : Hid (Tx.further (1, 1) (s.data.toList.take (k + 1)) = (p.1 + 1, 1)) := Lib.hid (by rw [hsn]; unfold Tx.step; rw [if_pos h10])
          have HP9 : Hid (Pl2 g8 ((p.1 : Int) + 1) 1 (((wr.setCell ⟨g8, 1, none⟩ (.int .i64 ((p.2 : Int) + 1))).setCell ⟨g8, 0, none⟩ (.int .i64 ((p.1 : Int) + 1))).setCell ⟨g8, 1, none⟩ (.int .i64 1))) := Lib.hid (blk_set (blk_set (blk_set HPL.out 1 _) 0 _) 1 _)
          have HK9 : Hid (Keep g8 W4 (((wr.setCell ⟨g8, 1, none⟩ (.int .i64 ((p.2 : Int) + 1))).setCell ⟨g8, 0, none⟩ (.int .i64 ((p.1 : Int) + 1))).setCell ⟨g8, 1, none⟩ (.int .i64 1))) := Lib.hid (((HKP.out.setCell _ _).setCell _ _).setCell _ _)
          clear hsn h10 HPL HKP HPF
          generalize s[k].toNat = z at *
          go_wp2_with fail
          go_roundg (s.size - (k + 1))
          case rel => exact ⟨k + 1, (p.1 + 1, 1), rfl, rfl, by omega, by show p.1 + 1 ≤ _; omega, by show 1 ≤ _; omega, Lib.hid HST.out.symm, HP9, HK9⟩
          case measure => omega
        · have e1 : (((s[k].toNat : Nat) : Int) == 10) = false := beq_eq_false_iff_ne.2 (by omega)
          have HST : Hid (Tx.further (1, 1) (s.data.toList.take (k + 1)) = (p.1, p.2 + 1)) := Lib.hid (by rw [hsn]; unfold Tx.step; rw [if_neg h10])
          have HP9 : Hid (Pl2 g8 (p.1 : Int) ((p.2 : Int) + 1) (wr.setCell ⟨g8, 1, none⟩ (.int .i64 ((p.2 : Int) + 1)))) := Lib.hid (blk_set HPL.out 1 _)
          have HK9 : Hid (Keep g8 W4 (wr.setCell ⟨g8, 1, none⟩ (.int .i64 ((p.2 : Int) + 1)))) := Lib.hid (HKP.out.setCell _ _)
          clear hsn h10 HPL HKP HPF
          generalize s[k].toNat = z at *
          go_wp2_with fail
          go_roundg (s.size - (k + 1))
          case rel => exact ⟨k + 1, (p.1, p.2 + 1), rfl, rfl, by omega, by show p.1 ≤ _; omega, by show p.2 + 1 ≤ _; omega, Lib.hid HST.out.symm, HP9, HK9⟩
          case measure => omega
      · have c0 := HPL.out.c0
        have c1 := HPL.out.c1
        have hpe : p = endOf s.data.toList := by
          rw [HPF.out, List.take_of_length_le (by omega)]
          rfl
        have HPE := Lib.hid hpe
        clear hpe
        have q4 : Pl2 w.heap.size 0 0 wr := HKP.out.block w.heap.size HP4.out.lt (by have := HG.out; omega) |>.trans HP4.out
        have hpb : g8 < wr.heap.size := HPL.out.lt
        have HQ4 := Lib.hid q4
        have hq : ∀ o, Pl2 w.heap.size 0 0 (wr.alloc o) := fun o => q4.later ((Below.refl _ _).alloc (Nat.le_refl _) o)
        have a0 : ∀ o, (wr.alloc o).cell? ⟨w.heap.size, 0, none⟩ = some (.int .i64 0) := fun o => (hq o).c0
        have a1 : ∀ o, (wr.alloc o).cell? ⟨w.heap.size, 1, none⟩ = some (.int .i64 0) := fun o => (hq o).c1
        have b0 : ∀ o, (wr.alloc o).frozen? ⟨w.heap.size, 0, none⟩ = false := fun o => (hq o).free 0
        have b1 : ∀ o, (wr.alloc o).frozen? ⟨w.heap.size, 1, none⟩ = false := fun o => (hq o).free 1
        have hkb : Below w.heap.size W4 wr := ⟨HKP.out.os, HKP.out.tape, HKP.out.output, HKP.out.size, fun b hb => HKP.out.block b (by have := HB4.out.size; omega) (by have := HG.out; omega)⟩
        have hba : Below wr.heap.size wr (wr.alloc (.cells #[.slice At L.length ct, .int .i64 0, .int .i64 p.1, .int .i64 p.2, .slice none 0 0] 64)) := (Below.refl _ _).alloc (Nat.le_refl _) _
        have hown := own_later (own_keep HO4.out HKP.out HN8.out) hba
        have HRES : Hid (ReadyRes s.data.toList w (.returned (.tuple #[.pointer (some ⟨wr.heap.size, 0, none⟩), .int .i64 0, .agg #[.int .i64 0, .int .i64 0]])) (wr.alloc (.cells #[.slice At L.length ct, .int .i64 0, .int .i64 p.1, .int .i64 p.2, .slice none 0 0] 64))) := Lib.hid (by
          have hBB := below_later hba (HB4.out.trans hkb)
          refine ⟨hBB, ?_⟩
          rw [HOK.out]
          refine ⟨wr.heap.size, W0.heap.size, _, rfl, (HB4.out.trans hkb).size, hsz, ⟨?_, hown, ?_, hL1, HL2.out, Nat.zero_le _, Nat.zero_le _⟩⟩
          · rw [← HPE.out]
            exact Blk.alloc _ _ _
          · exact World.ownsRow_nil _ _ _ _)
        have HQA := Lib.hid hq
        clear hq hkb hba hown q4 HKP HPL HPF HB4 HO4 HP4 HL2 HOK
        go_wp2_with fail
        have d0 := a0 (.cells #[.slice At L.length ct, .int .i64 0, .int .i64 p.1, .int .i64 p.2, .slice none 0 0] 64 (0, 0))
        have d1 := a1 (.cells #[.slice At L.length ct, .int .i64 0, .int .i64 p.1, .int .i64 p.2, .slice none 0 0] 64 (0, 0))
        have s0 := set_selfz (i := 0) (HQA.out (.cells #[.slice At L.length ct, .int .i64 0, .int .i64 p.1, .int .i64 p.2, .slice none 0 0] 64 (0, 0))) (v := .int .i64 0) rfl
        have s1 := set_selfz (i := 1) (HQA.out (.cells #[.slice At L.length ct, .int .i64 0, .int .i64 p.1, .int .i64 p.2, .slice none 0 0] 64 (0, 0))) (v := .int .i64 0) rfl
        rw [s0, s1]
        refine bodyPost_ret (v := .tuple #[.pointer (some ⟨wr.heap.size, 0, none⟩), .int .i64 0, .agg #[.int .i64 0, .int .i64 0]]) (by simp [results, Tryd.results26, go_sem, d0, d1]) rfl HRES.out
end Go.Proofs.YtnhdbjhdmdefmaaDoor

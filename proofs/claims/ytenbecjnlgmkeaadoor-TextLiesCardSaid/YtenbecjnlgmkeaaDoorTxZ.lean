/- Walks of the reference of package text: places. -/
import Derived.Test.YtenbecjnlgmkeaaDoorTxY
namespace Go.Proofs.YtenbecjnlgmkeaaDoor
set_option linter.unusedSimpArgs false
set_option linter.unusedVariables false
open Go.RowKit Go.Maps Culp

theorem Pl2.put {g : Nat} {a b : Int} {w : World} (h : Pl2 g a b w) (x y : Int) : Pl2 g x y (set2 g x y w) := set2_pl h
theorem Pl2.put1 {g : Nat} {a b : Int} {w : World} (h : Pl2 g a b w) (y : Int) : Pl2 g a y (w.setCell ⟨g, 1, none⟩ (.int .i64 y)) := by
  unfold Pl2 at *
  simp [World.setCell, Array.getElem?_modify, h]
theorem Pl2.other {g g2 i : Nat} {a b : Int} {u : Value} {w : World} (h : Pl2 g a b w) (hne : g ≠ g2) : Pl2 g a b (w.setCell ⟨g2, i, none⟩ u) := by
  unfold Pl2 at *
  rw [Below.heap_setCell _ _ _ _ hne]; exact h
set_option maxRecDepth 100000 in
set_option maxHeartbeats 1600000 in
theorem rFurther_any (s : ByteArray) (sv : Value) (p : Nat × Nat) (a b : Nat) (w : World) (hb : BytesV w sv s) (hab : a ≤ b) (hbs : b ≤ s.size) (hs : s.size ≤ 1000000) (hp : p.1 ≤ 1000000 ∧ p.2 ≤ 1000000) :
    Calls Tryd.prog 18 #[sv, .agg #[.int .i64 p.1, .int .i64 p.2], .int .i64 a, .int .i64 b] w
      (Makes (.agg #[.int .i64 (Tx.further p ((s.data.toList.drop a).take (b - a))).1, .int .i64 (Tx.further p ((s.data.toList.drop a).take (b - a))).2]) w) := by
  obtain ⟨A, c, rfl, hc, hA⟩ := hb
  have HA := Lib.hid hA
  have hb0 : Below w.heap.size w ((w.alloc (.cells #[.int .i64 p.1, .int .i64 p.2] 29)).alloc (.cells #[.int .i64 0, .int .i64 0] 29)) := ((Below.refl _ _).alloc (Nat.le_refl _) _).alloc (by simp) _
  have hP : Pl2 w.heap.size p.1 p.2 ((w.alloc (.cells #[.int .i64 p.1, .int .i64 p.2] 29)).alloc (.cells #[.int .i64 0, .int .i64 0] 29)) := (pl2_alloc w p.1 p.2).later ((Below.refl _ _).alloc (Nat.le_refl _) _)
  have hR : Pl2 (w.heap.size + 1) 0 0 ((w.alloc (.cells #[.int .i64 p.1, .int .i64 p.2] 29)).alloc (.cells #[.int .i64 0, .int .i64 0] 29)) := by
    have := pl2_alloc (w.alloc (.cells #[.int .i64 p.1, .int .i64 p.2] 29)) 0 0
    simpa using this
  have HB := Lib.hid hb0
  have HP := Lib.hid hP
  have HR := Lib.hid hR
  obtain ⟨hp1, hp2⟩ := hp
  clear hA hb0 hP hR
  go_enter Tryd.func18, Tryd.ntmps18
  go_wp2_with fail
  go_loopw [9] (fun i wr => ∃ (k : Nat) (q : Nat × Nat), a ≤ k ∧ k ≤ b ∧ i = .int .i64 k ∧ q.1 ≤ 1000000 + k ∧ q.2 ≤ 1000000 + k ∧ Hid (q = Tx.further p ((s.data.toList.drop a).take (k - a))) ∧ Hid (Below w.heap.size w wr) ∧ Hid (Pl2 w.heap.size q.1 q.2 wr) ∧ Hid (Pl2 (w.heap.size + 1) 0 0 wr)) (fun i _ => b - (intOf i).toNat)
  case atStart => exact ⟨a, p, Nat.le_refl _, hab, rfl, by omega, by omega, Lib.hid (by simp [Tx.further]), HB, HP, HR⟩
  case round =>
    clear HB HP HR
    obtain ⟨k, q, hk1, hk2, rfl, hq1, hq2, HQ, HB, HP, HR⟩ := hrel
    have p0 := HP.out.c0
    have p1 := HP.out.c1
    have f0 := HP.out.free 0
    have f1 := HP.out.free 1
    by_cases hlt : k < b
    · have hks : k < s.size := by omega
      obtain ⟨b', o, hA', hB'⟩ := HA.out (by omega)
      subst hA'
      have hcell := cell_later HB.out (hB' k hks)
      have HF : Hid (Tx.further p ((s.data.toList.drop a).take (k + 1 - a)) = Tx.step q s[k]) := Lib.hid (by
        rw [HQ.out]
        exact Tx.further_more (l := s.data.toList) hk1 (by rw [size_list]; exact hks))
      clear hB'
      by_cases c10 : s[k].toNat = 10
      · have e10 := eq_lit (n := s[k].toNat) (z := 10) (by omega)
        have HN : Hid ((q.1 + 1, 1) = Tx.further p ((s.data.toList.drop a).take (k + 1 - a))) := Lib.hid (by rw [HF.out]; unfold Tx.step; rw [if_pos c10])
        clear c10
        go_wp2_with fail
        go_roundw
        case rel => exact ⟨k + 1, (q.1 + 1, 1), by omega, by omega, by go_num, by simp only; omega, by simp only; omega, HN, Lib.hid (set2_below HB.out (Nat.le_refl _)), Lib.hid (by have := HP.out.put ((q.1 : Int) + 1) 1; exact this), Lib.hid ((HR.out.other (by omega)).other (by omega))⟩
        case measure => simp [intOf]; omega
      · have e10 := ne_lit (n := s[k].toNat) (z := 10) (by omega)
        have HN : Hid ((q.1, q.2 + 1) = Tx.further p ((s.data.toList.drop a).take (k + 1 - a))) := Lib.hid (by rw [HF.out]; unfold Tx.step; rw [if_neg c10])
        clear c10
        go_wp2_with fail
        go_roundw
        case rel => exact ⟨k + 1, (q.1, q.2 + 1), by omega, by omega, by go_num, by simp only; omega, by simp only; omega, HN, Lib.hid (HB.out.setCell (Nat.le_refl _) _), Lib.hid (by have := HP.out.put1 ((q.2 : Int) + 1); exact this), Lib.hid (HR.out.other (by omega))⟩
        case measure => simp [intOf]; omega
    · obtain rfl : k = b := by omega
      have r0 := HR.out.c0
      have r1 := HR.out.c1
      have g0 := HR.out.free 0
      have g1 := HR.out.free 1
      go_wp2_with fail
      have hT := set2_pl (a' := q.1) (b' := q.2) HR.out
      have hBB := set2_below (a := q.1) (b := q.2) HB.out (show w.heap.size ≤ w.heap.size + 1 by omega)
      refine bodyPost_ret (v := .agg #[.int .i64 q.1, .int .i64 q.2]) (by
        have h0 := hT.c0
        have h1 := hT.c1
        unfold set2 at h0 h1
        simp [results, Tryd.results18, go_sem, h0, h1]) rfl (Makes.mk (by rw [HQ.out]) hBB)
set_option maxHeartbeats 800000 in
theorem rPlace_any (s : ByteArray) (sv : Value) (b : Nat) (w : World) (hb : BytesV w sv s) (hbs : b ≤ s.size) (hs : s.size ≤ 1000000) :
    Calls Tryd.prog 34 #[sv, .int .i64 b] w (Makes (.agg #[.int .i64 (Tx.further (1, 1) (s.data.toList.take b)).1, .int .i64 (Tx.further (1, 1) (s.data.toList.take b)).2]) w) := by
  have HBV := Lib.hid hb
  obtain ⟨A, c, rfl, hc, hA⟩ := hb
  have hb0 : Below w.heap.size w (w.alloc (.cells #[.int .i64 0, .int .i64 0] 29)) := (Below.refl _ _).alloc (Nat.le_refl _) _
  have HB := Lib.hid hb0
  clear hA hb0
  go_enter Tryd.func34, Tryd.ntmps34
  go_wp2_with fail
  refine (rFurther_any s _ (1, 1) 0 b _ (HBV.out.later HB.out) (by omega) hbs hs (by simp)).mono ?_
  rintro e w2 ⟨rfl, hb2⟩
  have hR := (pl2_alloc w 0 0).later hb2
  have HR := Lib.hid hR
  have HB2 := Lib.hid (below_later hb2 HB.out)
  have r0 := hR.c0
  have r1 := hR.c1
  have g0 := hR.free 0
  have g1 := hR.free 1
  clear hR hb2
  rw [List.drop_zero, Nat.sub_zero]
  go_wp2_with fail
  have hT := set2_pl (a' := (Tx.further (1, 1) (s.data.toList.take b)).1) (b' := (Tx.further (1, 1) (s.data.toList.take b)).2) HR.out
  have hBB := set2_below (a := (Tx.further (1, 1) (s.data.toList.take b)).1) (b := (Tx.further (1, 1) (s.data.toList.take b)).2) HB2.out (Nat.le_refl _)
  refine bodyPost_ret (v := .agg #[.int .i64 (Tx.further (1, 1) (s.data.toList.take b)).1, .int .i64 (Tx.further (1, 1) (s.data.toList.take b)).2]) (by
    have h0 := hT.c0
    have h1 := hT.c1
    unfold set2 at h0 h1
    simp [results, Tryd.results34, go_sem, h0, h1]) rfl (Makes.mk rfl hBB)
end Go.Proofs.YtenbecjnlgmkeaaDoor

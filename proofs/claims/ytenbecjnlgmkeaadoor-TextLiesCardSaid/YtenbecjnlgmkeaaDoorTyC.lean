/- Walks of the reference of package text: all tokens. -/
import Derived.Test.YtenbecjnlgmkeaaDoorTyB
namespace Culp.Tx
set_option linter.unusedSimpArgs false
set_option linter.unusedVariables false
section
variable {l : List UInt8} {k n m : Nat} {p : Nat × Nat} {t : Tk}
theorem further_le : ∀ (l : List UInt8) (p : Nat × Nat), 1 ≤ p.2 → 1 ≤ (further p l).2 ∧ (further p l).1 ≤ p.1 + l.length ∧ (further p l).2 ≤ p.2 + l.length
  | [], p, h => ⟨h, by simp [further], by simp [further]⟩
  | c :: l, p, h => by
    have h1 : 1 ≤ (step p c).2 ∧ (step p c).1 ≤ p.1 + 1 ∧ (step p c).2 ≤ p.2 + 1 := by
      unfold step
      split
      · exact ⟨Nat.le_refl _, Nat.le_refl _, by simp only; omega⟩
      · exact ⟨by simp only; omega, by simp only; omega, Nat.le_refl _⟩
    have h2 := further_le l (step p c) h1.1
    have e : further p (c :: l) = further (step p c) l := rfl
    rw [e, List.length_cons]
    exact ⟨h2.1, by omega, by omega⟩
/-- The place behind a token and what is passed over behind it. -/
theorem place_next (k2 : Nat) (p2 : Nat × Nat) (n j : Nat) (ho : one (l.drop k2) = .ok (t, n)) : further p2 ((l.drop k2).take (n + j)) = further (p2.1, p2.2 + n) ((l.drop (k2 + n)).take j) := by
  have hb := one_bounds ho
  have e2 : (l.drop k2).take (n + j) = (l.drop k2).take n ++ (l.drop (k2 + n)).take j := by rw [List.take_add, List.drop_drop]
  rw [e2, further_app, further_flat _ _ (one_nl ho), List.length_take]
  congr 2; omega
end
end Culp.Tx
namespace Go.Proofs.YtenbecjnlgmkeaaDoor
open Go.RowKit Go.Maps Culp

/-- A token of the reference's: the token, its place, where it lies. -/
def rcells (x : (Tx.Tk × (Nat × Nat)) × (Nat × Nat)) : List Value := [.int .i8 x.1.1.kind, .int .i64 x.1.1.n, .string (bs x.1.1.s), .int .i64 x.1.2.1, .int .i64 x.1.2.2, .int .i64 x.2.1, .int .i64 x.2.2]
def rflat (M : List ((Tx.Tk × (Nat × Nat)) × (Nat × Nat))) : List Value := M.flatMap rcells
theorem rtok_info : (Tryd.prog.info? 44).map (fun i => (i.zero, i.size, i.bytes)) = some (some (.agg #[.int .i8 0, .int .i64 0, .string ByteArray.empty, .int .i64 0, .int .i64 0, .int .i64 0, .int .i64 0]), 7, 64) := by kernel_rfl
def rToksRes (l : List UInt8) (w : World) (e : Ending) (w' : World) : Prop := Below w.heap.size w w' ∧ match Tx.toks l with
  | .ok L => ∃ v M, e = .returned (.tuple #[v, .int .i64 0, .agg #[.int .i64 0, .int .i64 0]]) ∧ M.map Prod.fst = L ∧ w'.ownsRow w.heap.size 44 7 v M.length (rflat M)
  | .error (c, p) => e = .returned (.tuple #[.slice none 0 0, .int .i64 c, .agg #[.int .i64 p.1, .int .i64 p.2]])
theorem rtoks_end {l : List UInt8} {w W : World} {tmps : Array Value} {v : Value} {x : Int} {a b : Int} (hp : Pl2 w.heap.size 0 0 W) (hb : Below w.heap.size w W)
    (h2 : tmps.getD 2 undef = v) (h3 : tmps.getD 3 undef = .int .i64 x) (h4 : tmps.getD 4 undef = .pointer (some ⟨w.heap.size, 0, none⟩))
    (h : Below w.heap.size w (set2 w.heap.size a b W) → rToksRes l w (.returned (.tuple #[v, .int .i64 x, .agg #[.int .i64 a, .int .i64 b]])) (set2 w.heap.size a b W)) :
    bodyPost Tryd.prog Tryd.f13 (rToksRes l w) .ret ⟨tmps, []⟩ (set2 w.heap.size a b W) := by
  rw [Array.getD_eq_getD_getElem?] at h2 h3 h4
  have hT := set2_pl (a' := a) (b' := b) hp
  have hB := h (set2_below hb (Nat.le_refl _))
  generalize set2 w.heap.size a b W = W2 at *
  exact bodyPost_ret (v := .tuple #[v, .int .i64 x, .agg #[.int .i64 a, .int .i64 b]]) (by simp [results, Tryd.results13, go_sem, h2, h3, h4, hT.c0, hT.c1]) rfl hB
theorem Pl2.norow7 {g : Nat} {a b : Int} {w : World} (h : Pl2 g a b w) : ∀ cur, w.heap[g]? ≠ some (.cells cur 44 (0, 0)) := fun cur e => by
  unfold Pl2 at h; rw [h] at e; simp at e

set_option maxRecDepth 100000 in
set_option maxHeartbeats 3200000 in
theorem rTokens_any (s : ByteArray) (sv : Value) (w : World) (hb : BytesV w sv s) (hs : s.size ≤ 140737488351232) :
    Calls Tryd.prog 13 #[sv] w (rToksRes s.data.toList w) := by
  have hl := size_list s
  have HBV := Lib.hid hb
  obtain ⟨A, c, rfl, hc, hA⟩ := hb
  clear hA
  by_cases hbig : 65536 < s.size
  · have HQ := Lib.hid (Tx.long_toks (l := s.data.toList) (by omega))
    clear hl
    go_enter Tryd.func13, Tryd.ntmps13
    go_wp2_with fail
    refine bodyPost_ret (v := .tuple #[.slice none 0 0, .int .i64 10, .agg #[.int .i64 0, .int .i64 0]]) (by simp [results, Tryd.results13, go_sem]) rfl ⟨(Below.refl _ _).alloc (Nat.le_refl _) _, ?_⟩
    rw [HQ.out]
    rfl
  have hb0 : Below w.heap.size w (w.alloc (.cells #[.int .i64 0, .int .i64 0] 29)) := (Below.refl _ _).alloc (Nat.le_refl _) _
  have HB0 := Lib.hid hb0
  clear hl hb0
  go_enter Tryd.func13, Tryd.ntmps13
  go_wp2_with fail
  refine (rBehind_any s _ 0 _ (HBV.out.later HB0.out) (by omega) (by omega)).mono ?_
  rintro e w' ⟨rfl, rfl⟩
  have hbl := Tx.behind_le false (s.data.toList.drop 0)
  rw [List.length_drop, size_list] at hbl
  rw [Nat.zero_add]
  generalize hn0 : Tx.behind false (s.data.toList.drop 0) = n0 at *
  have HN0 := Lib.hid hn0
  clear hn0
  go_wp2_with fail
  refine (rPlace_any s _ n0 _ (HBV.out.later HB0.out) (by omega) (by omega)).mono ?_
  rintro e w2 ⟨rfl, hb2⟩
  have HB2 := Lib.hid (below_later hb2 HB0.out)
  have HR2 := Lib.hid ((pl2_alloc w 0 0).later hb2)
  have hw2 : w.heap.size < w2.heap.size := by have := hb2.size; simp at this; omega
  clear hb2
  go_wp2_with fail
  have hba : Below w2.heap.size w2 (w2.alloc (.cells #[.int .i64 (Tx.further (1, 1) (s.data.toList.take n0)).1, .int .i64 (Tx.further (1, 1) (s.data.toList.take n0)).2] 29)) := (Below.refl _ _).alloc (Nat.le_refl _) _
  have HB3 := Lib.hid (below_later hba HB2.out)
  have HR3 := Lib.hid (HR2.out.later hba)
  have HP3 := Lib.hid (pl2_alloc w2 (Tx.further (1, 1) (s.data.toList.take n0)).1 (Tx.further (1, 1) (s.data.toList.take n0)).2)
  clear hba HB2 HR2 HB0
  generalize w2.alloc (.cells #[.int .i64 (Tx.further (1, 1) (s.data.toList.take n0)).1, .int .i64 (Tx.further (1, 1) (s.data.toList.take n0)).2] 29) = W at HB3 HR3 HP3 ⊢
  generalize w2.heap.size = G at *
  go_loopw [5, 6] (fun v i wr => ∃ (k n : Nat) (p : Nat × Nat) (M : List ((Tx.Tk × (Nat × Nat)) × (Nat × Nat))) (u : Value), v = u ∧ i = .int .i64 ((k + n : Nat) : Int) ∧ k + n ≤ s.size ∧ M.length ≤ k ∧ (Tx.further p ((s.data.toList.drop k).take n)).1 ≤ k + n + 1 ∧ (Tx.further p ((s.data.toList.drop k).take n)).2 ≤ k + n + 1 ∧ 1 ≤ (Tx.further p ((s.data.toList.drop k).take n)).2 ∧
      Hid (Tx.behind false (s.data.toList.drop k) = n) ∧ Hid (Tx.So s.data.toList k p (M.map Prod.fst)) ∧ Hid (Below w.heap.size w wr) ∧ Hid (Pl2 w.heap.size 0 0 wr) ∧ Hid (Pl2 G (Tx.further p ((s.data.toList.drop k).take n)).1 (Tx.further p ((s.data.toList.drop k).take n)).2 wr) ∧ Hid (wr.ownsRow w.heap.size 44 7 u M.length (rflat M))) (fun _ i _ => s.size - (intOf i).toNat)
  case atStart =>
    refine ⟨0, n0, (1, 1), [], _, rfl, by rw [Nat.zero_add], by omega, Nat.le_refl _, ?_, ?_, ?_, HN0, Lib.hid (Tx.So.start _), HB3, HR3, by rw [List.drop_zero]; exact HP3, Lib.hid (World.ownsRow_nil _ _ _ _)⟩
    all_goals
      have := Tx.further_le ((s.data.toList.drop 0).take n0) (1, 1) (Nat.le_refl _)
      have h2 : ((s.data.toList.drop 0).take n0).length ≤ n0 := List.length_take_le _ _
      omega
  case round =>
    clear HB3 HR3 HP3
    obtain ⟨k, n, p, M, u, rfl, rfl, hk, hml, hp1, hp2, hp3, HN, HSO, HB, HR, HP, HOW⟩ := hrel
    generalize hq : Tx.further p ((s.data.toList.drop k).take n) = q at *
    have HQ := Lib.hid hq
    clear hq
    have hkn : k ≤ k + n := by omega
    generalize hj : k + n = j at *
    have HJ := Lib.hid hj
    clear hj
    by_cases hlt : j < s.size
    · go_wp2_with fail
      refine (rOne_any s _ j _ (HBV.out.later HB.out) hlt (by omega)).mono ?_
      rintro e w3 ⟨hb3, hres⟩
      have HB4 := Lib.hid (below_later hb3 HB.out)
      have HR4 := Lib.hid (HR.out.later hb3)
      have HP4 := Lib.hid (HP.out.later hb3)
      have HO4 := Lib.hid (own_later HOW.out hb3)
      clear hb3 HB HR HP HOW
      cases ho : Tx.one (s.data.toList.drop j) with
      | error x =>
        rw [ho] at hres
        obtain rfl := hres
        have hx := Tx.one_err ho
        have HBD := Lib.hid (HSO.out.bad HN.out (by rw [size_list, HJ.out]; exact hlt) (by rw [HJ.out]; exact ho))
        have ex := neq_lit (n := x) (z := 0) (by omega)
        clear ho hx
        unfold noT7
        go_wp2_with fail
        have hba : Below w3.heap.size w3 (w3.alloc (.cells #[.int .i8 0, .int .i64 0, .string { data := #[] }, .int .i64 0, .int .i64 0, .int .i64 0, .int .i64 0] 44)) := (Below.refl _ _).alloc (Nat.le_refl _) _
        have HP5 := Lib.hid (HP4.out.later hba)
        have HR5 := Lib.hid (HR4.out.later hba)
        have HB5 := Lib.hid (below_later hba HB4.out)
        clear hba HP4 HR4 HB4 HO4
        generalize w3.alloc (.cells #[.int .i8 0, .int .i64 0, .string { data := #[] }, .int .i64 0, .int .i64 0, .int .i64 0, .int .i64 0] 44) = W7 at HP5 HR5 HB5 ⊢
        have p0 := HP5.out.c0
        have p1 := HP5.out.c1
        go_still_tail 4, (by kernel_rfl)
        change wpList _ _ _ _ _ W7.drew
        clear p0 p1
        have HR6 := Lib.hid (HR5.out.later (Below.refl _ _).drew)
        have HB6 := Lib.hid HB5.out.drew
        clear HR5 HB5 HP5
        generalize W7.drew = W8 at *
        have r0 := HR6.out.c0
        have r1 := HR6.out.c1
        have f0 := HR6.out.free 0
        have f1 := HR6.out.free 1
        go_wp2_with fail
        refine rtoks_end (v := .slice none 0 0) (x := x) HR6.out HB6.out rfl rfl rfl (fun hb => ⟨hb, ?_⟩)
        unfold Tx.toks
        rw [if_neg (by rw [size_list]; omega), HBD.out, HQ.out]
      | ok tn =>
        obtain ⟨t, m⟩ := tn
        rw [ho] at hres
        simp only at hres
        have hbn := Tx.one_bounds ho
        rw [List.length_drop, size_list] at hbn
        have hnx := HSO.out.next HN.out (by rw [size_list, HJ.out]; exact hlt) (by rw [HJ.out]; exact ho)
        rw [HJ.out, HQ.out] at hnx
        have HPN := Lib.hid (fun i => Tx.place_next j q m i ho)
        clear ho
        have hjm1 : j + m ≤ s.size := by omega
        have hjm2 : j < j + m := by omega
        have hqm : q.2 + m ≤ j + m + 1 := by omega
        generalize hjm : j + m = jm at *
        have HNX := Lib.hid hnx
        have HJM := Lib.hid hjm
        clear hnx hbn hjm
        obtain rfl := hres
        have p0 := HP4.out.c0
        have p1 := HP4.out.c1
        have hw3 : w.heap.size < w3.heap.size := by have := HR4.out.lt; exact this
        have hG3 := HP4.out.lt
        have hown := HO4.out.alloc (.cells #[.int .i8 t.kind, .int .i64 t.n, .string (bs t.s), .int .i64 q.1, .int .i64 q.2, .int .i64 (j : Int), .int .i64 (jm : Int)] 44)
        have e0' : ¬ G = w3.heap.size := by omega
        go_wp2_with (at_builtin; refine append_agg rfl (.tmp 36) (.tmp 38) 32 44 rfl w.heap.size _ 7 64 Tryd.underlying32 rtok_info rfl (by decide) _ _ _ rfl hown [.int .i8 t.kind, .int .i64 t.n, .string (bs t.s), .int .i64 q.1, .int .i64 q.2, .int .i64 (j : Int), .int .i64 (jm : Int)] rfl (w3.heap.size + 1) rfl (by simp) ?_ ?_ ?_ ?_ ?_)
        · intro u hu; simp at hu; rcases hu with rfl | rfl | rfl | rfl | rfl | rfl | rfl <;> rfl
        · omega
        · omega
        · simp; omega
        intro v' w7 hown' hg hb'
        have hba : Below w3.heap.size w3 (w3.alloc (.cells #[.int .i8 t.kind, .int .i64 t.n, .string (bs t.s), .int .i64 q.1, .int .i64 q.2, .int .i64 (j : Int), .int .i64 (jm : Int)] 44)) := (Below.refl _ _).alloc (Nat.le_refl _) _
        have HT8 : Hid (Tok7 w3.heap.size t.kind t.n (bs t.s) q.1 q.2 j jm w7) := Lib.hid (by
          have h1 := tok7_alloc w3 t.kind t.n (bs t.s) q.1 q.2 j jm
          refine (hg.block w3.heap.size (by simp) (fun e => ?_)).trans h1
          have := (HO4.out.lt _ e.symm).2
          omega)
        have HP8 := Lib.hid ((HP4.out.later hba).row hg (own_ne hown (HP4.out.later hba).norow7))
        have HR8 := Lib.hid ((HR4.out.later hba).row hg (own_ne hown (HR4.out.later hba).norow7))
        have HB8 := Lib.hid ((below_later hba HB4.out).trans hb')
        have HO8 : Hid (w7.ownsRow w.heap.size 44 7 v' (M ++ [((t, q), (j, jm))]).length (rflat (M ++ [((t, q), (j, jm))]))) := Lib.hid (by
          rw [List.length_append]
          unfold rflat at hown' ⊢
          rw [List.flatMap_append]
          exact hown')
        clear hown hown' hg hb' hba p0 p1 HP4 HR4 HB4 HO4
        have t6 := HT8.out.cell 6
        simp only [List.getElem?_cons_zero, List.getElem?_cons_succ] at t6
        go_wp2_with fail
        refine (rBehind_any s _ jm _ (HBV.out.later HB8.out) hjm1 (by omega)).mono ?_
        rintro e w' ⟨rfl, rfl⟩
        have hbn2 := Tx.behind_le false (s.data.toList.drop jm)
        rw [List.length_drop, size_list] at hbn2
        generalize hn2 : Tx.behind false (s.data.toList.drop jm) = n2 at *
        have HN2 := Lib.hid hn2
        clear hn2 t6
        have p0 := HP8.out.c0
        have p1 := HP8.out.c1
        go_wp2_with fail
        have hfu := rFurther_any s _ q j (jm + n2) _ (HBV.out.later HB8.out) (by omega) (by omega) (by omega) (by omega)
        rw [show jm + n2 - j = m + n2 by have := HJM.out; omega, HPN.out n2] at hfu
        rw [Int.natCast_add] at hfu
        refine hfu.mono ?_
        clear hfu p0 p1
        rintro e w8 ⟨rfl, hb8⟩
        have hfl := Tx.further_le ((s.data.toList.drop jm).take n2) (q.1, q.2 + m) (by simp only; omega)
        have hfl2 : ((s.data.toList.drop jm).take n2).length ≤ n2 := List.length_take_le _ _
        simp only at hfl
        generalize hq2 : Tx.further (q.1, q.2 + m) ((s.data.toList.drop jm).take n2) = q2 at *
        have HQ2 := Lib.hid hq2
        have HP9 := Lib.hid (HP8.out.later hb8)
        have HR9 := Lib.hid (HR8.out.later hb8)
        have HB9 := Lib.hid (below_later hb8 HB8.out)
        have HO9 := Lib.hid (own_later HO8.out hb8)
        have hGw : w.heap.size ≠ G := by omega
        clear hq2 hb8 HP8 HR8 HB8 HO8 HT8
        have p0 := HP9.out.c0
        have p1 := HP9.out.c1
        have f0 := HP9.out.free 0
        have f1 := HP9.out.free 1
        go_wp2_with fail
        go_roundw
        case rel =>
          refine ⟨jm, n2, (q.1, q.2 + m), M ++ [((t, q), (j, jm))], v', rfl, by rw [Int.natCast_add], by omega, by rw [List.length_append, List.length_singleton]; omega, ?_, ?_, ?_, HN2, Lib.hid (by rw [List.map_append]; exact HNX.out), Lib.hid (set2_below HB9.out (by omega)), Lib.hid ((HR9.out.other hGw).other hGw), ?_, Lib.hid (own_keep HO9.out (((Keep.refl _ _).setCell 0 _).setCell 1 _) HP9.out.norow7)⟩
          · rw [HQ2.out]; omega
          · rw [HQ2.out]; omega
          · rw [HQ2.out]; omega
          · rw [HQ2.out]; exact Lib.hid (set2_pl HP9.out)
        case measure => simp [intOf]; omega
    · have HD := Lib.hid (HSO.out.done HN.out (by rw [size_list, HJ.out]; omega))
      have r0 := HR.out.c0
      have r1 := HR.out.c1
      have f0 := HR.out.free 0
      have f1 := HR.out.free 1
      go_wp2_with fail
      refine rtoks_end (x := 0) HR.out HB.out rfl rfl rfl (fun hb => ⟨hb, ?_⟩)
      unfold Tx.toks
      rw [if_neg (by rw [size_list]; omega), HD.out]
      exact ⟨_, M, rfl, rfl, own_keep HOW.out (((Keep.refl _ _).setCell 0 _).setCell 1 _) HR.out.norow7⟩
end Go.Proofs.YtenbecjnlgmkeaaDoor


/- Walks of what statements lean on: lists of modules with marks behind them are made. -/
import Derived.Test.YtacihffkjadbbaaGreatDoorVi
import Derived.OwnWalk
namespace Go.Proofs.YtacihffkjadbbaaGreatDoor
set_option linter.unusedSimpArgs false
set_option linter.unusedVariables false
open Go.RowKit Culp
theorem im_info : (Tryz.prog.info? 57).map (fun i => (i.zero, i.size, i.bytes)) = some (some (.agg #[.string ByteArray.empty, .string ByteArray.empty, .string ByteArray.empty, .int .i64 0, .int .i64 0]), 5, 64) := by kernel_rfl
theorem df_info : (Tryz.prog.info? 60).map (fun i => (i.zero, i.size, i.bytes)) = some (some (.agg #[.string ByteArray.empty, .bool false, .string ByteArray.empty, .slice none 0 0, .int .i64 0, .int .i64 0]), 6, 80) := by kernel_rfl
theorem md_info : (Tryz.prog.info? 55).map (fun i => (i.zero, i.size, i.bytes)) = some (some (.agg #[.string ByteArray.empty, .slice none 0 0, .slice none 0 0, .int .i64 0, .int .i64 0]), 5, 80) := by kernel_rfl
theorem df_size : (Tryz.prog.info? 60).map (·.size) = some 6 := by kernel_rfl
theorem md_size : (Tryz.prog.info? 55).map (·.size) = some 5 := by kernel_rfl
theorem blk_put6 {g : Nat} {t : TypeId} {w : World} {v0 v1 v2 v3 v4 v5 a b c d e f : Value} (h : Blk g #[v0, v1, v2, v3, v4, v5] t w) : Blk g #[a, b, c, d, e, f] t (put6 w g 0 a b c d e f) := by
  unfold Blk at h ⊢
  simp [put6, put5, World.setCell, Array.getElem?_modify, h]
theorem blk_put5 {g : Nat} {t : TypeId} {w : World} {v0 v1 v2 v3 v4 a b c d e : Value} (h : Blk g #[v0, v1, v2, v3, v4] t w) : Blk g #[a, b, c, d, e] t (put5 w g 0 a b c d e) := by
  unfold Blk at h ⊢
  simp [put5, World.setCell, Array.getElem?_modify, h]
theorem blk_keep {g R : Nat} {t : TypeId} {w w' : World} {cs : Array Value} (h : Blk g cs t w) (hk : Keep R w w') (hne : g ≠ R) : Blk g cs t w' := (hk.block g h.lt hne).trans h
theorem blk_set {g i : Nat} {t : TypeId} {w : World} {cs : Array Value} (h : Blk g cs t w) (v : Value) : Blk g (cs.setIfInBounds i v) t (w.setCell ⟨g, i, none⟩ v) := by
  unfold Blk at h ⊢
  simp [World.setCell, Array.getElem?_modify, h]
/-- What one of these answers. -/
def WideL {α : Type} (W : World → Nat → List α → Prop) (L : List α) (w : World) (e : Ending) (w' : World) : Prop := ∃ g, w.heap.size ≤ g ∧ e = .returned (.slice (some ⟨g, 0, none⟩) L.length (L.length + 64 : Nat)) ∧ W w' g L ∧ Below w.heap.size w w'
theorem row_made {t : TypeId} {R n sz : Nat} {w : World} {c : Nat} {xs : List Value} (h : w.ownsRow R t sz (.slice (some ⟨R, 0, none⟩) n c) n xs) (hc : c = n) : RowG t R (n * sz) w := by
  rcases h.2 with ⟨h1, _⟩ | ⟨g, cap, cur, h1, _, h2, _, _, h3, _⟩
  · cases h1
  · simp only [Value.slice.injEq, Option.some.injEq, Addr.mk.injEq] at h1
    obtain ⟨⟨rfl, _⟩, _, rfl⟩ := h1
    exact ⟨cur, h2, by rw [h3, hc]⟩
set_option maxRecDepth 100000 in
set_option maxHeartbeats 6400000 in
theorem WideImports_any (L : List Im) (v : Value) (w : World) (hL : Imps w v L) (hl : L.length ≤ 100000000000) (hP : Pw w) : Calls Tryz.prog 54 #[v] w (WideL ImsW L w) := by
  have HL := Lib.hid hL
  have HP := Lib.hid hP
  obtain ⟨A, c, rfl⟩ := hL.form
  obtain ⟨i0, hi, hz0, hz1, hz2⟩ := info_parts im_info
  clear hL hP
  go_enter Tryz.func54, Tryz.ntmps54
  go_wp2_with (refine wpList_make_full _ rfl (.tmp 7) (.tmp 7) 52 rfl w.heap.size 57 i0 _ 5 Tryz.underlying52 hi hz0 hz1 .i64 .i64 ((L.length : Int) + 64) ((L.length : Int) + 64) (L.length + 64) rfl rfl (by omega) (by omega) (by rw [hz2]; omega) (by unfold maxLen; omega) (Nat.le_refl _) ?_)
  intro w1 hown hgr
  have HR := Lib.hid (row_made hown rfl)
  have HB : Hid (Below w.heap.size w w1) := Lib.hid ((Below.refl _ _).grown hgr (Nat.le_refl _) fun k hk => by cases hk)
  clear hown hgr
  go_wp2_with fail
  go_loopw [4] (fun i wr => ∃ k : Nat, k ≤ L.length + 64 ∧ i = .int .i64 k ∧ Hid (RowG 57 w.heap.size ((L.length + 64) * 5) wr) ∧ Hid (Fill 5 (ImR) wr w.heap.size L mcI k) ∧ Hid (Below w.heap.size w wr)) (fun i _ => L.length + 64 - (intOf i).toNat)
  case atStart => exact ⟨0, Nat.zero_le _, rfl, HR, Lib.hid Fill.start, HB⟩
  case round =>
    obtain ⟨k, hk, rfl, HRr, HFr, HBr⟩ := hrel
    by_cases hlt : k < L.length + 64
    · have hrw : w.heap.size < wr.heap.size := HRr.out.lt
      by_cases hkL : k < L.length
      · obtain ⟨b, off, rfl, ⟨n0, n1, n2, n3, n4⟩⟩ := (HL.out.later HBr.out).at_ hkL
        have hx : L[k]? = some L[k] := List.getElem?_eq_getElem hkL
        have HX := Lib.hid hx
        generalize L[k] = x at *
        obtain ⟨v0, r0⟩ := HRr.out.cell (i := k * 5) (by omega)
        have f0 := HRr.out.free (k * 5)
        obtain ⟨v1, r1⟩ := HRr.out.cell (i := k * 5 + 1) (by omega)
        have f1 := HRr.out.free (k * 5 + 1)
        obtain ⟨v2, r2⟩ := HRr.out.cell (i := k * 5 + 2) (by omega)
        have f2 := HRr.out.free (k * 5 + 2)
        obtain ⟨v3, r3⟩ := HRr.out.cell (i := k * 5 + 3) (by omega)
        have f3 := HRr.out.free (k * 5 + 3)
        obtain ⟨v4, r4⟩ := HRr.out.cell (i := k * 5 + 4) (by omega)
        have f4 := HRr.out.free (k * 5 + 4)
        have HR3 : Hid (RowG 57 w.heap.size ((L.length + 64) * 5) (put5 wr w.heap.size (k * 5) (.string x.src) (.string x.name) (.string x.t) (.int .i64 x.line) (.int .i64 x.col))) := Lib.hid HRr.out.put5
        have HF3 : Hid (Fill 5 ImR (put5 wr w.heap.size (k * 5) (.string x.src) (.string x.name) (.string x.t) (.int .i64 x.line) (.int .i64 x.col)) w.heap.size L mcI (k + 1)) := Lib.hid (HFr.out.put (cs := x.cells) HX.out (fun j v hj hv => put5_old hv hj) (fun _ _ h => h) rfl rfl (put5_new HRr.out (by omega)))
        have HB3 : Hid (Below w.heap.size w (put5 wr w.heap.size (k * 5) (.string x.src) (.string x.name) (.string x.t) (.int .i64 x.line) (.int .i64 x.col))) := Lib.hid (below_keep HBr.out put5_keep (Nat.le_refl _) HRr.out.lt)
        clear hx HRr HFr HBr
        go_wp2_with fail
        go_roundw
        case rel => exact ⟨k + 1, by omega, by go_num, HR3, HF3, HB3⟩
        case measure => simp [intOf]; omega
      · have HTX := Lib.hid (text_any 9 k (by decide) (by omega) wr (HP.out.later HBr.out HP.out.lt))
        unfold mkT at HTX
        go_wp2_with fail
        refine HTX.out.mono ?_
        rintro e w2 ⟨rfl, hb2⟩
        have HR2 := Lib.hid (HRr.out.later hb2)
        have HF2 := Lib.hid (Fill.keep HFr.out (later_cells hb2) (fun _ _ h => h))
        have HB2 := Lib.hid (below_later hb2 HBr.out)
        obtain ⟨v0, r0⟩ := HR2.out.cell (i := k * 5) (by omega)
        have f0 := HR2.out.free (k * 5)
        obtain ⟨v1, r1⟩ := HR2.out.cell (i := k * 5 + 1) (by omega)
        have f1 := HR2.out.free (k * 5 + 1)
        obtain ⟨v2, r2⟩ := HR2.out.cell (i := k * 5 + 2) (by omega)
        have f2 := HR2.out.free (k * 5 + 2)
        obtain ⟨v3, r3⟩ := HR2.out.cell (i := k * 5 + 3) (by omega)
        have f3 := HR2.out.free (k * 5 + 3)
        obtain ⟨v4, r4⟩ := HR2.out.cell (i := k * 5 + 4) (by omega)
        have f4 := HR2.out.free (k * 5 + 4)
        have HR3 : Hid (RowG 57 w.heap.size ((L.length + 64) * 5) (put5 w2 w.heap.size (k * 5) (.string (txt 9 k)) (.string { data := #[] }) (.string { data := #[] }) (.int .i64 0) (.int .i64 0))) := Lib.hid HR2.out.put5
        have HF3 : Hid (Fill 5 (ImR) (put5 w2 w.heap.size (k * 5) (.string (txt 9 k)) (.string { data := #[] }) (.string { data := #[] }) (.int .i64 0) (.int .i64 0)) w.heap.size L mcI (k + 1)) := Lib.hid (HF2.out.putMark (by omega) (fun _ => rfl) (fun j v hj hv => put5_old hv hj) (fun _ _ h => h) (put5_new HR2.out (by omega)))
        have HB3 : Hid (Below w.heap.size w (put5 w2 w.heap.size (k * 5) (.string (txt 9 k)) (.string { data := #[] }) (.string { data := #[] }) (.int .i64 0) (.int .i64 0))) := Lib.hid (below_keep HB2.out put5_keep (Nat.le_refl _) HR2.out.lt)
        clear hb2 HTX HRr HFr HBr HF2 HB2
        go_wp2_with fail
        go_roundw
        case rel => exact ⟨k + 1, by omega, by go_num, HR3, HF3, HB3⟩
        case measure => simp [intOf]; omega
    · obtain rfl : k = L.length + 64 := by omega
      go_wp2_with fail
      go_ret
      exact ⟨_, Nat.le_refl _, rfl, HFr.out, HBr.out⟩
set_option maxRecDepth 100000 in
set_option maxHeartbeats 3200000 in
theorem WideDef_any (x : Df) (A : Option Addr) (c : Nat) (w : World) (hn : Nodes w (.slice A x.tree.length c) x.tree) (hT : x.tree.length ≤ 100000000000) :
    Calls Tryz.prog 87 #[.agg #[.string x.name, .bool x.out, .string x.t, .slice A x.tree.length c, .int .i64 x.line, .int .i64 x.col]] w (fun e w' => ∃ gt, w.heap.size ≤ gt ∧ e = .returned (.agg #[.string x.name, .bool x.out, .string x.t, .slice (some ⟨gt, 0, none⟩) x.tree.length (x.tree.length + 64 : Nat), .int .i64 x.line, .int .i64 x.col]) ∧ NodesAt w' gt 0 (x.tree ++ marks x.tree.length) ∧ Below w.heap.size w w') := by
  have HN := Lib.hid hn
  have HB2 := Lib.hid (below_two w (.cells #[.string x.name, .bool x.out, .string x.t, .slice A x.tree.length c, .int .i64 x.line, .int .i64 x.col] 60) (.cells #[.string { data := #[] }, .bool false, .string { data := #[] }, .slice none 0 0, .int .i64 0, .int .i64 0] 60))
  have HX0 : Hid (Blk w.heap.size #[.string x.name, .bool x.out, .string x.t, .slice A x.tree.length c, .int .i64 x.line, .int .i64 x.col] 60 ((w.alloc (.cells #[.string x.name, .bool x.out, .string x.t, .slice A x.tree.length c, .int .i64 x.line, .int .i64 x.col] 60)).alloc (.cells #[.string { data := #[] }, .bool false, .string { data := #[] }, .slice none 0 0, .int .i64 0, .int .i64 0] 60))) := Lib.hid ((Blk.alloc w _ _).later ((Below.refl _ _).alloc (Nat.le_refl _) _))
  have HZ0 := Lib.hid (Blk.alloc2 w (.cells #[.string x.name, .bool x.out, .string x.t, .slice A x.tree.length c, .int .i64 x.line, .int .i64 x.col] 60) #[.string { data := #[] }, .bool false, .string { data := #[] }, .slice none 0 0, .int .i64 0, .int .i64 0] 60)
  clear hn
  go_enter Tryz.func87, Tryz.ntmps87
  go_wp2_with fail
  refine (WideNodes_at x.tree _ _ (HN.out.later HB2.out) hT).mono ?_
  rintro E w1 ⟨gt, hgt, rfl, hN1, hb1⟩
  have HB1 := Lib.hid (below_later hb1 HB2.out)
  have HX1 := Lib.hid (HX0.out.later hb1)
  have HZ1 := Lib.hid (HZ0.out.later hb1)
  have HN1 := Lib.hid hN1
  have HGT : Hid (w.heap.size + 2 ≤ gt) := Lib.hid (by simpa using hgt)
  clear hb1 hN1 hgt HX0 HZ0 HB2
  have x0 := HX1.out.cell (i := 0) rfl
  have x1 := HX1.out.cell (i := 1) rfl
  have x2 := HX1.out.cell (i := 2) rfl
  have x3 := HX1.out.cell (i := 3) rfl
  have x4 := HX1.out.cell (i := 4) rfl
  have x5 := HX1.out.cell (i := 5) rfl
  have f3 := HX1.out.free 3
  have z0 := HZ1.out.cell (i := 0) rfl
  have z1 := HZ1.out.cell (i := 1) rfl
  have z2 := HZ1.out.cell (i := 2) rfl
  have z3 := HZ1.out.cell (i := 3) rfl
  have z4 := HZ1.out.cell (i := 4) rfl
  have z5 := HZ1.out.cell (i := 5) rfl
  have g0 := HZ1.out.free 0
  have g1 := HZ1.out.free 1
  have g2 := HZ1.out.free 2
  have g3 := HZ1.out.free 3
  have g4 := HZ1.out.free 4
  have g5 := HZ1.out.free 5
  have hA := HX1.out.lt
  have hZ := HZ1.out.lt
  have HK3 : Hid (Keep w.heap.size w1 (w1.setCell ⟨w.heap.size, 3, none⟩ (.slice (some ⟨gt, 0, none⟩) x.tree.length (x.tree.length + 64 : Nat)))) := Lib.hid ((Keep.refl _ w1).setCell 3 _)
  have HW : Hid (Blk (w.heap.size + 1) #[.string x.name, .bool x.out, .string x.t, .slice (some ⟨gt, 0, none⟩) x.tree.length (x.tree.length + 64 : Nat), .int .i64 x.line, .int .i64 x.col] 60 (put6 (w1.setCell ⟨w.heap.size, 3, none⟩ (.slice (some ⟨gt, 0, none⟩) x.tree.length (x.tree.length + 64 : Nat))) (w.heap.size + 1) 0 (.string x.name) (.bool x.out) (.string x.t) (.slice (some ⟨gt, 0, none⟩) x.tree.length (x.tree.length + 64 : Nat)) (.int .i64 x.line) (.int .i64 x.col))) := Lib.hid (blk_put6 (blk_keep HZ1.out HK3.out (by omega)))
  have HN2 : Hid (NodesAt (put6 (w1.setCell ⟨w.heap.size, 3, none⟩ (.slice (some ⟨gt, 0, none⟩) x.tree.length (x.tree.length + 64 : Nat))) (w.heap.size + 1) 0 (.string x.name) (.bool x.out) (.string x.t) (.slice (some ⟨gt, 0, none⟩) x.tree.length (x.tree.length + 64 : Nat)) (.int .i64 x.line) (.int .i64 x.col)) gt 0 (x.tree ++ marks x.tree.length)) := Lib.hid (nodes_keep (nodes_keep HN1.out HK3.out (by have := HGT.out; omega)) put6_keep (by have := HGT.out; omega))
  have HB3 : Hid (Below w.heap.size w (put6 (w1.setCell ⟨w.heap.size, 3, none⟩ (.slice (some ⟨gt, 0, none⟩) x.tree.length (x.tree.length + 64 : Nat))) (w.heap.size + 1) 0 (.string x.name) (.bool x.out) (.string x.t) (.slice (some ⟨gt, 0, none⟩) x.tree.length (x.tree.length + 64 : Nat)) (.int .i64 x.line) (.int .i64 x.col))) := Lib.hid (below_keep (below_keep HB1.out HK3.out (Nat.le_refl _) hA) put6_keep (Nat.le_succ _) (Nat.lt_of_lt_of_le hZ HK3.out.size))
  go_wp2_with fail
  refine bodyPost_ret (results_cell_row rfl _ _ (w.heap.size + 1) 60 #[.string x.name, .bool x.out, .string x.t, .slice (some ⟨gt, 0, none⟩) x.tree.length (x.tree.length + 64 : Nat), .int .i64 x.line, .int .i64 x.col] (0, 0) _ rfl HW.out Tryz.underlying60 rfl df_size) rfl ⟨gt, by have := HGT.out; omega, rfl, HN2.out, HB3.out⟩
set_option maxRecDepth 100000 in
set_option maxHeartbeats 6400000 in
theorem WideDefs_any (L : List Df) (v : Value) (w : World) (hL : Defs w v L) (hl : L.length ≤ 100000000000) (hz : ∀ d ∈ L, d.tree.length ≤ 100000000000) (hP : Pw w) : Calls Tryz.prog 55 #[v] w (WideL DfsW L w) := by
  have HL := Lib.hid hL
  have HP := Lib.hid hP
  have HZ := Lib.hid hz
  obtain ⟨A, c, rfl⟩ := hL.form
  obtain ⟨i0, hi, hz0, hz1, hz2⟩ := info_parts df_info
  clear hL hP hz
  go_enter Tryz.func55, Tryz.ntmps55
  go_wp2_with (refine wpList_make_full _ rfl (.tmp 7) (.tmp 7) 53 rfl w.heap.size 60 i0 _ 6 Tryz.underlying53 hi hz0 hz1 .i64 .i64 ((L.length : Int) + 64) ((L.length : Int) + 64) (L.length + 64) rfl rfl (by omega) (by omega) (by rw [hz2]; omega) (by unfold maxLen; omega) (Nat.le_refl _) ?_)
  intro w1 hown hgr
  have HR := Lib.hid (row_made hown rfl)
  have HB : Hid (Below w.heap.size w w1) := Lib.hid ((Below.refl _ _).grown hgr (Nat.le_refl _) fun k hk => by cases hk)
  clear hown hgr
  go_wp2_with fail
  go_loopw [4] (fun i wr => ∃ k : Nat, k ≤ L.length + 64 ∧ i = .int .i64 k ∧ Hid (RowG 60 w.heap.size ((L.length + 64) * 6) wr) ∧ Hid (Fill 6 (DfW w.heap.size) wr w.heap.size L mcD k) ∧ Hid (Below w.heap.size w wr)) (fun i _ => L.length + 64 - (intOf i).toNat)
  case atStart => exact ⟨0, Nat.zero_le _, rfl, HR, Lib.hid Fill.start, HB⟩
  case round =>
    obtain ⟨k, hk, rfl, HRr, HFr, HBr⟩ := hrel
    by_cases hlt : k < L.length + 64
    · have hrw : w.heap.size < wr.heap.size := HRr.out.lt
      by_cases hkL : k < L.length
      · obtain ⟨b, off, tv, rfl, ⟨n0, n1, n2, n3, n4, n5⟩, ht⟩ := (HL.out.later HBr.out).at_ hkL
        obtain ⟨At, ct, rfl⟩ := ht.form
        have hx : L[k]? = some L[k] := List.getElem?_eq_getElem hkL
        have HX := Lib.hid hx
        have hT := HZ.out _ (List.mem_of_getElem? hx)
        generalize L[k] = x at *
        have HWD := Lib.hid (WideDef_any x At ct wr ht hT)
        clear hx ht
        go_wp2_with fail
        refine HWD.out.mono ?_
        rintro e w2 ⟨gt, hgt, rfl, hN2, hb2⟩
        have HR2 := Lib.hid (HRr.out.later hb2)
        have HF2 := Lib.hid (Fill.keep HFr.out (later_cells hb2) (fun _ _ h => h.later hb2))
        have HB2 := Lib.hid (below_later hb2 HBr.out)
        obtain ⟨v0, r0⟩ := HR2.out.cell (i := k * 6) (by omega)
        have f0 := HR2.out.free (k * 6)
        obtain ⟨v1, r1⟩ := HR2.out.cell (i := k * 6 + 1) (by omega)
        have f1 := HR2.out.free (k * 6 + 1)
        obtain ⟨v2, r2⟩ := HR2.out.cell (i := k * 6 + 2) (by omega)
        have f2 := HR2.out.free (k * 6 + 2)
        obtain ⟨v3, r3⟩ := HR2.out.cell (i := k * 6 + 3) (by omega)
        have f3 := HR2.out.free (k * 6 + 3)
        obtain ⟨v4, r4⟩ := HR2.out.cell (i := k * 6 + 4) (by omega)
        have f4 := HR2.out.free (k * 6 + 4)
        obtain ⟨v5, r5⟩ := HR2.out.cell (i := k * 6 + 5) (by omega)
        have f5 := HR2.out.free (k * 6 + 5)
        have HR3 : Hid (RowG 60 w.heap.size ((L.length + 64) * 6) (put6 w2 w.heap.size (k * 6) (.string x.name) (.bool x.out) (.string x.t) (.slice (some ⟨gt, 0, none⟩) x.tree.length (x.tree.length + 64 : Nat)) (.int .i64 x.line) (.int .i64 x.col))) := Lib.hid HR2.out.put6
        have HF3 : Hid (Fill 6 (DfW w.heap.size) (put6 w2 w.heap.size (k * 6) (.string x.name) (.bool x.out) (.string x.t) (.slice (some ⟨gt, 0, none⟩) x.tree.length (x.tree.length + 64 : Nat)) (.int .i64 x.line) (.int .i64 x.col)) w.heap.size L mcD (k + 1)) := Lib.hid (HF2.out.put (cs := x.cells (.slice (some ⟨gt, 0, none⟩) x.tree.length (x.tree.length + 64 : Nat))) HX.out (fun j v hj hv => put6_old hv hj) (fun _ _ h => h.keep put6_keep (Nat.le_refl _)) ⟨gt, by omega, rfl, nodes_keep hN2 put6_keep (by omega)⟩ rfl (put6_new HR2.out (by omega)))
        have HB3 : Hid (Below w.heap.size w (put6 w2 w.heap.size (k * 6) (.string x.name) (.bool x.out) (.string x.t) (.slice (some ⟨gt, 0, none⟩) x.tree.length (x.tree.length + 64 : Nat)) (.int .i64 x.line) (.int .i64 x.col))) := Lib.hid (below_keep HB2.out put6_keep (Nat.le_refl _) HR2.out.lt)
        clear hb2 hN2 HWD HRr HFr HBr HF2 HB2 n0 n1 n2 n3 n4 n5
        go_wp2_with fail
        go_roundw
        case rel => exact ⟨k + 1, by omega, by go_num, HR3, HF3, HB3⟩
        case measure => simp [intOf]; omega
      · have HTX := Lib.hid (text_any 9 k (by decide) (by omega) wr (HP.out.later HBr.out HP.out.lt))
        unfold mkT at HTX
        go_wp2_with fail
        refine HTX.out.mono ?_
        rintro e w2 ⟨rfl, hb2⟩
        have HR2 := Lib.hid (HRr.out.later hb2)
        have HF2 := Lib.hid (Fill.keep HFr.out (later_cells hb2) (fun _ _ h => h.later hb2))
        have HB2 := Lib.hid (below_later hb2 HBr.out)
        obtain ⟨v0, r0⟩ := HR2.out.cell (i := k * 6) (by omega)
        have f0 := HR2.out.free (k * 6)
        obtain ⟨v1, r1⟩ := HR2.out.cell (i := k * 6 + 1) (by omega)
        have f1 := HR2.out.free (k * 6 + 1)
        obtain ⟨v2, r2⟩ := HR2.out.cell (i := k * 6 + 2) (by omega)
        have f2 := HR2.out.free (k * 6 + 2)
        obtain ⟨v3, r3⟩ := HR2.out.cell (i := k * 6 + 3) (by omega)
        have f3 := HR2.out.free (k * 6 + 3)
        obtain ⟨v4, r4⟩ := HR2.out.cell (i := k * 6 + 4) (by omega)
        have f4 := HR2.out.free (k * 6 + 4)
        obtain ⟨v5, r5⟩ := HR2.out.cell (i := k * 6 + 5) (by omega)
        have f5 := HR2.out.free (k * 6 + 5)
        have HR3 : Hid (RowG 60 w.heap.size ((L.length + 64) * 6) (put6 w2 w.heap.size (k * 6) (.string (txt 9 k)) (.bool false) (.string { data := #[] }) (.slice none 0 0) (.int .i64 0) (.int .i64 0))) := Lib.hid HR2.out.put6
        have HF3 : Hid (Fill 6 (DfW w.heap.size) (put6 w2 w.heap.size (k * 6) (.string (txt 9 k)) (.bool false) (.string { data := #[] }) (.slice none 0 0) (.int .i64 0) (.int .i64 0)) w.heap.size L mcD (k + 1)) := Lib.hid (HF2.out.putMark (by omega) (fun _ => rfl) (fun j v hj hv => put6_old hv hj) (fun _ _ h => h.keep put6_keep (Nat.le_refl _)) (put6_new HR2.out (by omega)))
        have HB3 : Hid (Below w.heap.size w (put6 w2 w.heap.size (k * 6) (.string (txt 9 k)) (.bool false) (.string { data := #[] }) (.slice none 0 0) (.int .i64 0) (.int .i64 0))) := Lib.hid (below_keep HB2.out put6_keep (Nat.le_refl _) HR2.out.lt)
        clear hb2 HTX HRr HFr HBr HF2 HB2
        go_wp2_with fail
        go_roundw
        case rel => exact ⟨k + 1, by omega, by go_num, HR3, HF3, HB3⟩
        case measure => simp [intOf]; omega
    · obtain rfl : k = L.length + 64 := by omega
      go_wp2_with fail
      go_ret
      exact ⟨_, Nat.le_refl _, rfl, HFr.out, HBr.out⟩
theorem blk_set1 {g : Nat} {t : TypeId} {w : World} {v0 v1 v2 v3 v4 : Value} (h : Blk g #[v0, v1, v2, v3, v4] t w) (u : Value) : Blk g #[v0, u, v2, v3, v4] t (w.setCell ⟨g, 1, none⟩ u) := by
  unfold Blk at h ⊢
  simp [World.setCell, Array.getElem?_modify, h]
set_option maxRecDepth 100000 in
set_option maxHeartbeats 6400000 in
theorem WideModule_any (x : Md) (A D : Option Addr) (ca cd : Nat) (w : World) (hi : Imps w (.slice A x.imps.length ca) x.imps) (hd : Defs w (.slice D x.defs.length cd) x.defs) (hil : x.imps.length ≤ 100000000000) (hdl : x.defs.length ≤ 100000000000) (hT : ∀ d ∈ x.defs, d.tree.length ≤ 100000000000) (hP : Pw w) :
    Calls Tryz.prog 30 #[.agg #[.string x.name, .slice A x.imps.length ca, .slice D x.defs.length cd, .int .i64 x.line, .int .i64 x.col]] w (fun e w' => ∃ gi gd, w.heap.size ≤ gi ∧ w.heap.size ≤ gd ∧ e = .returned (.agg #[.string x.name, .slice (some ⟨gi, 0, none⟩) x.imps.length (x.imps.length + 64 : Nat), .slice (some ⟨gd, 0, none⟩) x.defs.length (x.defs.length + 64 : Nat), .int .i64 x.line, .int .i64 x.col]) ∧ ImsW w' gi x.imps ∧ DfsW w' gd x.defs ∧ Below w.heap.size w w') := by
  have HI := Lib.hid hi
  have HD := Lib.hid hd
  have HT := Lib.hid hT
  have HP := Lib.hid hP
  have HB2 := Lib.hid (below_two w (.cells #[.string x.name, .slice A x.imps.length ca, .slice D x.defs.length cd, .int .i64 x.line, .int .i64 x.col] 55) (.cells #[.string { data := #[] }, .slice none 0 0, .slice none 0 0, .int .i64 0, .int .i64 0] 55))
  have HX0 : Hid (Blk w.heap.size #[.string x.name, .slice A x.imps.length ca, .slice D x.defs.length cd, .int .i64 x.line, .int .i64 x.col] 55 ((w.alloc (.cells #[.string x.name, .slice A x.imps.length ca, .slice D x.defs.length cd, .int .i64 x.line, .int .i64 x.col] 55)).alloc (.cells #[.string { data := #[] }, .slice none 0 0, .slice none 0 0, .int .i64 0, .int .i64 0] 55))) := Lib.hid ((Blk.alloc w _ _).later ((Below.refl _ _).alloc (Nat.le_refl _) _))
  have HZ0 := Lib.hid (Blk.alloc2 w (.cells #[.string x.name, .slice A x.imps.length ca, .slice D x.defs.length cd, .int .i64 x.line, .int .i64 x.col] 55) #[.string { data := #[] }, .slice none 0 0, .slice none 0 0, .int .i64 0, .int .i64 0] 55)
  clear hi hd hT hP
  go_enter Tryz.func30, Tryz.ntmps30
  go_wp2_with fail
  refine (WideImports_any x.imps _ _ (HI.out.later HB2.out) hil (HP.out.later HB2.out HP.out.lt)).mono ?_
  rintro E w1 ⟨gi, hgi, rfl, hI1, hb1⟩
  have hs1 : w.heap.size + 2 ≤ w1.heap.size := by simpa using hb1.size
  have HGI : Hid (w.heap.size + 2 ≤ gi) := Lib.hid (by simpa using hgi)
  have HX1 := Lib.hid (HX0.out.later hb1)
  have HZ1 := Lib.hid (HZ0.out.later hb1)
  have HK1 : Hid (Keep w.heap.size w1 (w1.setCell ⟨w.heap.size, 1, none⟩ (.slice (some ⟨gi, 0, none⟩) x.imps.length (x.imps.length + 64 : Nat)))) := Lib.hid ((Keep.refl _ w1).setCell 1 _)
  have HBE : Hid (Below w.heap.size w (w1.setCell ⟨w.heap.size, 1, none⟩ (.slice (some ⟨gi, 0, none⟩) x.imps.length (x.imps.length + 64 : Nat)))) := Lib.hid (below_keep (below_later hb1 HB2.out) HK1.out (Nat.le_refl _) (by omega))
  have HX2 := Lib.hid (blk_set1 HX1.out (.slice (some ⟨gi, 0, none⟩) x.imps.length (x.imps.length + 64 : Nat)))
  have HZ2 := Lib.hid (blk_keep HZ1.out HK1.out (by omega))
  have HI2 := Lib.hid (hI1.keep HK1.out (by have := HGI.out; omega))
  have HD2 := Lib.hid (HD.out.later HBE.out)
  have HP2 := Lib.hid (HP.out.later HBE.out HP.out.lt)
  have x1 : w1.cell? ⟨w.heap.size, 1, none⟩ = some (.slice A x.imps.length ca) := HX1.out.cell (i := 1) rfl
  have x2 : w1.cell? ⟨w.heap.size, 2, none⟩ = some (.slice D x.defs.length cd) := HX1.out.cell (i := 2) rfl
  have f1 := HX1.out.free 1
  clear hgi hI1 hb1 HB2 HX0 HZ0 HI HD
  go_wp2_with fail
  refine (WideDefs_any x.defs _ _ HD2.out hdl HT.out HP2.out).mono ?_
  rintro E w2 ⟨gd, hgd, rfl, hD3, hb3⟩
  have hs2 : w1.heap.size ≤ w2.heap.size := by simpa using hb3.size
  have HGD : Hid (w.heap.size + 2 ≤ gd) := Lib.hid (by have : w1.heap.size ≤ gd := by simpa using hgd
                                                       omega)
  have HX3 := Lib.hid (HX2.out.later hb3)
  have HZ3 := Lib.hid (HZ2.out.later hb3)
  have HI3 := Lib.hid (HI2.out.later hb3)
  have HB3 := Lib.hid (below_later hb3 HBE.out)
  have HK3 : Hid (Keep w.heap.size w2 (w2.setCell ⟨w.heap.size, 2, none⟩ (.slice (some ⟨gd, 0, none⟩) x.defs.length (x.defs.length + 64 : Nat)))) := Lib.hid ((Keep.refl _ w2).setCell 2 _)
  have HKF : Hid (Keep (w.heap.size + 1) (w2.setCell ⟨w.heap.size, 2, none⟩ (.slice (some ⟨gd, 0, none⟩) x.defs.length (x.defs.length + 64 : Nat))) (put5 (w2.setCell ⟨w.heap.size, 2, none⟩ (.slice (some ⟨gd, 0, none⟩) x.defs.length (x.defs.length + 64 : Nat))) (w.heap.size + 1) 0 (.string x.name) (.slice (some ⟨gi, 0, none⟩) x.imps.length (x.imps.length + 64 : Nat)) (.slice (some ⟨gd, 0, none⟩) x.defs.length (x.defs.length + 64 : Nat)) (.int .i64 x.line) (.int .i64 x.col))) := Lib.hid put5_keep
  have HW : Hid (Blk (w.heap.size + 1) #[.string x.name, .slice (some ⟨gi, 0, none⟩) x.imps.length (x.imps.length + 64 : Nat), .slice (some ⟨gd, 0, none⟩) x.defs.length (x.defs.length + 64 : Nat), .int .i64 x.line, .int .i64 x.col] 55 (put5 (w2.setCell ⟨w.heap.size, 2, none⟩ (.slice (some ⟨gd, 0, none⟩) x.defs.length (x.defs.length + 64 : Nat))) (w.heap.size + 1) 0 (.string x.name) (.slice (some ⟨gi, 0, none⟩) x.imps.length (x.imps.length + 64 : Nat)) (.slice (some ⟨gd, 0, none⟩) x.defs.length (x.defs.length + 64 : Nat)) (.int .i64 x.line) (.int .i64 x.col))) := Lib.hid (blk_put5 (blk_keep HZ3.out HK3.out (by omega)))
  have HI4 := Lib.hid ((HI3.out.keep HK3.out (by have := HGI.out; omega)).keep HKF.out (by have := HGI.out; omega))
  have HD4 := Lib.hid ((hD3.keep HK3.out (by have := HGD.out; omega)).keep HKF.out (by have := HGD.out; omega))
  have HB4 : Hid (Below w.heap.size w (put5 (w2.setCell ⟨w.heap.size, 2, none⟩ (.slice (some ⟨gd, 0, none⟩) x.defs.length (x.defs.length + 64 : Nat))) (w.heap.size + 1) 0 (.string x.name) (.slice (some ⟨gi, 0, none⟩) x.imps.length (x.imps.length + 64 : Nat)) (.slice (some ⟨gd, 0, none⟩) x.defs.length (x.defs.length + 64 : Nat)) (.int .i64 x.line) (.int .i64 x.col))) := Lib.hid (below_keep (below_keep HB3.out HK3.out (Nat.le_refl _) (by omega)) HKF.out (Nat.le_succ _) (Nat.lt_of_lt_of_le (show w.heap.size + 1 < w2.heap.size by omega) HK3.out.size))
  have x0 : w2.cell? ⟨w.heap.size, 0, none⟩ = some (.string x.name) := HX3.out.cell (i := 0) rfl
  have x1 : w2.cell? ⟨w.heap.size, 1, none⟩ = some (.slice (some ⟨gi, 0, none⟩) x.imps.length (x.imps.length + 64 : Nat)) := HX3.out.cell (i := 1) rfl
  have x2 : w2.cell? ⟨w.heap.size, 2, none⟩ = some (.slice D x.defs.length cd) := HX3.out.cell (i := 2) rfl
  have x3 : w2.cell? ⟨w.heap.size, 3, none⟩ = some (.int .i64 x.line) := HX3.out.cell (i := 3) rfl
  have x4 : w2.cell? ⟨w.heap.size, 4, none⟩ = some (.int .i64 x.col) := HX3.out.cell (i := 4) rfl
  have f2 := HX3.out.free 2
  have z0 := HZ3.out.cell (i := 0) rfl
  have z1 := HZ3.out.cell (i := 1) rfl
  have z2 := HZ3.out.cell (i := 2) rfl
  have z3 := HZ3.out.cell (i := 3) rfl
  have z4 := HZ3.out.cell (i := 4) rfl
  have g0 := HZ3.out.free 0
  have g1 := HZ3.out.free 1
  have g2 := HZ3.out.free 2
  have g3 := HZ3.out.free 3
  have g4 := HZ3.out.free 4
  clear hgd hD3 hb3
  go_wp2_with fail
  refine bodyPost_ret (results_cell_row rfl _ _ (w.heap.size + 1) 55 #[.string x.name, .slice (some ⟨gi, 0, none⟩) x.imps.length (x.imps.length + 64 : Nat), .slice (some ⟨gd, 0, none⟩) x.defs.length (x.defs.length + 64 : Nat), .int .i64 x.line, .int .i64 x.col] (0, 0) _ rfl HW.out Tryz.underlying55 rfl md_size) rfl ⟨gi, gd, by have := HGI.out; omega, by have := HGD.out; omega, rfl, HI4.out, HD4.out, HB4.out⟩
set_option maxRecDepth 100000 in
set_option maxHeartbeats 6400000 in
theorem WideModules_any (L : List Md) (v : Value) (w : World) (hL : Mods w v L) (hl : L.length ≤ 100000000000) (hz : ∀ m ∈ L, m.imps.length ≤ 100000000000 ∧ m.defs.length ≤ 100000000000 ∧ ∀ d ∈ m.defs, d.tree.length ≤ 100000000000) (hP : Pw w) : Calls Tryz.prog 8 #[v] w (WideL MdsW L w) := by
  have HL := Lib.hid hL
  have HP := Lib.hid hP
  have HZ := Lib.hid hz
  obtain ⟨A, c, rfl⟩ := hL.form
  obtain ⟨i0, hi, hz0, hz1, hz2⟩ := info_parts md_info
  clear hL hP hz
  go_enter Tryz.func8, Tryz.ntmps8
  go_wp2_with (refine wpList_make_full _ rfl (.tmp 7) (.tmp 7) 22 rfl w.heap.size 55 i0 _ 5 Tryz.underlying22 hi hz0 hz1 .i64 .i64 ((L.length : Int) + 64) ((L.length : Int) + 64) (L.length + 64) rfl rfl (by omega) (by omega) (by rw [hz2]; omega) (by unfold maxLen; omega) (Nat.le_refl _) ?_)
  intro w1 hown hgr
  have HR := Lib.hid (row_made hown rfl)
  have HB : Hid (Below w.heap.size w w1) := Lib.hid ((Below.refl _ _).grown hgr (Nat.le_refl _) fun k hk => by cases hk)
  clear hown hgr
  go_wp2_with fail
  go_loopw [4] (fun i wr => ∃ k : Nat, k ≤ L.length + 64 ∧ i = .int .i64 k ∧ Hid (RowG 55 w.heap.size ((L.length + 64) * 5) wr) ∧ Hid (Fill 5 (MdW w.heap.size) wr w.heap.size L mcM k) ∧ Hid (Below w.heap.size w wr)) (fun i _ => L.length + 64 - (intOf i).toNat)
  case atStart => exact ⟨0, Nat.zero_le _, rfl, HR, Lib.hid Fill.start, HB⟩
  case round =>
    obtain ⟨k, hk, rfl, HRr, HFr, HBr⟩ := hrel
    by_cases hlt : k < L.length + 64
    · have hrw : w.heap.size < wr.heap.size := HRr.out.lt
      by_cases hkL : k < L.length
      · obtain ⟨b, off, iv, dv, rfl, ⟨n0, n1, n2, n3, n4⟩, hi, hd⟩ := (HL.out.later HBr.out).at_ hkL
        obtain ⟨Ai, ci, rfl⟩ := hi.form
        obtain ⟨Ad, cd, rfl⟩ := hd.form
        have hx : L[k]? = some L[k] := List.getElem?_eq_getElem hkL
        have HX := Lib.hid hx
        have hZ := HZ.out _ (List.mem_of_getElem? hx)
        generalize L[k] = x at *
        have HWD := Lib.hid (WideModule_any x Ai Ad ci cd wr hi hd hZ.1 hZ.2.1 hZ.2.2 (HP.out.later HBr.out HP.out.lt))
        clear hx hi hd hZ
        go_wp2_with fail
        refine HWD.out.mono ?_
        rintro e w2 ⟨gi, gd, hgi, hgd, rfl, hI2, hD2, hb2⟩
        have HR2 := Lib.hid (HRr.out.later hb2)
        have HF2 := Lib.hid (Fill.keep HFr.out (later_cells hb2) (fun _ _ h => h.later hb2))
        have HB2 := Lib.hid (below_later hb2 HBr.out)
        obtain ⟨v0, r0⟩ := HR2.out.cell (i := k * 5) (by omega)
        have f0 := HR2.out.free (k * 5)
        obtain ⟨v1, r1⟩ := HR2.out.cell (i := k * 5 + 1) (by omega)
        have f1 := HR2.out.free (k * 5 + 1)
        obtain ⟨v2, r2⟩ := HR2.out.cell (i := k * 5 + 2) (by omega)
        have f2 := HR2.out.free (k * 5 + 2)
        obtain ⟨v3, r3⟩ := HR2.out.cell (i := k * 5 + 3) (by omega)
        have f3 := HR2.out.free (k * 5 + 3)
        obtain ⟨v4, r4⟩ := HR2.out.cell (i := k * 5 + 4) (by omega)
        have f4 := HR2.out.free (k * 5 + 4)
        have HR3 : Hid (RowG 55 w.heap.size ((L.length + 64) * 5) (put5 w2 w.heap.size (k * 5) (.string x.name) (.slice (some ⟨gi, 0, none⟩) x.imps.length (x.imps.length + 64 : Nat)) (.slice (some ⟨gd, 0, none⟩) x.defs.length (x.defs.length + 64 : Nat)) (.int .i64 x.line) (.int .i64 x.col))) := Lib.hid HR2.out.put5
        have HF3 : Hid (Fill 5 (MdW w.heap.size) (put5 w2 w.heap.size (k * 5) (.string x.name) (.slice (some ⟨gi, 0, none⟩) x.imps.length (x.imps.length + 64 : Nat)) (.slice (some ⟨gd, 0, none⟩) x.defs.length (x.defs.length + 64 : Nat)) (.int .i64 x.line) (.int .i64 x.col)) w.heap.size L mcM (k + 1)) := Lib.hid (HF2.out.put (cs := x.cells (.slice (some ⟨gi, 0, none⟩) x.imps.length (x.imps.length + 64 : Nat)) (.slice (some ⟨gd, 0, none⟩) x.defs.length (x.defs.length + 64 : Nat))) HX.out (fun j v hj hv => put5_old hv hj) (fun _ _ h => h.keep put5_keep (Nat.le_refl _)) ⟨gi, gd, by omega, by omega, rfl, hI2.keep put5_keep (by omega), hD2.keep put5_keep (by omega)⟩ rfl (put5_new HR2.out (by omega)))
        have HB3 : Hid (Below w.heap.size w (put5 w2 w.heap.size (k * 5) (.string x.name) (.slice (some ⟨gi, 0, none⟩) x.imps.length (x.imps.length + 64 : Nat)) (.slice (some ⟨gd, 0, none⟩) x.defs.length (x.defs.length + 64 : Nat)) (.int .i64 x.line) (.int .i64 x.col))) := Lib.hid (below_keep HB2.out put5_keep (Nat.le_refl _) HR2.out.lt)
        clear hb2 hI2 hD2 HWD HRr HFr HBr HF2 HB2 n0 n1 n2 n3 n4
        go_wp2_with fail
        go_roundw
        case rel => exact ⟨k + 1, by omega, by go_num, HR3, HF3, HB3⟩
        case measure => simp [intOf]; omega
      · have HTX := Lib.hid (text_any 9 k (by decide) (by omega) wr (HP.out.later HBr.out HP.out.lt))
        unfold mkT at HTX
        go_wp2_with fail
        refine HTX.out.mono ?_
        rintro e w2 ⟨rfl, hb2⟩
        have HR2 := Lib.hid (HRr.out.later hb2)
        have HF2 := Lib.hid (Fill.keep HFr.out (later_cells hb2) (fun _ _ h => h.later hb2))
        have HB2 := Lib.hid (below_later hb2 HBr.out)
        obtain ⟨v0, r0⟩ := HR2.out.cell (i := k * 5) (by omega)
        have f0 := HR2.out.free (k * 5)
        obtain ⟨v1, r1⟩ := HR2.out.cell (i := k * 5 + 1) (by omega)
        have f1 := HR2.out.free (k * 5 + 1)
        obtain ⟨v2, r2⟩ := HR2.out.cell (i := k * 5 + 2) (by omega)
        have f2 := HR2.out.free (k * 5 + 2)
        obtain ⟨v3, r3⟩ := HR2.out.cell (i := k * 5 + 3) (by omega)
        have f3 := HR2.out.free (k * 5 + 3)
        obtain ⟨v4, r4⟩ := HR2.out.cell (i := k * 5 + 4) (by omega)
        have f4 := HR2.out.free (k * 5 + 4)
        have HR3 : Hid (RowG 55 w.heap.size ((L.length + 64) * 5) (put5 w2 w.heap.size (k * 5) (.string (txt 9 k)) (.slice none 0 0) (.slice none 0 0) (.int .i64 0) (.int .i64 0))) := Lib.hid HR2.out.put5
        have HF3 : Hid (Fill 5 (MdW w.heap.size) (put5 w2 w.heap.size (k * 5) (.string (txt 9 k)) (.slice none 0 0) (.slice none 0 0) (.int .i64 0) (.int .i64 0)) w.heap.size L mcM (k + 1)) := Lib.hid (HF2.out.putMark (by omega) (fun _ => rfl) (fun j v hj hv => put5_old hv hj) (fun _ _ h => h.keep put5_keep (Nat.le_refl _)) (put5_new HR2.out (by omega)))
        have HB3 : Hid (Below w.heap.size w (put5 w2 w.heap.size (k * 5) (.string (txt 9 k)) (.slice none 0 0) (.slice none 0 0) (.int .i64 0) (.int .i64 0))) := Lib.hid (below_keep HB2.out put5_keep (Nat.le_refl _) HR2.out.lt)
        clear hb2 HTX HRr HFr HBr HF2 HB2
        go_wp2_with fail
        go_roundw
        case rel => exact ⟨k + 1, by omega, by go_num, HR3, HF3, HB3⟩
        case measure => simp [intOf]; omega
    · obtain rfl : k = L.length + 64 := by omega
      go_wp2_with fail
      go_ret
      exact ⟨_, Nat.le_refl _, rfl, HFr.out, HBr.out⟩
end Go.Proofs.YtacihffkjadbbaaGreatDoor

/- The walk of the statement TextLies. -/
import Derived.Test.YtenbecjnlgmkeaaDoorTyQ
import Derived.Test.YtenbecjnlgmkeaaDoorTyO
import Derived.Test.YtenbecjnlgmkeaaDoorTyG
import Derived.Lib.AppendStr
namespace Culp
set_option linter.unusedSimpArgs false
set_option linter.unusedVariables false
open Go Go.RowKit
/-- What lies in another kind of row stays when a row grows. -/
theorem own_grown_ty {w w' : World} {base base2 : Nat} {e e2 : TypeId} {size size2 n m : Nat} {v u : Value} {xs ys : List Value} (h : w.ownsRow base e size v n xs) (hu : w.ownsRow base2 e2 size2 u m ys) (he : e ≠ e2) (hg : w.grownBy w' u.ownBlock) : w'.ownsRow base e size v n xs := by
  refine ⟨h.1, ?_⟩
  rcases h.2 with h2 | ⟨g, cap, cur, rfl, hb', hh, h3⟩
  · exact .inl h2
  · have hlt := (h.lt g rfl).2
    refine .inr ⟨g, cap, cur, rfl, hb', ?_, h3⟩
    rw [hg.block g hlt]; exact hh
    intro e0
    refine own_ne hu (r := g) (fun cur' hc => ?_) e0.symm
    rw [hh] at hc
    simp at hc
    exact he hc.2
end Culp
namespace Go.Proofs.YtenbecjnlgmkeaaDoor
open Go.RowKit Go.Maps Culp

theorem Pl2.norow8 {g : Nat} {a b : Int} {w : World} (h : Pl2 g a b w) : ∀ cur, w.heap[g]? ≠ some (.cells cur 5 (0, 0)) := fun cur e => by
  unfold Pl2 at h; rw [h] at e; simp at e
theorem Pl2.norowT {g : Nat} {a b : Int} {w : World} (h : Pl2 g a b w) : ∀ cur, w.heap[g]? ≠ some (.cells cur 40 (0, 0)) := fun cur e => by
  unfold Pl2 at h; rw [h] at e; simp at e
/-- The law's memory. -/
structure LW (w : World) (gp B5 n : Nat) (lv : Value) (L : List (Tx.Tk × (Nat × Nat))) (p : Nat × Nat) (W : List UInt8) (u : Value) (x : World) : Prop where
  bel : Below w.heap.size w x
  pl : Pl2 gp p.1 p.2 x
  ol : x.ownsRow B5 40 5 lv n (tflat L)
  ow : x.ownsRow w.heap.size 5 1 u W.length (W.map byteV)
section
variable {w x x' : World} {gp B5 n : Nat} {lv : Value} {L : List (Tx.Tk × (Nat × Nat))} {p : Nat × Nat} {W : List UInt8} {u : Value}
theorem LW.later (h : LW w gp B5 n lv L p W u x) (hb : Below x.heap.size x x') : LW w gp B5 n lv L p W u x' :=
  ⟨below_later hb h.bel, h.pl.later hb, own_later h.ol hb, own_later h.ow hb⟩
theorem LW.setP (h : LW w gp B5 n lv L p W u x) (hg : w.heap.size ≤ gp) (q : Nat × Nat) : LW w gp B5 n lv L q W u (set2 gp q.1 q.2 x) :=
  ⟨set2_below h.bel hg, set2_pl h.pl, own_keep h.ol (((Keep.refl _ _).setCell 0 _).setCell 1 _) h.pl.norowT, own_keep h.ow (((Keep.refl _ _).setCell 0 _).setCell 1 _) h.pl.norow8⟩
theorem LW.grow (h : LW w gp B5 n lv L p W u x) {W' : List UInt8} {u' : Value} (hown : x'.ownsRow w.heap.size 5 1 u' W'.length (W'.map byteV)) (hg : x.grownBy x' u.ownBlock) (hb : Below w.heap.size x x') : LW w gp B5 n lv L p W' u' x' :=
  ⟨below_more h.bel hb (Nat.le_refl _), h.pl.row hg (own_ne h.ow h.pl.norow8), own_grown_ty h.ol h.ow (by decide) hg, hown⟩
end
theorem bytesv_at {w : World} {A : Option Addr} {n c : Nat} {s : ByteArray} (h : BytesV w (.slice A n c) s) (h0 : 0 < s.size) : ∃ b o, A = some ⟨b, o, none⟩ ∧ Lib.Bytes w b o s := by
  obtain ⟨A', c', hv, _, hA⟩ := h
  cases hv
  exact hA h0
theorem bs_space (S : List UInt8) : bs S ++ { data := #[32] } = bs (S ++ [32]) := bs_app S [32]
theorem window_cells {w : World} {b o : Nat} {s : ByteArray} (h : Lib.Bytes w b o s) (x y : Nat) (hy : y ≤ s.size) : ∀ i u, (((s.data.toList.drop x).take (y - x)).map byteV)[i]? = some u → w.cell? ⟨b, o + x + i, none⟩ = some u := by
  intro i u hu
  rw [List.getElem?_map, List.getElem?_take] at hu
  split at hu
  · rename_i hi
    have hlt : x + i < s.size := by omega
    rw [List.getElem?_drop, get_byte s (x + i) hlt] at hu
    simp at hu
    rw [Nat.add_assoc, h (x + i) hlt, ← hu]; rfl
  · cases hu
theorem strCells_bs (l : List UInt8) : Lib.strCells (bs l) = l.map byteV := rfl
theorem ahead_some {bl : ByteArray} {k : Nat} (hk : k < bl.size) : Tx.aheadOf bl.data.toList k = List.replicate (bl[k].toNat % 4 + 1) (Tx.blankC bl[k].toNat) ++ (if 200 ≤ bl[k].toNat then Tx.remark else []) := by
  unfold Tx.aheadOf; rw [get_byte bl k hk]
theorem ahead_none {bl : ByteArray} {k : Nat} (hk : ¬ k < bl.size) : Tx.aheadOf bl.data.toList k = [32] := by
  unfold Tx.aheadOf; rw [List.getElem?_eq_none (by rw [size_list]; omega)]
set_option maxRecDepth 100000 in
set_option maxHeartbeats 16000000 in
theorem TextLies_any (s bl : ByteArray) (sv bv : Value) (w : World) (hb : BytesV w sv s) (hbl : BytesV w bv bl) (hS : Sp w) : Calls Tryd.prog 4 #[sv, bv] w (Makes (.bool true) w) := by
  have HS := Lib.hid hS
  have HBS := Lib.hid hb
  have HBB := Lib.hid hbl
  obtain ⟨A, c, rfl, hc, _⟩ := hb
  obtain ⟨A1, c1, rfl, _, _⟩ := hbl
  clear hS
  go_enter Tryd.func4, Tryd.ntmps4
  go_wp2_with fail
  refine (works_any _ HS.out).mono ?_
  rintro e w1 ⟨rfl, hb1⟩
  have HB1 := Lib.hid hb1
  clear hb1
  by_cases hbig : (4096 : Int) < (s.size : Int)
  · go_wp2_with fail
    go_ret
    exact Makes.mk rfl HB1.out
  by_cases hbig2 : (16384 : Int) < (bl.size : Int)
  · go_wp2_with fail
    go_ret
    exact Makes.mk rfl HB1.out
  have hs : s.size ≤ 4096 := by omega
  have HSZ := Lib.hid hs
  have hbs : bl.size ≤ 16384 := by omega
  have HBZ := Lib.hid hbs
  clear hs hbs
  go_wp2_with fail
  refine (tTokens_any s _ _ (HBS.out.later HB1.out) (Nat.le_trans HSZ.out (by decide)) (HS.out.later HB1.out)).mono ?_
  rintro e w2 ⟨hb2, hres⟩
  have HB2 := Lib.hid (below_later hb2 HB1.out)
  have HB21 := Lib.hid hb2.size
  clear hb2 hbig hbig2
  cases ht : Tx.toks s.data.toList with
  | error x =>
    obtain ⟨x, p⟩ := x
    rw [ht] at hres
    obtain rfl := hres
    have hx := Tx.toks_err ht
    have ex := neq_lit (n := x) (z := 0) (by omega)
    have HB3 := Lib.hid (below_later ((Below.refl w2.heap.size w2).alloc (Nat.le_refl _) (.cells #[.int .i64 p.1, .int .i64 p.2] 29)) HB2.out)
    clear ht hx
    go_wp2_with fail
    go_ret
    exact Makes.mk rfl HB3.out
  | ok L =>
    rw [ht] at hres
    obtain ⟨v, rfl, hown⟩ := hres
    obtain ⟨lA, lc, rfl⟩ := own_shape hown
    have hLL : L.length ≤ 4096 := by have := Tx.toks_len' ht; rw [size_list] at this; exact Nat.le_trans this HSZ.out
    have hb3 : Below w2.heap.size w2 (w2.alloc (.cells #[.int .i64 0, .int .i64 0] 29)) := (Below.refl _ _).alloc (Nat.le_refl _) _
    have hb4 : Below w2.heap.size w2 ((w2.alloc (.cells #[.int .i64 0, .int .i64 0] 29)).alloc (.cells #[.int .i64 1, .int .i64 1] 29)) := hb3.alloc (by simp) _
    have hpl : Pl2 (w2.heap.size + 1) 1 1 ((w2.alloc (.cells #[.int .i64 0, .int .i64 0] 29)).alloc (.cells #[.int .i64 1, .int .i64 1] 29)) := by
      have := pl2_alloc (w2.alloc (.cells #[.int .i64 0, .int .i64 0] 29)) 1 1
      simpa using this
    have hlw : LW w (w2.heap.size + 1) w1.heap.size L.length (.slice lA L.length lc) L (1, 1) [] (.slice none 0 0) ((w2.alloc (.cells #[.int .i64 0, .int .i64 0] 29)).alloc (.cells #[.int .i64 1, .int .i64 1] 29)) :=
      ⟨below_later hb4 HB2.out, hpl, own_later hown hb4, World.ownsRow_nil _ _ _ _⟩
    obtain ⟨gl, _, _, hgl, _⟩ := own_part hlw.ol (by have := HB21.out; simp; omega)
    have HLW0 := Lib.hid hlw
    have HGL := Lib.hid hgl
    have HLI0 := Lib.hid (Tx.Lie.start (Tx.toks_small ht).2)
    have hgp : w.heap.size ≤ w2.heap.size + 1 := by have := HB2.out.size; omega
    have HGP := Lib.hid hgp
    clear hgl hgp hlw hpl hb3 hb4 hown ht
    generalize w1.heap.size = B5 at *
    go_wp2_with fail
    generalize (w2.alloc (.cells #[.int .i64 0, .int .i64 0] 29)).alloc (.cells #[.int .i64 1, .int .i64 1] 29) = w4 at *
    generalize w2.heap.size + 1 = gp at *
    go_loopw [9, 11, 12, 13] (fun av v sv i wr => ∃ (k a : Nat) (p : Nat × Nat) (S W : List UInt8) (u : Value), av = .int .i64 a ∧ v = u ∧ sv = .string (bs S) ∧ i = .int .i64 k ∧ k ≤ L.length ∧ a ≤ s.size ∧ Hid (Tx.Lie s.data.toList L k a p S W) ∧ Hid (LW w gp B5 L.length (.slice lA L.length lc) L p W u wr)) (fun _ _ _ i _ => L.length - (intOf i).toNat)
    case atStart => exact ⟨0, 0, (1, 1), [], [], _, rfl, rfl, rfl, rfl, Nat.zero_le _, Nat.zero_le _, HLI0, HLW0⟩
    case round =>
      clear HLI0 HLW0
      obtain ⟨k, a, p, S, W, u, rfl, rfl, rfl, rfl, hk, ha, HLI, HLW⟩ := hrel
      by_cases hlt : k < L.length
      · obtain ⟨nx, t, to_, q, q2, hst⟩ := HLI.out.stp hlt
        have h1 := hst.le1
        have h2 := hst.lt
        have h3 : to_ ≤ s.size := by rw [← size_list]; exact hst.le2
        have hn2 : nx < s.size := Nat.lt_of_lt_of_le h2 h3
        have hn1 : nx ≤ s.size := Nat.le_of_lt hn2
        have hs6 : s.size ≤ 1000000 := Nat.le_trans HSZ.out (by decide)
        have hpp : p.1 ≤ 1000000 ∧ p.2 ≤ 1000000 := by have := HLI.out.pl; omega
        have hqq : q.1 ≤ 1000000 ∧ q.2 ≤ 1000000 := by have := hst.ql; omega
        have hSl : (bs S).size ≤ 8192 := by have := HLI.out.sl; have := HSZ.out; rw [bs_size]; omega
        have hWl : W.length ≤ 49152 := by have := HLI.out.wl; have := HSZ.out; omega
        have HST := Lib.hid hst
        have HPP := Lib.hid hpp
        have HQQ := Lib.hid hqq
        obtain ⟨c2, hsl⟩ := HGL.out (by omega)
        simp only [Value.slice.injEq, true_and] at hsl
        obtain ⟨rfl, rfl⟩ := hsl
        obtain ⟨b1, o1, rfl, hB1⟩ := bytesv_at HBS.out (Nat.lt_of_le_of_lt (Nat.zero_le _) hn2)
        have HB1 := Lib.hid hB1
        have HTK : Hid (((s.data.toList.drop nx).take (to_ - nx)).length = to_ - nx) := Lib.hid (by rw [List.length_take, List.length_drop, size_list]; omega)
        have HAO := Lib.hid (Tx.ahead_ok bl.data.toList k)
        have HBD : Hid ((W ++ Tx.aheadOf bl.data.toList k).length + (to_ - nx) ≤ 1000000000000000 ∧ ((W ++ Tx.aheadOf bl.data.toList k).length + (to_ - nx)) * 1 ≤ 140737488355328) := Lib.hid (by
          have := HAO.out.2.2
          rw [List.length_append]; omega)
        have hsd : (bs (Tx.said t)).size ≤ 4096 := by rw [bs_size, Tx.said_raw hst.one, HTK.out]; have := HSZ.out; omega
        have HLM := Lib.hid (Tx.one_lim hst.one)
        clear hst hpp hqq hB1
        go_wp2_with fail
        refine (rBehind_any s _ a _ (HBS.out.later HLW.out.bel) ha hs6).mono ?_
        rintro e w' ⟨rfl, rfl⟩
        rw [HST.out.beh]
        have p0 := HLW.out.pl.c0
        have p1 := HLW.out.pl.c1
        have f0 := HLW.out.pl.free 0
        have f1 := HLW.out.pl.free 1
        go_wp2_with fail
        refine (rFurther_any s _ p a nx _ (HBS.out.later HLW.out.bel) h1 hn1 hs6 HPP.out).mono ?_
        rintro e w5 ⟨rfl, hb5⟩
        rw [HST.out.e1]
        have HLW5 := Lib.hid (HLW.out.later hb5)
        clear p0 p1 f0 f1 hb5 HLW
        have p0 := HLW5.out.pl.c0
        have p1 := HLW5.out.pl.c1
        have f0 := HLW5.out.pl.free 0
        have f1 := HLW5.out.pl.free 1
        go_wp2_with fail
        have HLW6 : Hid (LW w gp B5 L.length _ L q W _ ((w5.setCell ⟨gp, 0, none⟩ (.int .i64 q.1)).setCell ⟨gp, 1, none⟩ (.int .i64 q.2))) := Lib.hid (HLW5.out.setP HGP.out q)
        clear p0 p1 f0 f1 HLW5
        generalize (w5.setCell ⟨gp, 0, none⟩ (.int .i64 q.1)).setCell ⟨gp, 1, none⟩ (.int .i64 q.2) = w6 at *
        have a3 : w6.cell? ⟨gl, k * 5 + 3, none⟩ = some (.int .i64 q.1) := structs_at (own_structs tcells_len HLW6.out.ol) HST.out.tok (j := 3) rfl
        have a4 : w6.cell? ⟨gl, k * 5 + 4, none⟩ = some (.int .i64 q.2) := structs_at (own_structs tcells_len HLW6.out.ol) HST.out.tok (j := 4) rfl
        have p0 := HLW6.out.pl.c0
        have p1 := HLW6.out.pl.c1
        have e0 := int_ne (Nat.ne_of_lt hn2)
        refine wp_region_plan (S := fun w' => (w'.cell? ⟨gp, 0, none⟩ = some (.int .i64 q.1) ∧ w'.cell? ⟨gp, 1, none⟩ = some (.int .i64 q.2)) ∧ (w'.cell? ⟨gl, k * 5 + 3, none⟩ = some (.int .i64 q.1) ∧ w'.cell? ⟨gl, k * 5 + 4, none⟩ = some (.int .i64 q.2)))
          [(0, true), (1, true), (2, true), (3, true), (4, true), (5, true), (6, true), (7, true), (8, true), (9, true), (10, true), (11, true), (12, true)] (by kernel_rfl) (by kernel_rfl) (by kernel_rfl) (fun _ _ _ _ _ h => h) ⟨⟨p0, p1⟩, ⟨a3, a4⟩⟩ ?_
        clear a3 a4 p0 p1
        intro HP
        repeat (first | (apply wpPlan_look; rfl; rfl; (intro wq hq; (try dsimp only at hq); go_split_ands; go_simp; (try rw [if_neg (by omega)]); (try rw [if_pos (by omega)]); try with_reducible rfl); simp only [Act.put, List.setIfInBounds_toArray, List.set_cons_zero, List.set_cons_succ]) | (apply wpPlan_skip; rfl; rfl; simp only [Act.put, List.setIfInBounds_toArray, List.set_cons_zero, List.set_cons_succ]) | (apply wpPlan_pass; rfl; rfl; assumption; simp only [Act.put, List.setIfInBounds_toArray, List.set_cons_zero, List.set_cons_succ]))
        apply wpPlan_done
        clear e0 HP
        have HLW7 := Lib.hid (HLW6.out.later (Below.refl _ _).drew)
        clear HLW6
        generalize w6.drew = w7 at *
        go_wp2_with fail
        refine (rOne_any s _ nx _ (HBS.out.later HLW7.out.bel) hn2 (Nat.le_trans HSZ.out (by decide))).mono ?_
        rintro e w8 ⟨hb8, hres⟩
        rw [HST.out.one] at hres
        simp only [Nat.add_sub_cancel' (Nat.le_of_lt h2)] at hres
        obtain rfl := hres
        have HLW8 := Lib.hid (HLW7.out.later hb8)
        clear hb8 HLW7
        go_wp2_with fail
        have hba : Below w8.heap.size w8 (w8.alloc (.cells #[.int .i8 t.kind, .int .i64 t.n, .string (bs t.s), .int .i64 0, .int .i64 0, .int .i64 nx, .int .i64 to_] 44)) := (Below.refl _ _).alloc (Nat.le_refl _) _
        have HLW9 := Lib.hid (HLW8.out.later hba)
        have HT9 := Lib.hid (tok7_alloc w8 t.kind t.n (bs t.s) 0 0 nx to_)
        have HNE : Hid (w8.heap.size ≠ gp) := Lib.hid (by have := HLW8.out.pl.lt; omega)
        clear hba HLW8
        generalize w8.alloc (.cells #[.int .i8 t.kind, .int .i64 t.n, .string (bs t.s), .int .i64 0, .int .i64 0, .int .i64 nx, .int .i64 to_] 44) = w9 at *
        generalize w8.heap.size = gt at *
        have hgt : ¬ gt = gp := fun h => HNE.out h
        have hgt2 : ¬ gp = gt := fun h => HNE.out h.symm
        have t0 := HT9.out.cell 0
        have t1 := HT9.out.cell 1
        have t2 := HT9.out.cell 2
        simp only [List.getElem?_cons_zero, List.getElem?_cons_succ] at t0 t1 t2
        have b0 : w9.cell? ⟨gl, k * 5, none⟩ = some (.int .i8 t.kind) := structs_at (own_structs tcells_len HLW9.out.ol) HST.out.tok (j := 0) rfl
        have b1' : w9.cell? ⟨gl, k * 5 + 1, none⟩ = some (.int .i64 t.n) := structs_at (own_structs tcells_len HLW9.out.ol) HST.out.tok (j := 1) rfl
        have b2' : w9.cell? ⟨gl, k * 5 + 2, none⟩ = some (.string (bs t.s)) := structs_at (own_structs tcells_len HLW9.out.ol) HST.out.tok (j := 2) rfl
        refine wp_region_plan (S := fun w' => (w'.cell? ⟨gt, 0, none⟩ = some (.int .i8 t.kind) ∧ w'.cell? ⟨gt, 1, none⟩ = some (.int .i64 t.n) ∧ w'.cell? ⟨gt, 2, none⟩ = some (.string (bs t.s))) ∧ (w'.cell? ⟨gl, k * 5, none⟩ = some (.int .i8 t.kind) ∧ w'.cell? ⟨gl, k * 5 + 1, none⟩ = some (.int .i64 t.n) ∧ w'.cell? ⟨gl, k * 5 + 2, none⟩ = some (.string (bs t.s))))
          [(0, true), (1, true), (2, true), (3, true), (4, true), (5, true), (6, true), (7, true), (8, true), (9, true), (10, true), (11, true), (12, true), (13, true), (14, true), (15, true), (16, true), (17, true), (18, true), (19, true), (20, true), (21, true), (22, true), (23, true), (24, true), (25, true), (26, true), (27, true), (28, true), (29, true), (30, true), (31, true)] (by kernel_rfl) (by kernel_rfl) (by kernel_rfl) (fun _ _ _ _ _ h => h) ⟨⟨t0, t1, t2⟩, ⟨b0, b1', b2'⟩⟩ ?_
        clear t0 t1 t2 b0 b1' b2'
        intro HP
        repeat (first | (apply wpPlan_look; rfl; rfl; (intro wq hq; (try dsimp only at hq); go_split_ands; go_simp; (try rw [if_neg (by omega)]); (try rw [if_pos (by omega)]); try with_reducible rfl); simp only [Act.put, List.setIfInBounds_toArray, List.set_cons_zero, List.set_cons_succ]) | (apply wpPlan_skip; rfl; rfl; simp only [Act.put, List.setIfInBounds_toArray, List.set_cons_zero, List.set_cons_succ]) | (apply wpPlan_pass; rfl; rfl; assumption; simp only [Act.put, List.setIfInBounds_toArray, List.set_cons_zero, List.set_cons_succ]))
        apply wpPlan_done
        clear HP
        have HLW10 := Lib.hid (HLW9.out.later (Below.refl _ _).drew)
        have HT10 := Lib.hid (HT9.out.later (Below.refl _ _).drew)
        clear HLW9 HT9
        generalize w9.drew = w10 at *
        have t6 := HT10.out.cell 6
        simp only [List.getElem?_cons_zero, List.getElem?_cons_succ] at t6
        have p0 := HLW10.out.pl.c0
        have p1 := HLW10.out.pl.c1
        have f0 := HLW10.out.pl.free 0
        have f1 := HLW10.out.pl.free 1
        go_wp2_with fail
        refine (rFurther_any s _ q nx to_ _ (HBS.out.later HLW10.out.bel) (Nat.le_of_lt h2) h3 hs6 HQQ.out).mono ?_
        rintro e w11 ⟨rfl, hb11⟩
        rw [HST.out.e2]
        have HLW11 := Lib.hid (HLW10.out.later hb11)
        have HT11 := Lib.hid (HT10.out.later hb11)
        clear p0 p1 f0 f1 t6 hb11 HLW10 HT10
        have p0 := HLW11.out.pl.c0
        have p1 := HLW11.out.pl.c1
        have f0 := HLW11.out.pl.free 0
        have f1 := HLW11.out.pl.free 1
        have t0 := HT11.out.cell 0
        have t1 := HT11.out.cell 1
        have t2 := HT11.out.cell 2
        have t3 := HT11.out.cell 3
        have t4 := HT11.out.cell 4
        have t5 := HT11.out.cell 5
        have t6 := HT11.out.cell 6
        simp only [List.getElem?_cons_zero, List.getElem?_cons_succ] at t0 t1 t2 t3 t4 t5 t6
        go_wp2_with fail
        have HLW12 : Hid (LW w gp B5 L.length _ L q2 W _ ((w11.setCell ⟨gp, 0, none⟩ (.int .i64 q2.1)).setCell ⟨gp, 1, none⟩ (.int .i64 q2.2))) := Lib.hid (HLW11.out.setP HGP.out q2)
        clear p0 p1 f0 f1 t0 t1 t2 t3 t4 t5 t6 HLW11 HT11 hgt hgt2
        refine (Said_any t 0 0 nx to_ _ HLM.out.1 HLM.out.2.1 HLM.out.2.2).mono ?_
        rintro e w13 ⟨rfl, hb13⟩
        have HLW13 := Lib.hid (HLW12.out.later hb13)
        clear hb13 HLW12
        rw [bs_space]
        have hS2 : (bs (S ++ [32])).size ≤ 8193 := by rw [bs_size] at hSl ⊢; simp; omega
        by_cases hkb : k < bl.size
        · have HAH := Lib.hid (ahead_some hkb)
          obtain ⟨bb, bo, rfl, hBb⟩ := bytesv_at HBB.out (Nat.lt_of_le_of_lt (Nat.zero_le _) hkb)
          have HBK := Lib.hid (hBb k hkb)
          have hx256 := bl[k].toNat_lt
          generalize bl[k].toNat = x at *
          clear hBb
          go_wp2_with fail
          have HLJ0 : Hid (LW w gp B5 L.length _ L q2 (W ++ List.replicate 0 (Tx.blankC x)) _ w13) := Lib.hid (by rw [List.replicate_zero, List.append_nil]; exact HLW13.out)
          clear HLW13
          go_loopw [11, 17] (fun v q wr => ∃ (j : Nat) (u : Value), v = u ∧ q = .int .u8 j ∧ j ≤ x % 4 + 1 ∧ Hid (LW w gp B5 L.length (.slice (some ⟨gl, 0, none⟩) L.length lc) L q2 (W ++ List.replicate j (Tx.blankC x)) u wr)) (fun _ q _ => 4 - (intOf q).toNat)
          case atStart => exact ⟨0, _, rfl, rfl, by omega, HLJ0⟩
          case round =>
            clear HLJ0
            obtain ⟨j, u, rfl, rfl, hj, HLJ⟩ := hrel
            have n0 := cell_later HLJ.out.bel HBK.out
            by_cases hj4 : j ≤ x % 4
            · have HLN : Hid ((W ++ List.replicate j (Tx.blankC x)).length + 1 ≤ 1000000000000000 ∧ ((W ++ List.replicate j (Tx.blankC x)).length + 1) * 1 ≤ 140737488355328) := Lib.hid (by rw [List.length_append, List.length_replicate]; omega)
              rcases (show x / 4 % 4 = 0 ∨ x / 4 % 4 = 1 ∨ x / 4 % 4 = 2 ∨ x / 4 % 4 = 3 by omega) with hc4 | hc4 | hc4 | hc4
              ·
                have e4' : (x : Int) / 4 % 4 = 0 := by omega
                have HC : Hid (Tx.blankC x = 32) := Lib.hid (by unfold Tx.blankC; simp [hc4])
                clear hc4
                have hown := HLJ.out.ow
                go_wp2_with (at_builtin; refine append_one rfl (.tmp 140) (.tmp 148) 22 5 rfl w.heap.size _ 1 Tryd.underlying22 u8_info rfl _ _ _ rfl hown _ rfl rfl ?_ ?_ ?_ ?_)
                · exact HLN.out.1
                · exact HLN.out.2
                · exact HLJ.out.bel.size
                intro v' w16 hown' hg16 hb16
                have hown2 : w16.ownsRow w.heap.size 5 1 v' (W ++ List.replicate (j + 1) (Tx.blankC x)).length ((W ++ List.replicate (j + 1) (Tx.blankC x)).map byteV) := by
                  have l1 : (W ++ List.replicate (j + 1) (32 : UInt8)).length = W.length + j + 1 := by simp; omega
                  have l2 : (W ++ List.replicate (j + 1) (32 : UInt8)).map byteV = W.map byteV ++ (List.replicate j (byteV 32) ++ [byteV 32]) := by rw [List.replicate_succ']; simp
                  rw [HC.out] at hown' ⊢
                  rw [l1, l2]
                  exact hown'
                have HLZ := Lib.hid (HLJ.out.grow hown2 hg16 hb16)
                clear hown hown' hown2 hg16 hb16 HLJ e4'
                go_wp2_with fail
                go_roundw
                case rel => exact ⟨j + 1, v', rfl, by go_num, by omega, HLZ⟩
                case measure => simp [intOf]; omega
              ·
                have e4' : (x : Int) / 4 % 4 = 1 := by omega
                have HC : Hid (Tx.blankC x = 10) := Lib.hid (by unfold Tx.blankC; simp [hc4])
                clear hc4
                have hown := HLJ.out.ow
                go_wp2_with (at_builtin; refine append_one rfl (.tmp 140) (.tmp 148) 22 5 rfl w.heap.size _ 1 Tryd.underlying22 u8_info rfl _ _ _ rfl hown _ rfl rfl ?_ ?_ ?_ ?_)
                · exact HLN.out.1
                · exact HLN.out.2
                · exact HLJ.out.bel.size
                intro v' w16 hown' hg16 hb16
                have hown2 : w16.ownsRow w.heap.size 5 1 v' (W ++ List.replicate (j + 1) (Tx.blankC x)).length ((W ++ List.replicate (j + 1) (Tx.blankC x)).map byteV) := by
                  have l1 : (W ++ List.replicate (j + 1) (10 : UInt8)).length = W.length + j + 1 := by simp; omega
                  have l2 : (W ++ List.replicate (j + 1) (10 : UInt8)).map byteV = W.map byteV ++ (List.replicate j (byteV 10) ++ [byteV 10]) := by rw [List.replicate_succ']; simp
                  rw [HC.out] at hown' ⊢
                  rw [l1, l2]
                  exact hown'
                have HLZ := Lib.hid (HLJ.out.grow hown2 hg16 hb16)
                clear hown hown' hown2 hg16 hb16 HLJ e4'
                go_wp2_with fail
                go_roundw
                case rel => exact ⟨j + 1, v', rfl, by go_num, by omega, HLZ⟩
                case measure => simp [intOf]; omega
              ·
                have e4' : (x : Int) / 4 % 4 = 2 := by omega
                have HC : Hid (Tx.blankC x = 9) := Lib.hid (by unfold Tx.blankC; simp [hc4])
                clear hc4
                have hown := HLJ.out.ow
                go_wp2_with (at_builtin; refine append_one rfl (.tmp 140) (.tmp 148) 22 5 rfl w.heap.size _ 1 Tryd.underlying22 u8_info rfl _ _ _ rfl hown _ rfl rfl ?_ ?_ ?_ ?_)
                · exact HLN.out.1
                · exact HLN.out.2
                · exact HLJ.out.bel.size
                intro v' w16 hown' hg16 hb16
                have hown2 : w16.ownsRow w.heap.size 5 1 v' (W ++ List.replicate (j + 1) (Tx.blankC x)).length ((W ++ List.replicate (j + 1) (Tx.blankC x)).map byteV) := by
                  have l1 : (W ++ List.replicate (j + 1) (9 : UInt8)).length = W.length + j + 1 := by simp; omega
                  have l2 : (W ++ List.replicate (j + 1) (9 : UInt8)).map byteV = W.map byteV ++ (List.replicate j (byteV 9) ++ [byteV 9]) := by rw [List.replicate_succ']; simp
                  rw [HC.out] at hown' ⊢
                  rw [l1, l2]
                  exact hown'
                have HLZ := Lib.hid (HLJ.out.grow hown2 hg16 hb16)
                clear hown hown' hown2 hg16 hb16 HLJ e4'
                go_wp2_with fail
                go_roundw
                case rel => exact ⟨j + 1, v', rfl, by go_num, by omega, HLZ⟩
                case measure => simp [intOf]; omega
              ·
                have e4' : (x : Int) / 4 % 4 = 3 := by omega
                have HC : Hid (Tx.blankC x = 13) := Lib.hid (by unfold Tx.blankC; simp [hc4])
                clear hc4
                have hown := HLJ.out.ow
                go_wp2_with (at_builtin; refine append_one rfl (.tmp 140) (.tmp 148) 22 5 rfl w.heap.size _ 1 Tryd.underlying22 u8_info rfl _ _ _ rfl hown _ rfl rfl ?_ ?_ ?_ ?_)
                · exact HLN.out.1
                · exact HLN.out.2
                · exact HLJ.out.bel.size
                intro v' w16 hown' hg16 hb16
                have hown2 : w16.ownsRow w.heap.size 5 1 v' (W ++ List.replicate (j + 1) (Tx.blankC x)).length ((W ++ List.replicate (j + 1) (Tx.blankC x)).map byteV) := by
                  have l1 : (W ++ List.replicate (j + 1) (13 : UInt8)).length = W.length + j + 1 := by simp; omega
                  have l2 : (W ++ List.replicate (j + 1) (13 : UInt8)).map byteV = W.map byteV ++ (List.replicate j (byteV 13) ++ [byteV 13]) := by rw [List.replicate_succ']; simp
                  rw [HC.out] at hown' ⊢
                  rw [l1, l2]
                  exact hown'
                have HLZ := Lib.hid (HLJ.out.grow hown2 hg16 hb16)
                clear hown hown' hown2 hg16 hb16 HLJ e4'
                go_wp2_with fail
                go_roundw
                case rel => exact ⟨j + 1, v', rfl, by go_num, by omega, HLZ⟩
                case measure => simp [intOf]; omega
            have hj5 : j = x % 4 + 1 := by omega
            have HJ5 := Lib.hid hj5
            clear hj5
            by_cases hx2 : 200 ≤ x
            · have hown := HLJ.out.ow
              have HLN : Hid ((W ++ List.replicate j (Tx.blankC x)).length ≤ 100000) := Lib.hid (by rw [List.length_append, List.length_replicate]; omega)
              obtain ⟨i0, hi0, hz0, hz1, hz2⟩ := info_parts u8_info
              go_wp2_with (at_builtin; refine Lib.wpList_append_own_string _ rfl (.tmp 155) (.const (.string { data := #[35, 108, 101, 116, 32, 34, 10] })) 22 9 rfl w.heap.size 5 i0 Tryd.underlying22 Tryd.underlying9 hi0 hz0 hz1 hz2 _ _ _ rfl hown _ rfl ?_ ?_ ?_ ?_)
              · exact Nat.le_trans (Nat.add_le_add_right HLN.out _) (by decide)
              · exact Nat.le_trans (Nat.add_le_add_right HLN.out _) (by decide)
              · exact HLJ.out.bel.size
              intro v' w16 hown' hg16 _
              have hb16 : Below w.heap.size wr w16 := (Below.refl w.heap.size wr).grown hg16 HLJ.out.bel.size fun k hk => (hown.lt k hk).1
              have hown2 : w16.ownsRow w.heap.size 5 1 v' (W ++ Tx.aheadOf bl.data.toList k).length ((W ++ Tx.aheadOf bl.data.toList k).map byteV) := by
                have l1 : (W ++ Tx.aheadOf bl.data.toList k).length = W.length + j + 7 := by rw [HAH.out, if_pos hx2, ← HJ5.out]; simp [Tx.remark]; omega
                have l2 : (W ++ Tx.aheadOf bl.data.toList k).map byteV = W.map byteV ++ (List.replicate j (byteV (Tx.blankC x)) ++ Tx.remark.map byteV) := by rw [HAH.out, if_pos hx2, ← HJ5.out]; simp
                rw [l1, l2]
                exact hown'
              have HLA := Lib.hid (HLJ.out.grow hown2 hg16 hb16)
              clear hown hown' hown2 hg16 hb16 HLJ hi0 hz0 hz1 hz2 HLN n0 hj4 hj
              have hown := HLA.out.ow
              have hwin := window_cells (bytes_later HB1.out HLA.out.bel) nx to_ h3
              have hsl := (cut_text w16 b1 o1 s.size c nx to_ s (bytes_later HB1.out HLA.out.bel) h2 h3 hc).1
              go_wp2_with (at_builtin; refine append_at rfl (.tmp 160) (.tmp 164) 22 5 rfl w.heap.size _ 1 Tryd.underlying22 u8_info rfl _ _ _ rfl hown b1 (o1 + nx) (to_ - nx) _ (((s.data.toList.drop nx).take (to_ - nx)).map byteV) rfl ?_ hwin ?_ ?_ ?_ ?_ ?_)
              · rw [List.length_map]; exact HTK.out
              · intro x hx
                obtain ⟨y, _, rfl⟩ := List.mem_map.1 hx
                rfl
              · exact HBD.out.1
              · exact HBD.out.2
              · exact HLA.out.bel.size
              intro v' w20 hown' hg20 hb20
              have hown2 : w20.ownsRow w.heap.size 5 1 v' ((W ++ Tx.aheadOf bl.data.toList k) ++ (s.data.toList.drop nx).take (to_ - nx)).length (((W ++ Tx.aheadOf bl.data.toList k) ++ (s.data.toList.drop nx).take (to_ - nx)).map byteV) := by
                rw [List.length_append, HTK.out, List.map_append]; simpa using hown'
              have HLZ := Lib.hid (HLA.out.grow hown2 hg20 hb20)
              clear hown hwin hsl hown' hown2 hg20 hb20 HLA
              go_wp2_with fail
              rw [bs_app]
              go_roundw
              case rel =>
                refine ⟨k + 1, to_, q2, S ++ [32] ++ Tx.said t, _, v', rfl, rfl, rfl, by go_num, by omega, h3, Lib.hid (HST.out.next _ HAO.out.1 HAO.out.2.1 HAO.out.2.2), ?_⟩
                rw [← List.append_assoc]
                exact HLZ
              case measure => simp [intOf]; omega
            · have HLA : Hid (LW w gp B5 L.length (.slice (some ⟨gl, 0, none⟩) L.length lc) L q2 (W ++ Tx.aheadOf bl.data.toList k) _ wr) := Lib.hid (by
                have := HLJ.out
                rw [HJ5.out] at this
                rw [HAH.out, if_neg hx2, List.append_nil]; exact this)
              clear HLJ hj
              have hown := HLA.out.ow
              have hwin := window_cells (bytes_later HB1.out HLA.out.bel) nx to_ h3
              have hsl := (cut_text wr b1 o1 s.size c nx to_ s (bytes_later HB1.out HLA.out.bel) h2 h3 hc).1
              go_wp2_with (at_builtin; refine append_at rfl (.tmp 160) (.tmp 164) 22 5 rfl w.heap.size _ 1 Tryd.underlying22 u8_info rfl _ _ _ rfl hown b1 (o1 + nx) (to_ - nx) _ (((s.data.toList.drop nx).take (to_ - nx)).map byteV) rfl ?_ hwin ?_ ?_ ?_ ?_ ?_)
              · rw [List.length_map]; exact HTK.out
              · intro x hx
                obtain ⟨y, _, rfl⟩ := List.mem_map.1 hx
                rfl
              · exact HBD.out.1
              · exact HBD.out.2
              · exact HLA.out.bel.size
              intro v' w20 hown' hg20 hb20
              have hown2 : w20.ownsRow w.heap.size 5 1 v' ((W ++ Tx.aheadOf bl.data.toList k) ++ (s.data.toList.drop nx).take (to_ - nx)).length (((W ++ Tx.aheadOf bl.data.toList k) ++ (s.data.toList.drop nx).take (to_ - nx)).map byteV) := by
                rw [List.length_append, HTK.out, List.map_append]; simpa using hown'
              have HLZ := Lib.hid (HLA.out.grow hown2 hg20 hb20)
              clear hown hwin hsl hown' hown2 hg20 hb20 HLA
              go_wp2_with fail
              rw [bs_app]
              go_roundw
              case rel =>
                refine ⟨k + 1, to_, q2, S ++ [32] ++ Tx.said t, _, v', rfl, rfl, rfl, by go_num, by omega, h3, Lib.hid (HST.out.next _ HAO.out.1 HAO.out.2.1 HAO.out.2.2), ?_⟩
                rw [← List.append_assoc]
                exact HLZ
              case measure => simp [intOf]; omega
        · have HAH := Lib.hid (ahead_none hkb)
          have hown := HLW13.out.ow
          go_wp2_with (at_builtin; refine append_one rfl (.tmp 157) (.tmp 158) 22 5 rfl w.heap.size _ 1 Tryd.underlying22 u8_info rfl _ _ _ rfl hown _ rfl rfl ?_ ?_ ?_ ?_)
          · omega
          · omega
          · exact HLW13.out.bel.size
          intro v' w16 hown' hg16 hb16
          have hown2 : w16.ownsRow w.heap.size 5 1 v' (W ++ Tx.aheadOf bl.data.toList k).length ((W ++ Tx.aheadOf bl.data.toList k).map byteV) := by
            rw [HAH.out, List.length_append, List.map_append]; exact hown'
          have HLA := Lib.hid (HLW13.out.grow hown2 hg16 hb16)
          clear hown hown' hown2 hg16 hb16 HLW13
          have hown := HLA.out.ow
          have hwin := window_cells (bytes_later HB1.out HLA.out.bel) nx to_ h3
          have hsl := (cut_text w16 b1 o1 s.size c nx to_ s (bytes_later HB1.out HLA.out.bel) h2 h3 hc).1
          go_wp2_with (at_builtin; refine append_at rfl (.tmp 160) (.tmp 164) 22 5 rfl w.heap.size _ 1 Tryd.underlying22 u8_info rfl _ _ _ rfl hown b1 (o1 + nx) (to_ - nx) _ (((s.data.toList.drop nx).take (to_ - nx)).map byteV) rfl ?_ hwin ?_ ?_ ?_ ?_ ?_)
          · rw [List.length_map]; exact HTK.out
          · intro x hx
            obtain ⟨y, _, rfl⟩ := List.mem_map.1 hx
            rfl
          · exact HBD.out.1
          · exact HBD.out.2
          · exact HLA.out.bel.size
          intro v' w20 hown' hg20 hb20
          have hown2 : w20.ownsRow w.heap.size 5 1 v' ((W ++ Tx.aheadOf bl.data.toList k) ++ (s.data.toList.drop nx).take (to_ - nx)).length (((W ++ Tx.aheadOf bl.data.toList k) ++ (s.data.toList.drop nx).take (to_ - nx)).map byteV) := by
            rw [List.length_append, HTK.out, List.map_append]; simpa using hown'
          have HLZ := Lib.hid (HLA.out.grow hown2 hg20 hb20)
          clear hown hwin hsl hown' hown2 hg20 hb20 HLA
          go_wp2_with fail
          rw [bs_app]
          go_roundw
          case rel =>
            refine ⟨k + 1, to_, q2, S ++ [32] ++ Tx.said t, _, v', rfl, rfl, rfl, by go_num, by omega, h3, Lib.hid (HST.out.next _ HAO.out.1 HAO.out.2.1 HAO.out.2.2), ?_⟩
            rw [← List.append_assoc]
            exact HLZ
          case measure => simp [intOf]; omega
      · have hkL : k = L.length := by omega
        have hdn : Tx.Lie s.data.toList L L.length a p S W := by have := HLI.out; rw [hkL] at this; exact this
        obtain ⟨d1, ⟨Q1, d2, d3⟩, ⟨Q2, d4, d5⟩⟩ := hdn.done (by rw [size_list]; exact HSZ.out)
        have hSl : (bs S).size ≤ 8192 := by have := HLI.out.sl; have := HSZ.out; rw [bs_size]; omega
        have hWl : (bs W).size ≤ 49152 := by have := HLI.out.wl; have := HSZ.out; rw [bs_size]; omega
        have HD1 := Lib.hid d1
        have HD2 := Lib.hid d2
        have HD3 := Lib.hid d3
        have HD4 := Lib.hid d4
        have HD5 := Lib.hid d5
        clear hdn d1 d2 d3 d4 d5 hkL
        go_wp2_with fail
        refine (rBehind_any s _ a _ (HBS.out.later HLW.out.bel) ha (Nat.le_trans HSZ.out (by decide))).mono ?_
        rintro e w' ⟨rfl, rfl⟩
        rw [HD1.out, size_list]
        have hcv := conv_bytes wr (bs S)
        obtain ⟨hbv, hb6⟩ := bytes_of wr (bs S)
        have HBV := Lib.hid hbv
        have HLX := Lib.hid (HLW.out.later hb6)
        clear hbv hb6 HLW
        go_wp2_with fail
        clear hcv
        refine (tTokens_any (bs S) _ _ HBV.out (Nat.le_trans hSl (by decide)) (HS.out.later HLX.out.bel)).mono ?_
        rintro e w6 ⟨hb6, hres⟩
        rw [bs_list, HD2.out] at hres
        obtain ⟨va, rfl, hown⟩ := hres
        obtain ⟨hpb, _, _⟩ := place_cells w6 0 0 29
        have HLY := Lib.hid ((HLX.out.later hb6).later hpb)
        have HTA := Lib.hid ((own_structs tcells_len hown).later hpb)
        clear hown hb6 hpb HLX HBV
        go_wp2_with fail
        generalize w6.alloc (.cells #[.int .i64 0, .int .i64 0] 29) = w7 at *
        refine (tTokens_any (bs W) _ _ (copy_res (s := bs W) HLY.out.ow) (Nat.le_trans hWl (by decide)) (HS.out.later HLY.out.bel)).mono ?_
        rintro e w8 ⟨hb8, hres⟩
        rw [bs_list, HD4.out] at hres
        obtain ⟨vb, rfl, hown⟩ := hres
        obtain ⟨hpb, _, _⟩ := place_cells w8 0 0 29
        have HLZ := Lib.hid ((HLY.out.later hb8).later hpb)
        have HTA2 := Lib.hid ((HTA.out.later hb8).later hpb)
        have HTB := Lib.hid ((own_structs tcells_len hown).later hpb)
        clear hown hb8 hpb HLY HTA
        go_wp2_with fail
        generalize w8.alloc (.cells #[.int .i64 0, .int .i64 0] 29) = w9 at *
        have hq1 : Q1.length ≤ 1000000 := by have := congrArg List.length HD3.out; rw [List.length_map, List.length_map] at this; omega
        have hq2 : Q2.length ≤ 1000000 := by have := congrArg List.length HD5.out; rw [List.length_map, List.length_map] at this; omega
        refine (butPlaces_same Q1 L _ _ _ HTA2.out (own_structs tcells_len HLZ.out.ol) HD3.out hq1).mono ?_
        rintro e w10 ⟨rfl, hb10⟩
        have HLZ2 := Lib.hid (HLZ.out.later hb10)
        have HTB2 := Lib.hid (HTB.out.later hb10)
        clear hb10 HLZ HTB HTA2
        go_wp2_with fail
        refine (butPlaces_same Q2 L _ _ _ HTB2.out (own_structs tcells_len HLZ2.out.ol) HD5.out hq2).mono ?_
        rintro e w11 ⟨rfl, hb11⟩
        have HB11 := Lib.hid (below_later hb11 HLZ2.out.bel)
        clear hb11 HLZ2 HTB2
        go_wp2_with fail
        go_ret
        exact Makes.mk rfl HB11.out
end Go.Proofs.YtenbecjnlgmkeaaDoor

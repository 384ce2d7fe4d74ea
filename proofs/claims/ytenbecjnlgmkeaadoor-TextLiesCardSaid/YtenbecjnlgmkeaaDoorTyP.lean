/- The walk of the statement TextTokens. -/
import Derived.Test.YtenbecjnlgmkeaaDoorTyN
namespace Culp
set_option linter.unusedSimpArgs false
set_option linter.unusedVariables false
open Go Go.RowKit
section
variable {w w' : World} {base : Nat} {e : TypeId} {size n r : Nat} {v : Value} {xs : List Value}
theorem own_keep_lt (h : w.ownsRow base e size v n xs) (hk : Keep r w w') (hr : r < base) : w'.ownsRow base e size v n xs := by
  refine ⟨h.1, ?_⟩
  rcases h.2 with h2 | ⟨g, cap, cur, rfl, hb', hh, h3⟩
  · exact .inl h2
  · have hlt := (h.lt g rfl).2
    refine .inr ⟨g, cap, cur, rfl, hb', ?_, h3⟩
    rw [hk.block g hlt (by omega)]; exact hh
theorem own_grown_lt {B : Option Nat} (h : w.ownsRow base e size v n xs) (hg : w.grownBy w' B) (hr : ∀ k, B = some k → k < base) : w'.ownsRow base e size v n xs := by
  refine ⟨h.1, ?_⟩
  rcases h.2 with h2 | ⟨g, cap, cur, rfl, hb', hh, h3⟩
  · exact .inl h2
  · have hlt := (h.lt g rfl).2
    refine .inr ⟨g, cap, cur, rfl, hb', ?_, h3⟩
    rw [hg.block g hlt (by intro e; have := hr g e.symm; omega)]; exact hh
theorem own_shape (h : w.ownsRow base e size v n xs) : ∃ A c, v = .slice A n c := by
  rcases h.2 with ⟨rfl, rfl⟩ | ⟨g, cap, cur, rfl, _⟩
  · exact ⟨_, _, rfl⟩
  · exact ⟨_, _, rfl⟩
/-- The block of a row, where it has one. -/
theorem own_part (h : w.ownsRow base e size v n xs) (hb : base < w.heap.size) : ∃ gl, base ≤ gl ∧ gl < w.heap.size ∧ (0 < n → ∃ c, v = .slice (some ⟨gl, 0, none⟩) n c) ∧ ∀ k, v.ownBlock = some k → k = gl := by
  rcases h.2 with ⟨rfl, rfl⟩ | ⟨g, cap, cur, rfl, hb', _⟩
  · exact ⟨base, Nat.le_refl _, hb, fun h => by omega, fun k hk => by cases hk⟩
  · exact ⟨g, hb', (h.lt g rfl).2, fun _ => ⟨cap, rfl⟩, fun k hk => by simp [Value.ownBlock] at hk; exact hk.symm⟩
theorem own_cell {g c : Nat} (h : w.ownsRow base e size (.slice (some ⟨g, 0, none⟩) n c) n xs) {i : Nat} (hi : i < n * size) : (∃ u, w.cell? ⟨g, i, none⟩ = some u) ∧ w.frozen? ⟨g, i, none⟩ = false := by
  rcases h.2 with ⟨h1, _⟩ | ⟨g', cap, cur, h1, hb, hh, hc, _, hsz, _⟩
  · cases h1
  · simp only [Value.slice.injEq, Option.some.injEq, Addr.mk.injEq] at h1
    obtain ⟨⟨rfl, _⟩, _, rfl⟩ := h1
    have : n * size ≤ c * size := Nat.mul_le_mul_right size hc
    exact ⟨⟨cur[i]'(by omega), by simp [World.cell?, hh, show i < cur.size by omega]⟩, by simp [World.frozen?, hh]⟩
theorem own_set {g c : Nat} (h : w.ownsRow base e size (.slice (some ⟨g, 0, none⟩) n c) n xs) (i : Nat) (u : Value) : ∃ xs', (w.setCell ⟨g, i, none⟩ u).ownsRow base e size (.slice (some ⟨g, 0, none⟩) n c) n xs' := by
  rcases h.2 with ⟨h1, _⟩ | ⟨g', cap, cur, h1, hb, hh, hc, hm, hsz, _⟩
  · cases h1
  · simp only [Value.slice.injEq, Option.some.injEq, Addr.mk.injEq] at h1
    obtain ⟨⟨rfl, _⟩, _, rfl⟩ := h1
    refine ⟨(cur.setIfInBounds i u).toList.take (n * size), ?_, .inr ⟨g, c, cur.setIfInBounds i u, rfl, hb, ?_, hc, hm, by simpa using hsz, rfl⟩⟩
    · have : n * size ≤ c * size := Nat.mul_le_mul_right size hc
      simp; omega
    · simp [World.setCell, Array.getElem?_modify, hh]
theorem below_more {B B' : Nat} {a : World} (h : Below B a w) (k : Below B' w w') (hB : B ≤ B') : Below B a w' :=
  ⟨k.os.trans h.os, k.tape.trans h.tape, k.output.trans h.output, Nat.le_trans h.size k.size, fun j hj => (k.block j (by omega)).trans (h.block j hj)⟩
theorem below_keep {a : World} (h : Below a.heap.size a w) (hk : Keep r w w') (hr : a.heap.size ≤ r) : Below a.heap.size a w' :=
  ⟨hk.os.trans h.os, hk.tape.trans h.tape, hk.output.trans h.output, Nat.le_trans h.size hk.size, fun k hlt => (hk.block k (Nat.lt_of_lt_of_le hlt h.size) (by omega)).trans (h.block k hlt)⟩
end
end Culp
namespace Go.Proofs.YtenbecjnlgmkeaaDoor
open Go.RowKit Go.Maps Culp

theorem ans_len {l : List UInt8} {L : List (Tx.Tk × (Nat × Nat))} {x : Nat} {p : Nat × Nat} (h : AnsOf l L x p) : L.length ≤ 65536 := by
  unfold AnsOf at h
  cases ht : Tx.toks l with
  | ok L' =>
    rw [ht] at h
    obtain ⟨rfl, _⟩ := h
    by_cases hl : l.length ≤ 65536
    · exact Nat.le_trans (Tx.toks_len' ht) hl
    · unfold Tx.toks at ht; rw [if_pos (by omega)] at ht; cases ht
  | error y =>
    rw [ht] at h
    obtain ⟨rfl, _⟩ := h
    exact Nat.zero_le _
theorem wide_res {s : ByteArray} {w : World} {e : Ending} {w' : World} (h : WideB s.data.toList w e w') : ∃ g, w.heap.size ≤ g ∧ e = .returned (.slice (some ⟨g, 0, none⟩) s.size (s.size + 64 : Nat)) ∧ RowB g (s.size + 64) w' ∧ Held g (s.data.toList ++ Tx.marksB s.size) w' ∧ Below w.heap.size w w' := by
  have h' := h
  unfold WideB at h'
  rw [size_list] at h'
  exact h'
theorem SpareBytes_ok (s : ByteArray) (g : Nat) (w : World) (hc : Held g (s.data.toList ++ Tx.marksB s.size) w) (hl : s.size ≤ 100000000000) :
    Calls Tryd.prog 16 #[.slice (some ⟨g, 0, none⟩) s.size (s.size + 64 : Nat)] w (Makes (.bool true) w) := by
  have := SpareBytes_any s.data.toList g w (by rw [size_list]; exact hc) (by rw [size_list]; exact hl)
  rw [size_list] at this
  exact this
theorem RowB.lt {R N : Nat} {w : World} (h : RowB R N w) : R < w.heap.size := by
  obtain ⟨cs, h1, _⟩ := h
  exact (Array.getElem?_eq_some_iff.1 h1).1
theorem toks_own {l : List UInt8} {L : List (Tx.Tk × (Nat × Nat))} {x n : Nat} {p : Nat × Nat} {w w' : World} {e : Ending} (ha : AnsOf l L x p) (hn : L.length = n) (h : ToksRes l w e w') :
    Below w.heap.size w w' ∧ ∃ A c, e = .returned (.tuple #[.slice A n c, .int .i64 x, .agg #[.int .i64 p.1, .int .i64 p.2]]) ∧ w'.ownsRow w.heap.size 40 5 (.slice A n c) n (tflat L) := by
  subst hn
  obtain ⟨hb, v, rfl, hown⟩ := toks_ans ha h
  obtain ⟨A, c, rfl⟩ := own_shape hown
  exact ⟨hb, A, c, rfl, hown⟩
theorem rtoks_own {l : List UInt8} {L : List (Tx.Tk × (Nat × Nat))} {x n : Nat} {p : Nat × Nat} {w w' : World} {e : Ending} (ha : AnsOf l L x p) (hn : L.length = n) (h : rToksRes l w e w') :
    Below w.heap.size w w' ∧ ∃ A c M, M.map Prod.fst = L ∧ e = .returned (.tuple #[.slice A n c, .int .i64 x, .agg #[.int .i64 p.1, .int .i64 p.2]]) ∧ w'.ownsRow w.heap.size 44 7 (.slice A n c) n (rflat M) := by
  subst hn
  obtain ⟨hb, v, M, rfl, rfl, hown⟩ := rtoks_ans ha h
  obtain ⟨A, c, rfl⟩ := own_shape hown
  refine ⟨hb, A, c, M, rfl, ?_, ?_⟩
  · rw [List.length_map]
  · rw [List.length_map]; exact hown
theorem alike_own {L : List (Tx.Tk × (Nat × Nat))} {M : List ((Tx.Tk × (Nat × Nat)) × (Nat × Nat))} {u v : Value} {w : World} {b1 b2 n : Nat} {e1 e2 : TypeId} (hM : M.map Prod.fst = L) (hn : L.length = n) (hu : w.ownsRow b1 e1 5 u n (tflat L)) (hv : w.ownsRow b2 e2 7 v n (rflat M)) (hL : n ≤ 65536) :
    Calls Tryd.prog 14 #[u, v] w (Makes (.bool true) w) := by
  subst hM
  subst hn
  refine alike_same M u v w (own_structs tcells_len hu) (own_structs rcells_len (e := e2) (base := b2) ?_) ?_
  · rw [List.length_map] at hv; exact hv
  · rw [List.length_map] at hL; omega
/-- The rows at hand. -/
structure Rw (w0 : World) (gl B5 B6 n : Nat) (lv rv : Value) (L : List (Tx.Tk × (Nat × Nat))) (M : List ((Tx.Tk × (Nat × Nat)) × (Nat × Nat))) (W : World) : Prop where
  bel : Below w0.heap.size w0 W
  ol : W.ownsRow B5 40 5 lv n (tflat L)
  orr : W.ownsRow B6 44 7 rv n (rflat M)
  z : gl < W.heap.size
theorem Rw.later {w0 W W' : World} {gl B5 B6 n : Nat} {lv rv : Value} {L : List (Tx.Tk × (Nat × Nat))} {M : List ((Tx.Tk × (Nat × Nat)) × (Nat × Nat))} (h : Rw w0 gl B5 B6 n lv rv L M W) (hb : Below W.heap.size W W') : Rw w0 gl B5 B6 n lv rv L M W' :=
  ⟨below_later hb h.bel, own_later h.ol hb, own_later h.orr hb, Nat.lt_of_lt_of_le h.z hb.size⟩
theorem Rw.keep {w0 W W' : World} {g gl B5 B6 n : Nat} {lv rv : Value} {L : List (Tx.Tk × (Nat × Nat))} {M : List ((Tx.Tk × (Nat × Nat)) × (Nat × Nat))} (h : Rw w0 gl B5 B6 n lv rv L M W) (hk : Keep g W W') (h0 : w0.heap.size ≤ g) (h5 : g < B5) (h6 : g < B6) : Rw w0 gl B5 B6 n lv rv L M W' :=
  ⟨below_keep h.bel hk h0, own_keep_lt h.ol hk h5, own_keep_lt h.orr hk h6, Nat.lt_of_lt_of_le h.z hk.size⟩
/-- The tokens' cells as the law overwrites them. -/
def put5 (w : World) (R k : Nat) : World :=
  ((((w.setCell ⟨R, k * 5, none⟩ (.int .i8 9)).setCell ⟨R, k * 5 + 1, none⟩ (.int .i64 0)).setCell ⟨R, k * 5 + 2, none⟩ (.string ⟨#[]⟩)).setCell ⟨R, k * 5 + 3, none⟩ (.int .i64 0)).setCell ⟨R, k * 5 + 4, none⟩ (.int .i64 0)
def Own5 (B gl n c : Nat) (w : World) : Prop := ∃ xs, w.ownsRow B 40 5 (.slice (some ⟨gl, 0, none⟩) n c) n xs
theorem Own5.put {B gl n c : Nat} {w : World} (h : Own5 B gl n c w) (k : Nat) : Own5 B gl n c (put5 w gl k) := by
  obtain ⟨x0, h0⟩ := h
  obtain ⟨x1, h1⟩ := own_set h0 (k * 5) (.int .i8 9)
  obtain ⟨x2, h2⟩ := own_set h1 (k * 5 + 1) (.int .i64 0)
  obtain ⟨x3, h3⟩ := own_set h2 (k * 5 + 2) (.string ⟨#[]⟩)
  obtain ⟨x4, h4⟩ := own_set h3 (k * 5 + 3) (.int .i64 0)
  exact own_set h4 (k * 5 + 4) (.int .i64 0)
theorem keep_put5 {R : Nat} {a w : World} (h : Keep R a w) (k : Nat) : Keep R a (put5 w R k) := ((((h.setCell _ _).setCell _ _).setCell _ _).setCell _ _).setCell _ _
theorem place_cells (w : World) (a b : Int) (t : TypeId) : Below w.heap.size w (w.alloc (.cells #[.int .i64 a, .int .i64 b] t)) ∧ (w.alloc (.cells #[.int .i64 a, .int .i64 b] t)).cell? ⟨w.heap.size, 0, none⟩ = some (.int .i64 a) ∧ (w.alloc (.cells #[.int .i64 a, .int .i64 b] t)).cell? ⟨w.heap.size, 1, none⟩ = some (.int .i64 b) :=
  ⟨(Below.refl _ _).alloc (Nat.le_refl _) _, World.cell?_alloc_at _ _ _ _ rfl, World.cell?_alloc_at _ _ _ _ rfl⟩
set_option maxRecDepth 100000 in
set_option maxHeartbeats 6400000 in
theorem TextTokens_any (s o : ByteArray) (sv ov : Value) (w : World) (hb : BytesV w sv s) (ho : BytesV w ov o) (hS : Sp w) (hs : s.size ≤ 1000000000000000) (hos : o.size ≤ 1000000000000000) : Calls Tryd.prog 3 #[sv, ov] w (Makes (.bool true) w) := by
  have HS := Lib.hid hS
  have HBS := Lib.hid hb
  have HBO := Lib.hid ho
  obtain ⟨A, c, rfl, _, _⟩ := hb
  obtain ⟨A1, c1, rfl, _, _⟩ := ho
  clear hS
  go_enter Tryd.func3, Tryd.ntmps3
  go_wp2_with fail
  refine (works_any _ HS.out).mono ?_
  rintro e w1 ⟨rfl, hb1⟩
  have HB1 := Lib.hid hb1
  clear hb1
  go_wp2_with fail
  refine (Long_any' _ _).mono ?_
  rintro e w1' ⟨rfl, rfl⟩
  by_cases hbig : 2147483647 < (s.size : Int) + (o.size : Int)
  · go_wp2_with fail
    go_ret
    exact Makes.mk rfl HB1.out
  have HSZ : Hid (s.size ≤ 100000000000) := Lib.hid (by omega)
  have HOZ : Hid (o.size ≤ 100000000000) := Lib.hid (by omega)
  go_wp2_with fail
  refine (WideBytes_any s _ _ (HBS.out.later HB1.out) HSZ.out).mono ?_
  rintro e w2 hw
  obtain ⟨g, hg, rfl, hrow, hheld, hb2⟩ := wide_res hw
  have HG : Hid (w.heap.size ≤ g) := Lib.hid (Nat.le_trans HB1.out.size hg)
  have HR2 := Lib.hid hrow
  have HH2 := Lib.hid hheld
  have HB2 := Lib.hid (below_later hb2 HB1.out)
  clear hw hrow hheld hb2 hg hs hos hbig
  obtain ⟨L, x, p, ha⟩ := ans_ex s.data.toList
  obtain ⟨n, hn⟩ : ∃ n, L.length = n := ⟨_, rfl⟩
  obtain ⟨Lo, xo, po, hao⟩ := ans_ex o.data.toList
  obtain ⟨no, hno⟩ : ∃ n, Lo.length = n := ⟨_, rfl⟩
  have hno5 : no ≤ 65536 := by rw [← hno]; exact ans_len hao
  have HAO := Lib.hid hao
  have HNO := Lib.hid hno
  clear hao hno
  have hn5 : n ≤ 65536 := by rw [← hn]; exact ans_len ha
  have HA := Lib.hid ha
  have HN := Lib.hid hn
  clear ha hn
  go_wp2_with fail
  refine (tTokens_any s _ _ (held_bytes HH2.out (Nat.le_add_right _ _)) (Nat.le_trans HSZ.out (by decide)) (HS.out.later HB2.out)).mono ?_
  rintro e w3 hres
  obtain ⟨hb3, lA, lc, rfl, hown⟩ := toks_own HA.out HN.out hres
  obtain ⟨hpb, hp0, hp1⟩ := place_cells w3 p.1 p.2 29
  have HB5 : Hid (g < w2.heap.size) := Lib.hid HR2.out.lt
  have HB3 := Lib.hid (below_later hpb (below_later hb3 HB2.out))
  have HR3 := Lib.hid ((HR2.out.later hb3).later hpb)
  have HH3 := Lib.hid ((HH2.out.later hb3).later hpb)
  have OL3 := Lib.hid (own_later hown hpb)
  obtain ⟨gl, hgl5, hgl6, hgl, hblk⟩ := own_part OL3.out (by have := hb3.size; simp; omega)
  have HGL5 := Lib.hid hgl5
  have HGL6 := Lib.hid hgl6
  have HGL := Lib.hid hgl
  have HBLK := Lib.hid hblk
  have HP0 := Lib.hid hp0
  have HP1 := Lib.hid hp1
  clear hres hown hb3 hpb hgl5 hgl6 hgl hblk hp0 hp1 HR2 HH2 HB2 HB1
  go_wp2_with fail
  generalize w3.alloc (.cells #[.int .i64 p.1, .int .i64 p.2] 29) = w3a at *
  refine (rTokens_any s _ _ (HBS.out.later HB3.out) (Nat.le_trans HSZ.out (by decide))).mono ?_
  rintro e w4 hres
  obtain ⟨hb4, rA, rc, M, hM, rfl, hown⟩ := rtoks_own HA.out HN.out hres
  have HM := Lib.hid hM
  obtain ⟨hpb, hp0, hp1⟩ := place_cells w4 p.1 p.2 29
  have HR4 := Lib.hid ((HR3.out.later hb4).later hpb)
  have HH4 := Lib.hid ((HH3.out.later hb4).later hpb)
  have hrw : Rw w gl w2.heap.size w3a.heap.size n (.slice lA n lc) (.slice rA n rc) L M (w4.alloc (.cells #[.int .i64 p.1, .int .i64 p.2] 29)) :=
    ⟨below_later hpb (below_later hb4 HB3.out), own_later (own_later OL3.out hb4) hpb, own_later hown hpb, Nat.lt_of_lt_of_le (Nat.lt_of_lt_of_le HGL6.out hb4.size) hpb.size⟩
  have RW4 := Lib.hid hrw
  have p0 := cell_later hpb (cell_later hb4 HP0.out)
  have p1 := cell_later hpb (cell_later hb4 HP1.out)
  clear hM hres hb4 hpb hown hrw HP0 HP1 HB3 HR3 HH3 OL3
  have HB56 : Hid (w2.heap.size ≤ gl ∧ gl < w3a.heap.size) := Lib.hid ⟨HGL5.out, HGL6.out⟩
  clear HGL5 HGL6
  generalize w2.heap.size = B5 at *
  generalize w3a.heap.size = B6 at *
  go_wp2_with fail
  generalize w4.alloc (.cells #[.int .i64 p.1, .int .i64 p.2] 29) = w5 at *
  clear p0 p1 hp0 hp1
  refine (alike_own HM.out HN.out RW4.out.ol RW4.out.orr hn5).mono ?_
  rintro e w6 ⟨rfl, hb6⟩
  have RW6 := Lib.hid (RW4.out.later hb6)
  have HR6 := Lib.hid (HR4.out.later hb6)
  have HH6 := Lib.hid (HH4.out.later hb6)
  clear hb6 RW4 HR4 HH4
  go_wp2_with fail
  refine (EqBytes_same s _ _ _ (held_bytes HH6.out (Nat.le_add_right _ _)) (HBS.out.later RW6.out.bel) (Nat.le_trans HSZ.out (by decide))).mono ?_
  rintro e w7 ⟨rfl, hb7⟩
  have RW7 := Lib.hid (RW6.out.later hb7)
  have HR7 := Lib.hid (HR6.out.later hb7)
  have HH7 := Lib.hid (HH6.out.later hb7)
  clear hb7 RW6 HR6 HH6
  go_wp2_with fail
  refine (SpareBytes_ok s g _ HH7.out HSZ.out).mono ?_
  rintro e w8 ⟨rfl, hb8⟩
  have RW8 := Lib.hid (RW7.out.later hb8)
  have HR8 := Lib.hid (HR7.out.later hb8)
  clear hb8 RW7 HR7 HH7
  have hs9 : s.size ≤ 100000000000 := HSZ.out
  go_wp2_with fail
  go_loopw [13] (fun i wr => ∃ k : Nat, k ≤ s.size ∧ i = .int .i64 k ∧ Hid (RowB g (s.size + 64) wr) ∧ Hid (Keep g w8 wr)) (fun i _ => s.size - (intOf i).toNat)
  case atStart => exact ⟨0, Nat.zero_le _, rfl, HR8, Lib.hid (Keep.refl _ _)⟩
  case round =>
    obtain ⟨k, hk, rfl, HRr, HKr⟩ := hrel
    by_cases hlt : k < s.size
    · obtain ⟨v0, r0⟩ := HRr.out.cell (i := k) (by omega)
      have f0 := HRr.out.free k
      have HR2 := Lib.hid (HRr.out.set k (.int .u8 122))
      have HK2 := Lib.hid (HKr.out.setCell k (.int .u8 122))
      go_wp2_with fail
      exact ⟨⟨k + 1, by omega, by go_num, HR2, HK2⟩, by simp [intOf]; omega⟩
    have RW9 := Lib.hid (RW8.out.keep HKr.out HG.out HB5.out (Nat.lt_of_lt_of_le HB5.out (by have := HB56.out; omega)))
    clear HRr HKr RW8 HR8
    go_wp2_with fail
    clear hk hlt
    refine (tTokens_any o _ _ (HBO.out.later RW9.out.bel) (Nat.le_trans HOZ.out (by decide)) (HS.out.later RW9.out.bel)).mono ?_
    rintro e w10 hres
    obtain ⟨hb10, mA, mc, rfl, hown⟩ := toks_own HAO.out HNO.out hres
    obtain ⟨hpb, _, _⟩ := place_cells w10 po.1 po.2 29
    have RW10 := Lib.hid ((RW9.out.later hb10).later hpb)
    have OM10 := Lib.hid (own_later hown hpb)
    have HBM := Lib.hid RW9.out.z
    clear hres hb10 hpb hown RW9
    generalize wr.heap.size = B7 at *
    go_wp2_with fail
    generalize w10.alloc (.cells #[.int .i64 po.1, .int .i64 po.2] 29) = w10a at *
    refine (tTokens_any s _ _ (HBS.out.later RW10.out.bel) (Nat.le_trans HSZ.out (by decide)) (HS.out.later RW10.out.bel)).mono ?_
    rintro e w11 hres
    obtain ⟨hb11, gA, gc, rfl, hown⟩ := toks_own HA.out HN.out hres
    obtain ⟨hpb, _, _⟩ := place_cells w11 p.1 p.2 29
    have HBG := Lib.hid RW10.out.z
    have RW11 := Lib.hid ((RW10.out.later hb11).later hpb)
    have OM11 := Lib.hid (own_later (own_later OM10.out hb11) hpb)
    have OG11 := Lib.hid (own_later hown hpb)
    clear hres hb11 hpb hown RW10 OM10
    generalize w10a.heap.size = B8 at *
    go_wp2_with fail
    generalize w11.alloc (.cells #[.int .i64 p.1, .int .i64 p.2] 29) = w12 at *
    refine (alike_own HM.out HN.out RW11.out.ol RW11.out.orr hn5).mono ?_
    rintro e w13 ⟨rfl, hb13⟩
    have RW13 := Lib.hid (RW11.out.later hb13)
    have OM13 := Lib.hid (own_later OM11.out hb13)
    have OG13 := Lib.hid (own_later OG11.out hb13)
    clear hb13 RW11 OM11 OG11
    go_wp2_with fail
    refine (alike_own HM.out HN.out OG13.out RW13.out.orr hn5).mono ?_
    rintro e w14 ⟨rfl, hb14⟩
    have RW14 := Lib.hid (RW13.out.later hb14)
    have OM14 := Lib.hid (own_later OM13.out hb14)
    have OG14 := Lib.hid (own_later OG13.out hb14)
    clear hb14 RW13 OM13 OG13
    have HO14 : Hid (∃ xs, w14.ownsRow B5 40 5 (.slice lA n lc) n xs) := Lib.hid ⟨_, RW14.out.ol⟩
    go_wp2_with fail
    go_loopw [20] (fun i wr => ∃ k : Nat, k ≤ n ∧ i = .int .i64 k ∧ Hid (∃ xs, wr.ownsRow B5 40 5 (.slice lA n lc) n xs) ∧ Hid (Keep gl w14 wr)) (fun i _ => n - (intOf i).toNat)
    case atStart => exact ⟨0, Nat.zero_le _, rfl, HO14, Lib.hid (Keep.refl _ _)⟩
    case round =>
      clear HO14
      obtain ⟨k, hk, rfl, HOr, HKr⟩ := hrel
      by_cases hlt : k < n
      · obtain ⟨c2, hsl⟩ := HGL.out (by omega)
        simp only [Value.slice.injEq, true_and] at hsl
        obtain ⟨rfl, rfl⟩ := hsl
        obtain ⟨xs, hox⟩ := HOr.out
        obtain ⟨⟨v0, r0⟩, f0⟩ := own_cell hox (i := k * 5) (by omega)
        obtain ⟨⟨v1, r1⟩, f1⟩ := own_cell hox (i := k * 5 + 1) (by omega)
        obtain ⟨⟨v2, r2⟩, f2⟩ := own_cell hox (i := k * 5 + 2) (by omega)
        obtain ⟨⟨v3, r3⟩, f3⟩ := own_cell hox (i := k * 5 + 3) (by omega)
        obtain ⟨⟨v4, r4⟩, f4⟩ := own_cell hox (i := k * 5 + 4) (by omega)
        have HO2 := Lib.hid (Own5.put ⟨xs, hox⟩ k)
        have HK2 := Lib.hid (keep_put5 HKr.out k)
        clear hox
        go_wp2_with fail
        exact ⟨⟨k + 1, by omega, by go_num, HO2, HK2⟩, by simp [intOf]; omega⟩
      have hwl : w.heap.size ≤ gl := by have := HG.out; have := HB5.out; have := HB56.out; omega
      have hwB : w.heap.size ≤ B5 := by have := HG.out; have := HB5.out; omega
      have HWB := Lib.hid hwB
      have HB15 := Lib.hid (below_keep RW14.out.bel HKr.out hwl)
      have OR15 := Lib.hid (own_keep_lt RW14.out.orr HKr.out HB56.out.2)
      have OM15 := Lib.hid (own_keep_lt OM14.out HKr.out HBM.out)
      have OG15 := Lib.hid (own_keep_lt OG14.out HKr.out HBG.out)
      have hB5w : B5 ≤ wr.heap.size := by have := HB56.out; have := RW14.out.z; have := HKr.out.size; omega
      have HBW := Lib.hid hB5w
      obtain ⟨xs, hown⟩ := HOr.out
      clear hwl hwB hB5w HOr HKr RW14 OM14 OG14
      go_wp2_with (at_builtin; refine append_agg rfl (.tmp 116) (.tmp 118) 26 40 rfl B5 _ 5 48 Tryd.underlying26 tok_info rfl (by decide) _ _ _ rfl hown [.int .i8 8, .int .i64 0, .string ⟨#[]⟩, .int .i64 0, .int .i64 0] rfl wr.heap.size rfl rfl ?_ ?_ ?_ ?_ ?_)
      · intro u hu
        simp only [List.mem_cons, List.not_mem_nil, or_false] at hu
        rcases hu with rfl | rfl | rfl | rfl | rfl <;> rfl
      · omega
      · omega
      · exact HBW.out
      intro v' w16 hown' hg16 hb16
      obtain ⟨fA, fc, rfl⟩ := own_shape hown'
      have hlow : ∀ b, gl < b → ∀ k, (Value.slice lA n lc).ownBlock = some k → k < b := fun b hb k hk => by rw [HBLK.out k hk]; exact hb
      have HB16 := Lib.hid (below_more HB15.out hb16 HWB.out)
      have OR16 := Lib.hid (own_grown_lt OR15.out hg16 (hlow _ HB56.out.2))
      have OM16 := Lib.hid (own_grown_lt OM15.out hg16 (hlow _ HBM.out))
      have OG16 := Lib.hid (own_grown_lt OG15.out hg16 (hlow _ HBG.out))
      clear hown hown' hg16 hb16 hlow OR15 OM15 OG15 HB15
      go_wp2_with fail
      refine (rTokens_any o _ _ (HBO.out.later HB16.out) (Nat.le_trans HOZ.out (by decide))).mono ?_
      rintro e w17 hres
      obtain ⟨hb17, nA, nc, M2, hM2, rfl, hown⟩ := rtoks_own HAO.out HNO.out hres
      have HM2 := Lib.hid hM2
      obtain ⟨hpb, _, _⟩ := place_cells w17 po.1 po.2 29
      have HB17 := Lib.hid (below_later hpb (below_later hb17 HB16.out))
      have OR17 := Lib.hid (own_later (own_later OR16.out hb17) hpb)
      have OM17 := Lib.hid (own_later (own_later OM16.out hb17) hpb)
      have OG17 := Lib.hid (own_later (own_later OG16.out hb17) hpb)
      have ON17 := Lib.hid (own_later hown hpb)
      clear hM2 hres hb17 hpb hown HB16 OR16 OM16 OG16
      go_wp2_with fail
      generalize w17.alloc (.cells #[.int .i64 po.1, .int .i64 po.2] 29) = w18 at *
      refine (alike_own HM.out HN.out OG17.out OR17.out hn5).mono ?_
      rintro e w19 ⟨rfl, hb19⟩
      have HB19 := Lib.hid (below_later hb19 HB17.out)
      have OM19 := Lib.hid (own_later OM17.out hb19)
      have ON19 := Lib.hid (own_later ON17.out hb19)
      clear hb19 HB17 OM17 ON17 OR17 OG17
      go_wp2_with fail
      refine (alike_own HM2.out HNO.out OM19.out ON19.out hno5).mono ?_
      rintro e w20 ⟨rfl, hb20⟩
      have HB20 := Lib.hid (below_later hb20 HB19.out)
      clear hb20 HB19 OM19 ON19
      go_wp2_with fail
      go_ret
      exact Makes.mk rfl HB20.out
end Go.Proofs.YtenbecjnlgmkeaaDoor

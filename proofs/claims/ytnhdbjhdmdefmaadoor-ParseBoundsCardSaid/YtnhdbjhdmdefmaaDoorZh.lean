
/- Walks of parse: branches are made; functions, bindings, choices. -/
import Derived.Test.YtnhdbjhdmdefmaaDoorZg
namespace Culp.Gr
set_option linter.unusedSimpArgs false
set_option linter.unusedVariables false
open Go Go.RowKit Culp Culp.Tr Go.Proofs.YtnhdbjhdmdefmaaDoor
/-- One branch, pointed at. -/
def BR (w : World) (v : Value) (f : F) : Prop := ∃ b, v = .pointer (some ⟨b, 0, none⟩) ∧ BrL w [v] f
section
variable {pb B i k n b : Nat} {L : List Tok} {tv lv lv1 u v kv : Value} {e p : Nat × Nat} {lg : List Nat} {w w0 w' w1 w2 w4 : World} {ps : List Value} {ks : F} {kind N : Nat} {s t x : List UInt8} {cs : Array Value} {ty : TypeId} {o : Obj}
theorem below_set {B' : Nat} {W : World} {g j : Nat} (h : Below B' W w) (hg : B' ≤ g) : Below B' W (w.setCell ⟨g, j, none⟩ u) :=
  ⟨h.os, h.tape, h.output, by rw [World.size_setCell]; exact h.size, fun b hb => by rw [Below.heap_setCell _ _ _ _ (by show b ≠ g; omega)]; exact h.block b hb⟩
theorem PRes.up {α : Type} {R : World → Value → α → Prop} {spec : Except Nat (α × Nat × List Nat)} {E : Ending} (h : PRes R spec pb B L tv e lv w0 E w') (hb : Below w.heap.size w w0) : PRes R spec pb B L tv e lv w E w' := by
  cases spec with
  | error j => exact ⟨h.1, (KeepN.of pb lv.ownBlock hb).trans h.2 (.inl rfl)⟩
  | ok r =>
    obtain ⟨v, h1, h2, h3⟩ := h
    exact ⟨v, h1, h2, Went.trans (KeepN.of pb lv.ownBlock hb) (.inl rfl) h3⟩
/-- A box of this call's own stays. -/
theorem Went.boxed (hp : PS pb B L tv e i lg lv w) (hb : Blk w.heap.size cs ty w0) {lg' : List Nat} (h : Went pb B L tv e lv k lg' w0 w') : Blk w.heap.size cs ty w' :=
  keepN_blk h.keep hb (fun e => by have := hp.blk.lt; omega) (fun e => by have := (hp.lrow.lt _ e).2; omega)
theorem made (hb : BrL w1 ps ks) (hn : ps.length = n) (hB : Below (w1.alloc (.cells ps.toArray 55)).heap.size (w1.alloc (.cells ps.toArray 55)) w4)
    (hk : Blk b #[.int .i8 kind, .int .i64 n, .int .i64 N, .string (by_ s), .string (by_ t), .string (by_ x), .int .i64 p.1, .int .i64 p.2, .slice (some ⟨w1.heap.size, 0, none⟩) n n] 88 w4) : BR w4 (.pointer (some ⟨b, 0, none⟩)) (mk kind p ks N s t x) := by
  have hc := BrL.cnt ks hb
  have hb1 : Below w1.heap.size w1 (w1.alloc (.cells ps.toArray 55)) := (Below.refl _ _).alloc (Nat.le_refl _) _
  refine ⟨b, rfl, BrL.mk (kps := ps) (kv := .slice (some ⟨w1.heap.size, 0, none⟩) n n) ?_ ?_ (BrL.kb ks hb (KB.below (below_later hB hb1)))⟩
  · rw [show n = ks.cnt by omega] at hk ⊢
    exact hk
  · exact (kids_lit (Blk.alloc w1 ps.toArray 55) hn).kb (KB.below hB)
theorem made0 (hk : Blk b #[.int .i8 kind, .int .i64 (0 : Nat), .int .i64 N, .string (by_ s), .string (by_ t), .string (by_ x), .int .i64 p.1, .int .i64 p.2, .slice none 0 0] 88 w4) : BR w4 (.pointer (some ⟨b, 0, none⟩)) (mk kind p .nil N s t x) :=
  ⟨b, rfl, BrL.mk (kps := []) (kv := .slice none 0 0) hk kids_nil rfl⟩
theorem blk_set (h : Blk b cs ty w) (j : Nat) (u : Value) : Blk b (cs.setIfInBounds j u) ty (w.setCell ⟨b, j, none⟩ u) := by
  unfold Blk at h ⊢
  simp [World.setCell, Array.getElem?_modify, h]
end
section
variable {pb B i : Nat} {L : List Tok} {tv lv : Value} {e : Nat × Nat} {lg : List Nat} {w : World}
theorem PS.txt (h : PS pb B L tv e i lg lv w) (k : Nat) : (by_ (txt L k)).size ≤ 64 := by
  rw [by_size]
  unfold Gr.txt
  cases hk : L[k]? with
  | none => exact Nat.zero_le _
  | some x => exact h.texts x (List.mem_of_getElem? hk)
theorem param_txt {r : (List UInt8 × List UInt8 × List UInt8) × Nat × List Nat} (h : param L i lg = .ok r) : ∃ a, r.1.1 = txt L a := by
  unfold param at h
  obtain ⟨a, h1, h⟩ := bnd_inv h
  obtain ⟨b, h2, h⟩ := bnd_inv h
  obtain ⟨c, h3, h⟩ := bnd_inv h
  obtain ⟨d, h4, h⟩ := bnd_inv h
  obtain ⟨f, h5, h⟩ := bnd_inv h
  obtain ⟨g, h6, h⟩ := bnd_inv h
  injection h with h
  exact ⟨a, by rw [← h]⟩
end
end Culp.Gr
namespace Go.Proofs.YtnhdbjhdmdefmaaDoor
set_option linter.unusedSimpArgs false
set_option linter.unusedVariables false
open Go.RowKit Culp Culp.Gr
theorem build_p1 (w : World) (a : Nat) : (Instr.buildSlice 86 1 #[(0, .pointer (some ⟨a, 0, none⟩))]).run Tryd.prog w = .ok (.slice (some ⟨w.heap.size, 0, none⟩) 1 1) (w.alloc (.cells #[.pointer (some ⟨a, 0, none⟩)] 55)) := by
  simp [go_sem, Instr.buildSlice, run_underlying Tryd.underlying86]
theorem build_p2 (w : World) (a b : Nat) : (Instr.buildSlice 86 2 #[(0, .pointer (some ⟨a, 0, none⟩)), (1, .pointer (some ⟨b, 0, none⟩))]).run Tryd.prog w = .ok (.slice (some ⟨w.heap.size, 0, none⟩) 2 2) (w.alloc (.cells #[.pointer (some ⟨a, 0, none⟩), .pointer (some ⟨b, 0, none⟩)] 55)) := by
  simp [go_sem, Instr.buildSlice, run_underlying Tryd.underlying86]
theorem build_p3 (w : World) (a b c : Nat) : (Instr.buildSlice 86 3 #[(0, .pointer (some ⟨a, 0, none⟩)), (1, .pointer (some ⟨b, 0, none⟩)), (2, .pointer (some ⟨c, 0, none⟩))]).run Tryd.prog w = .ok (.slice (some ⟨w.heap.size, 0, none⟩) 3 3) (w.alloc (.cells #[.pointer (some ⟨a, 0, none⟩), .pointer (some ⟨b, 0, none⟩), .pointer (some ⟨c, 0, none⟩)] 55)) := by
  simp [go_sem, Instr.buildSlice, run_underlying Tryd.underlying86]
section
variable {pb B : Nat} {L : List Tok} {tv : Value} {e : Nat × Nat}
/-- Expressions, with so much fuel. -/
def ExC (pb B : Nat) (L : List Tok) (tv : Value) (e : Nat × Nat) (n : Nat) : Prop := ∀ (i : Nat) (lg : List Nat) (lv : Value) (w : World), PS pb B L tv e i lg lv w → 8 * (L.length - i) + 7 < n → Calls Tryd.prog 16 #[.pointer (some ⟨pb, 0, none⟩)] w (PRes BR (px L n .expr i lg) pb B L tv e lv w)
set_option maxRecDepth 100000 in
set_option maxHeartbeats 3200000 in
theorem fn_step {n : Nat} (hE : ExC pb B L tv e n) {i : Nat} {lg : List Nat} {lv : Value} {w : World} (h : PS pb B L tv e i lg lv w) (hn : 8 * (L.length - i) + 7 < n) (x y : Nat) :
    Calls Tryd.prog 47 #[.pointer (some ⟨pb, 0, none⟩), .agg #[.int .i64 x, .int .i64 y]] w (PRes BR (bnd (param L i lg) fun r => bnd (px L n .expr r.2.1 r.2.2) fun q => .ok (mk 5 (x, y) q.1 0 r.1.1 r.1.2.1 r.1.2.2, q.2)) pb B L tv e lv w) := by
  have hbb : Below w.heap.size w (w.alloc (.cells #[.int .i64 x, .int .i64 y] 25)) := (Below.refl _ _).alloc (Nat.le_refl _) _
  have HBX : Hid (∀ (k : Nat) (lg' : List Nat) (w' : World), Went pb B L tv e lv k lg' (w.alloc (.cells #[.int .i64 x, .int .i64 y] 25)) w' → Blk w.heap.size #[.int .i64 x, .int .i64 y] 25 w') := Lib.hid fun k lg' w' hw => hw.boxed h (Blk.alloc _ _ _)
  have HW0 := Lib.hid (Went.refl (h.later hbb))
  have hsm := h.small
  have HE := Lib.hid hE
  refine (show Calls Tryd.prog _ _ w (PRes BR _ pb B L tv e lv (w.alloc (.cells #[.int .i64 x, .int .i64 y] 25))) from ?_).mono (fun E w' hr => hr.up hbb)
  clear h hbb hE
  go_enter Tryd.func47, Tryd.ntmps47
  go_wp2_with fail
  (refine (HW0.out.call (R := Str3R) (spec := param L i lg) (fun lv1 h1 => parameter_any h1)).mono ?_)
  rintro E w1 ⟨hr, hkb1⟩
  cases hs1 : param L i lg with
  | error j =>
    rw [hs1] at hr
    obtain ⟨rfl, hk⟩ := hr
    refine ⟨rfl, ?_⟩
    rw [hs1]
    exact ⟨rfl, hk⟩
  | ok r =>
    have hpb := param_bound hs1
    rw [hs1] at hr
    obtain ⟨v, rfl, hv, hw⟩ := hr
    have HW1 := Lib.hid hw
    have HS1 := Lib.hid hs1
    clear hw HW0 hs1
    obtain rfl : v = _ := hv
    go_wp2_with fail
    have bx := HBX.out _ _ _ HW1.out
    have c0 := bx.cell (i := 0) rfl
    have c1 := bx.cell (i := 1) rfl
    clear bx
    refine wp_region_plan (S := fun w' => w'.cell? ⟨w.heap.size, 0, none⟩ = some (.int .i64 x) ∧ w'.cell? ⟨w.heap.size, 1, none⟩ = some (.int .i64 y)) [(0, true), (1, true), (2, false), (3, false), (4, false), (5, true)] (by kernel_rfl) (by kernel_rfl) (by kernel_rfl) (fun _ _ _ _ _ h => h) ⟨c0, c1⟩ ?_
    intro HSc
    repeat (first | (apply wpPlan_look; rfl; rfl; (intro wq hq; (try dsimp only at hq); go_split_ands; go_simp; (try rw [if_neg (by omega)]); (try rw [if_pos (by omega)]); try with_reducible rfl); simp only [Act.put, List.setIfInBounds_toArray, List.set_cons_zero, List.set_cons_succ]) | (apply wpPlan_skip; rfl; rfl; simp only [Act.put, List.setIfInBounds_toArray, List.set_cons_zero, List.set_cons_succ]) | (apply wpPlan_pass; rfl; rfl; assumption; simp only [Act.put, List.setIfInBounds_toArray, List.set_cons_zero, List.set_cons_succ]))
    clear HSc c0 c1
    (apply wpPlan_callS; rfl; rfl; rfl; rfl; kernel_rfl; exact (HW1.out.later ((Below.refl _ _).drew)).call (R := BR) (spec := px L n .expr r.2.1 r.2.2) (fun lv1 h1 => HE.out r.2.1 r.2.2 lv1 _ h1 (by omega)); rfl; rintro E w2 ⟨hr, hkb2⟩)
    cases hs2 : px L n .expr r.2.1 r.2.2 with
    | error j =>
      rw [hs2] at hr
      obtain ⟨rfl, hk⟩ := hr
      refine .inr ⟨_, rfl, rfl, ?_⟩
      rw [HS1.out, bnd_ok,hs2]
      exact ⟨rfl, hk⟩
    | ok q =>
      rw [hs2] at hr
      obtain ⟨v, rfl, ⟨q0, rfl, hbr2⟩, hw⟩ := hr
      have HW2 := Lib.hid hw
      have HS2 := Lib.hid hs2
      have bx := HBX.out _ _ _ hw
      have c0 := bx.cell (i := 0) rfl
      have c1 := bx.cell (i := 1) rfl
      clear bx hw HW1 hs2
      refine .inl ⟨_, rfl, _, fun _ h => h, ⟨c0, c1⟩, ?_⟩
      simp only [Act.put, List.setIfInBounds_toArray, List.set_cons_zero, List.set_cons_succ]
      repeat (first | (apply wpPlan_look; rfl; rfl; (intro wq hq; (try dsimp only at hq); go_split_ands; go_simp; (try rw [if_neg (by omega)]); (try rw [if_pos (by omega)]); try with_reducible rfl); simp only [Act.put, List.setIfInBounds_toArray, List.set_cons_zero, List.set_cons_succ]) | (apply wpPlan_skip; rfl; rfl; simp only [Act.put, List.setIfInBounds_toArray, List.set_cons_zero, List.set_cons_succ]) | (apply wpPlan_pass; rfl; rfl; assumption; simp only [Act.put, List.setIfInBounds_toArray, List.set_cons_zero, List.set_cons_succ]))
      have hbk : Below w2.heap.size w2 (w2.alloc (.cells #[.pointer (some ⟨q0, 0, none⟩)] 55)) := (Below.refl _ _).alloc (Nat.le_refl _) _
      have d0 := cell_later hbk c0
      have d1 := cell_later hbk c1
      refine wpPlan_run rfl rfl (by simp [execOp, go_sem, build_p1, build_p2, build_p3] <;> (first | exact ⟨rfl, rfl⟩ | rfl)) _ (fun _ h => h) ⟨d0, d1⟩ ?_
      simp only [Act.put, List.setIfInBounds_toArray, List.set_cons_zero, List.set_cons_succ]
      repeat (first | (apply wpPlan_look; rfl; rfl; (intro wq hq; (try dsimp only at hq); go_split_ands; go_simp; (try rw [if_neg (by omega)]); (try rw [if_pos (by omega)]); try with_reducible rfl); simp only [Act.put, List.setIfInBounds_toArray, List.set_cons_zero, List.set_cons_succ]) | (apply wpPlan_skip; rfl; rfl; simp only [Act.put, List.setIfInBounds_toArray, List.set_cons_zero, List.set_cons_succ]) | (apply wpPlan_pass; rfl; rfl; assumption; simp only [Act.put, List.setIfInBounds_toArray, List.set_cons_zero, List.set_cons_succ]))
      have HBK := Lib.hid hbk
      clear c0 c1 hbk
      (apply wpPlan_call; rfl; rfl; rfl; rfl; kernel_rfl; exact node_any 5 x y (some ⟨w2.heap.size, 0, none⟩) 1 1 _; rfl; rintro E wn ⟨b, rfl, hle, hbn, hkn⟩)
      have HBN := Lib.hid hbn
      have HKN := Lib.hid hkn
      refine ⟨_, rfl, as_S ⟨cell_later hbn d0, cell_later hbn d1⟩ ?_⟩
      intro HSc
      simp only [Act.put, List.setIfInBounds_toArray, List.set_cons_zero, List.set_cons_succ]
      repeat (first | (apply wpPlan_look; rfl; rfl; (intro wq hq; (try dsimp only at hq); go_split_ands; go_simp; (try rw [if_neg (by omega)]); (try rw [if_pos (by omega)]); try with_reducible rfl); simp only [Act.put, List.setIfInBounds_toArray, List.set_cons_zero, List.set_cons_succ]) | (apply wpPlan_skip; rfl; rfl; simp only [Act.put, List.setIfInBounds_toArray, List.set_cons_zero, List.set_cons_succ]) | (apply wpPlan_pass; rfl; rfl; assumption; simp only [Act.put, List.setIfInBounds_toArray, List.set_cons_zero, List.set_cons_succ]))
      apply wpPlan_done
      clear HSc d0 d1 hbn hkn
      have g3 := HKN.out.cell (i := 3) rfl
      have g4 := HKN.out.cell (i := 4) rfl
      have g5 := HKN.out.cell (i := 5) rfl
      have f3 := HKN.out.free 3
      have f4 := HKN.out.free 4
      have f5 := HKN.out.free 5
      have hk : Blk b #[.int .i8 5, .int .i64 (1 : Nat), .int .i64 0, .string (by_ r.1.1), .string (by_ r.1.2.1), .string (by_ r.1.2.2), .int .i64 x, .int .i64 y, .slice (some ⟨w2.heap.size, 0, none⟩) 1 1] 88 (((wn.setCell ⟨b, 3, none⟩ (.string (by_ r.1.1))).setCell ⟨b, 4, none⟩ (.string (by_ r.1.2.1))).setCell ⟨b, 5, none⟩ (.string (by_ r.1.2.2))) := blk_set (blk_set (blk_set HKN.out 3 _) 4 _) 5 _
      have hbe : Below (w2.alloc (.cells #[.pointer (some ⟨q0, 0, none⟩)] 55)).heap.size (w2.alloc (.cells #[.pointer (some ⟨q0, 0, none⟩)] 55)) (((wn.setCell ⟨b, 3, none⟩ (.string (by_ r.1.1))).setCell ⟨b, 4, none⟩ (.string (by_ r.1.2.1))).setCell ⟨b, 5, none⟩ (.string (by_ r.1.2.2))) := below_set (below_set (below_set HBN.out hle) hle) hle
      have HR : Hid (PRes BR ((bnd (param L i lg) fun r => bnd (px L n .expr r.2.1 r.2.2) fun q => .ok (mk 5 (x, y) q.1 0 r.1.1 r.1.2.1 r.1.2.2, q.2))) pb B L tv e lv (w.alloc (.cells #[.int .i64 x, .int .i64 y] 25)) (.returned (.pointer (some ⟨b, 0, none⟩))) (((wn.setCell ⟨b, 3, none⟩ (.string (by_ r.1.1))).setCell ⟨b, 4, none⟩ (.string (by_ r.1.2.1))).setCell ⟨b, 5, none⟩ (.string (by_ r.1.2.2)))) := Lib.hid (by
        rw [HS1.out, bnd_ok, HS2.out, bnd_ok]
        exact ⟨_, rfl, made (ps := [.pointer (some ⟨q0, 0, none⟩)]) (kind := 5) (N := 0) (p := (x, y)) hbr2 rfl hbe hk, HW2.out.later (below_later hbe ((Below.refl _ _).alloc (Nat.le_refl _) _))⟩)
      clear hk hbe HBN HKN HS1 HS2 HW2 hbr2
      go_wp2_with fail
      go_ret
      exact HR.out
set_option maxRecDepth 100000 in
set_option maxHeartbeats 3200000 in
theorem rec_step {n : Nat} (hE : ExC pb B L tv e n) {i : Nat} {lg : List Nat} {lv : Value} {w : World} (h : PS pb B L tv e i lg lv w) (hn : 8 * (L.length - i) + 7 < n) (x y : Nat) :
    Calls Tryd.prog 48 #[.pointer (some ⟨pb, 0, none⟩), .agg #[.int .i64 x, .int .i64 y]] w (PRes BR (bnd (name L i) fun a => bnd (param L a lg) fun r => bnd (px L n .expr r.2.1 r.2.2) fun q => .ok (mk 6 (x, y) q.1 0 (txt L i ++ 32 :: r.1.1) r.1.2.1 r.1.2.2, q.2)) pb B L tv e lv w) := by
  have HTX := Lib.hid h.txt
  have hbb : Below w.heap.size w (w.alloc (.cells #[.int .i64 x, .int .i64 y] 25)) := (Below.refl _ _).alloc (Nat.le_refl _) _
  have HBX : Hid (∀ (k : Nat) (lg' : List Nat) (w' : World), Went pb B L tv e lv k lg' (w.alloc (.cells #[.int .i64 x, .int .i64 y] 25)) w' → Blk w.heap.size #[.int .i64 x, .int .i64 y] 25 w') := Lib.hid fun k lg' w' hw => hw.boxed h (Blk.alloc _ _ _)
  have HW0 := Lib.hid (Went.refl (h.later hbb))
  have hsm := h.small
  have HE := Lib.hid hE
  refine (show Calls Tryd.prog _ _ w (PRes BR _ pb B L tv e lv (w.alloc (.cells #[.int .i64 x, .int .i64 y] 25))) from ?_).mono (fun E w' hr => hr.up hbb)
  clear h hbb hE
  go_enter Tryd.func48, Tryd.ntmps48
  go_wp2_with fail
  (refine (HW0.out.call (R := TokR L e i) (spec := tokS (name L i) lg) (fun lv1 h1 => name_any h1)).mono ?_)
  rintro E w1 ⟨hr, hkb1⟩
  cases hs1 : name L i with
  | error j =>
    rw [hs1] at hr
    obtain ⟨rfl, hk⟩ := hr
    refine ⟨rfl, ?_⟩
    rw [hs1]
    exact ⟨rfl, hk⟩
  | ok a =>
    have hna := name_inv hs1
    rw [hs1] at hr
    obtain ⟨v, rfl, hv, hw⟩ := hr
    have HW1 := Lib.hid hw
    have HS1 := Lib.hid hs1
    clear hw HW0 hs1
    obtain rfl : v = _ := hv
    obtain ⟨y0, y1, y2, hC⟩ := tokC_lit2 L e i
    rw [hC]
    have hf2 := @field_str
    clear hC
    go_wp2_with fail
    clear hf2
    (refine (HW1.out.call (R := Str3R) (spec := param L a lg) (fun lv1 h1 => parameter_any h1)).mono ?_)
    rintro E w2 ⟨hr, hkb2⟩
    cases hs2 : param L a lg with
    | error j =>
      rw [hs2] at hr
      obtain ⟨rfl, hk⟩ := hr
      refine ⟨rfl, ?_⟩
      rw [HS1.out, bnd_ok,hs2]
      exact ⟨rfl, hk⟩
    | ok r =>
      have hpb := param_bound hs2
      obtain ⟨a2, ha2⟩ := param_txt hs2
      have hz1 := HTX.out i
      have hz2 : (by_ r.1.1).size ≤ 64 := by rw [ha2]; exact HTX.out a2
      clear ha2
      rw [hs2] at hr
      obtain ⟨v, rfl, hv, hw⟩ := hr
      have HW2 := Lib.hid hw
      have HS2 := Lib.hid hs2
      clear hw HW1 hs2
      obtain rfl : v = _ := hv
      go_wp2_with fail
      have bx := HBX.out _ _ _ HW2.out
      have c0 := bx.cell (i := 0) rfl
      have c1 := bx.cell (i := 1) rfl
      clear bx
      refine wp_region_plan (S := fun w' => w'.cell? ⟨w.heap.size, 0, none⟩ = some (.int .i64 x) ∧ w'.cell? ⟨w.heap.size, 1, none⟩ = some (.int .i64 y)) [(0, true), (1, true), (2, false), (3, false), (4, false), (5, true)] (by kernel_rfl) (by kernel_rfl) (by kernel_rfl) (fun _ _ _ _ _ h => h) ⟨c0, c1⟩ ?_
      intro HSc
      repeat (first | (apply wpPlan_look; rfl; rfl; (intro wq hq; (try dsimp only at hq); go_split_ands; go_simp; (try rw [if_neg (by omega)]); (try rw [if_pos (by omega)]); try with_reducible rfl); simp only [Act.put, List.setIfInBounds_toArray, List.set_cons_zero, List.set_cons_succ]) | (apply wpPlan_skip; rfl; rfl; simp only [Act.put, List.setIfInBounds_toArray, List.set_cons_zero, List.set_cons_succ]) | (apply wpPlan_pass; rfl; rfl; assumption; simp only [Act.put, List.setIfInBounds_toArray, List.set_cons_zero, List.set_cons_succ]))
      clear HSc c0 c1
      (apply wpPlan_callS; rfl; rfl; rfl; rfl; kernel_rfl; exact (HW2.out.later ((Below.refl _ _).drew)).call (R := BR) (spec := px L n .expr r.2.1 r.2.2) (fun lv1 h1 => HE.out r.2.1 r.2.2 lv1 _ h1 (by omega)); rfl; rintro E w3 ⟨hr, hkb3⟩)
      cases hs3 : px L n .expr r.2.1 r.2.2 with
      | error j =>
        rw [hs3] at hr
        obtain ⟨rfl, hk⟩ := hr
        refine .inr ⟨_, rfl, rfl, ?_⟩
        rw [HS1.out, bnd_ok, HS2.out, bnd_ok,hs3]
        exact ⟨rfl, hk⟩
      | ok q =>
        rw [hs3] at hr
        obtain ⟨v, rfl, ⟨q0, rfl, hbr3⟩, hw⟩ := hr
        have HW3 := Lib.hid hw
        have HS3 := Lib.hid hs3
        have bx := HBX.out _ _ _ hw
        have c0 := bx.cell (i := 0) rfl
        have c1 := bx.cell (i := 1) rfl
        clear bx hw HW2 hs3
        refine .inl ⟨_, rfl, _, fun _ h => h, ⟨c0, c1⟩, ?_⟩
        simp only [Act.put, List.setIfInBounds_toArray, List.set_cons_zero, List.set_cons_succ]
        repeat (first | (apply wpPlan_look; rfl; rfl; (intro wq hq; (try dsimp only at hq); go_split_ands; go_simp; (try rw [if_neg (by omega)]); (try rw [if_pos (by omega)]); try with_reducible rfl); simp only [Act.put, List.setIfInBounds_toArray, List.set_cons_zero, List.set_cons_succ]) | (apply wpPlan_skip; rfl; rfl; simp only [Act.put, List.setIfInBounds_toArray, List.set_cons_zero, List.set_cons_succ]) | (apply wpPlan_pass; rfl; rfl; assumption; simp only [Act.put, List.setIfInBounds_toArray, List.set_cons_zero, List.set_cons_succ]))
        have hbk : Below w3.heap.size w3 (w3.alloc (.cells #[.pointer (some ⟨q0, 0, none⟩)] 55)) := (Below.refl _ _).alloc (Nat.le_refl _) _
        have d0 := cell_later hbk c0
        have d1 := cell_later hbk c1
        refine wpPlan_run rfl rfl (by simp [execOp, go_sem, build_p1, build_p2, build_p3] <;> (first | exact ⟨rfl, rfl⟩ | rfl)) _ (fun _ h => h) ⟨d0, d1⟩ ?_
        simp only [Act.put, List.setIfInBounds_toArray, List.set_cons_zero, List.set_cons_succ]
        repeat (first | (apply wpPlan_look; rfl; rfl; (intro wq hq; (try dsimp only at hq); go_split_ands; go_simp; (try rw [if_neg (by omega)]); (try rw [if_pos (by omega)]); try with_reducible rfl); simp only [Act.put, List.setIfInBounds_toArray, List.set_cons_zero, List.set_cons_succ]) | (apply wpPlan_skip; rfl; rfl; simp only [Act.put, List.setIfInBounds_toArray, List.set_cons_zero, List.set_cons_succ]) | (apply wpPlan_pass; rfl; rfl; assumption; simp only [Act.put, List.setIfInBounds_toArray, List.set_cons_zero, List.set_cons_succ]))
        have HBK := Lib.hid hbk
        clear c0 c1 hbk
        (apply wpPlan_call; rfl; rfl; rfl; rfl; kernel_rfl; exact node_any 6 x y (some ⟨w3.heap.size, 0, none⟩) 1 1 _; rfl; rintro E wn ⟨b, rfl, hle, hbn, hkn⟩)
        have HBN := Lib.hid hbn
        have HKN := Lib.hid hkn
        refine ⟨_, rfl, as_S ⟨cell_later hbn d0, cell_later hbn d1⟩ ?_⟩
        intro HSc
        simp only [Act.put, List.setIfInBounds_toArray, List.set_cons_zero, List.set_cons_succ]
        repeat (first | (apply wpPlan_look; rfl; rfl; (intro wq hq; (try dsimp only at hq); go_split_ands; go_simp; (try rw [if_neg (by omega)]); (try rw [if_pos (by omega)]); try with_reducible rfl); simp only [Act.put, List.setIfInBounds_toArray, List.set_cons_zero, List.set_cons_succ]) | (apply wpPlan_skip; rfl; rfl; simp only [Act.put, List.setIfInBounds_toArray, List.set_cons_zero, List.set_cons_succ]) | (apply wpPlan_pass; rfl; rfl; assumption; simp only [Act.put, List.setIfInBounds_toArray, List.set_cons_zero, List.set_cons_succ]))
        apply wpPlan_done
        clear HSc d0 d1 hbn hkn
        have g3 := HKN.out.cell (i := 3) rfl
        have g4 := HKN.out.cell (i := 4) rfl
        have g5 := HKN.out.cell (i := 5) rfl
        have f3 := HKN.out.free 3
        have f4 := HKN.out.free 4
        have f5 := HKN.out.free 5
        have ec : by_ (txt L i) ++ { data := #[32] } ++ by_ r.1.1 = by_ (txt L i ++ 32 :: r.1.1) := by
          rw [show ({ data := #[32] } : ByteArray) = by_ [32] from rfl, by_app, by_app, List.append_assoc]; rfl
        have hkx := blk_set (blk_set (blk_set HKN.out 3 (.string (by_ (txt L i ++ 32 :: r.1.1)))) 4 (.string (by_ r.1.2.1))) 5 (.string (by_ r.1.2.2))
        have EC := Lib.hid ec
        clear ec
        have hk : Blk b #[.int .i8 6, .int .i64 (1 : Nat), .int .i64 0, .string (by_ (txt L i ++ 32 :: r.1.1)), .string (by_ r.1.2.1), .string (by_ r.1.2.2), .int .i64 x, .int .i64 y, .slice (some ⟨w3.heap.size, 0, none⟩) 1 1] 88 (((wn.setCell ⟨b, 3, none⟩ (.string (by_ (txt L i ++ 32 :: r.1.1)))).setCell ⟨b, 4, none⟩ (.string (by_ r.1.2.1))).setCell ⟨b, 5, none⟩ (.string (by_ r.1.2.2))) := hkx
        have hbe : Below (w3.alloc (.cells #[.pointer (some ⟨q0, 0, none⟩)] 55)).heap.size (w3.alloc (.cells #[.pointer (some ⟨q0, 0, none⟩)] 55)) (((wn.setCell ⟨b, 3, none⟩ (.string (by_ (txt L i ++ 32 :: r.1.1)))).setCell ⟨b, 4, none⟩ (.string (by_ r.1.2.1))).setCell ⟨b, 5, none⟩ (.string (by_ r.1.2.2))) := below_set (below_set (below_set HBN.out hle) hle) hle
        have HR : Hid (PRes BR ((bnd (name L i) fun a => bnd (param L a lg) fun r => bnd (px L n .expr r.2.1 r.2.2) fun q => .ok (mk 6 (x, y) q.1 0 (txt L i ++ 32 :: r.1.1) r.1.2.1 r.1.2.2, q.2))) pb B L tv e lv (w.alloc (.cells #[.int .i64 x, .int .i64 y] 25)) (.returned (.pointer (some ⟨b, 0, none⟩))) (((wn.setCell ⟨b, 3, none⟩ (.string (by_ (txt L i ++ 32 :: r.1.1)))).setCell ⟨b, 4, none⟩ (.string (by_ r.1.2.1))).setCell ⟨b, 5, none⟩ (.string (by_ r.1.2.2)))) := Lib.hid (by
          rw [HS1.out, bnd_ok, HS2.out, bnd_ok, HS3.out, bnd_ok]
          exact ⟨_, rfl, made (ps := [.pointer (some ⟨q0, 0, none⟩)]) (kind := 6) (N := 0) (p := (x, y)) hbr3 rfl hbe hk, HW3.out.later (below_later hbe ((Below.refl _ _).alloc (Nat.le_refl _) _))⟩)
        clear hk hbe hkx HBN HKN HS1 HS2 HS3 HW3 hbr3
        go_wp2_with fail
        go_ret
        rw [EC.out]
        exact HR.out
end
end Go.Proofs.YtnhdbjhdmdefmaaDoor

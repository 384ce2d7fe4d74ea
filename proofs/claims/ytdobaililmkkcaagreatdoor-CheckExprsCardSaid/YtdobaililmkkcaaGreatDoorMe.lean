
/- Walks of the document's checker: the table's rows that ask what must fit; the table. -/
import Derived.Test.YtdobaililmkkcaaGreatDoorMd
namespace Culp.Tr
set_option linter.unusedSimpArgs false
set_option linter.unusedVariables false
def ifG (same : Bool) (p p0 : Nat) (t0 t1 : Ty) (K : List (Nat × Ty)) : Except Bad Ty := match fitT same t0 .bool 23 p0 with
  | .error b => .error b
  | .ok _ => meetsT same p t1 K
def callG (same : Bool) (p0 : Nat) (t0 : Ty) (p1 : Nat) (t1 : Ty) : Except Bad Ty := fitG same (thenPart (partT p0 t0 62 0) p0 t0 62 1) t1 (tyQ (partT p0 t0 62 0)) 23 p1
theorem fitG_goodT {α : Type} {same : Bool} {R : Except Bad α} {s t : Ty} {p : Nat} (h : Good R) : Good (fitG same R s t 23 p) := fitG_good h (by decide)
end Culp.Tr
namespace Go.Proofs.YtdobaililmkkcaaGreatDoor
set_option linter.unusedSimpArgs false
set_option linter.unusedVariables false
open Go.RowKit Culp
section
variable (c B : Nat) (sm : Bool) (tv yv : Value) (ys : List ByteArray) (a : Nat) (w : World)
variable (p : Nat) (x : Nd) (p0 p1 p2 : Nat) (t0 t1 t2 : Ty) (K : List (Nat × Ty)) (kv : Value)
set_option maxRecDepth 100000 in
set_option maxHeartbeats 1600000 in
theorem rdata_29 (hk : x.kind = 29) (hK : KidsV c w kv (((p0, t0) :: K).map Prod.fst)) (hT : Told ys ((p0, t0) :: K)) (h : RkAt c B sm tv yv ys 0 a w) (T : Ty) (hx : x.t = T.str) (hTf : T.fits):
    Calls Tryz.prog 109 #[.pointer (some ⟨c, 0, none⟩), .int .i64 (p : Int), x.val, kv] w (RkRule c B sm tv yv ys a (Tr.fitG sm (.ok T) t0 T 23 p) w) := by
  have HT0 := Lib.hid (hT _ List.mem_cons_self)
  have HF := Lib.hid (fun w' h' => rfitsR c B sm tv yv ys a w' (.ok T) (Tr.good_ok _) 23 p t0 T HT0.out.2 hTf (by decide) h')
  have HG := Lib.hid (Tr.fitG_goodT (same := sm) (R := .ok T) (s := t0) (t := T) (p := p) (Tr.good_ok _))
  have HV := Lib.hid (fun v (h : Tr.fitG sm (.ok T) t0 T 23 p = .ok v) => Tr.fitG_ok h)
  rw [show ((23 : Nat) : Int) = 23 from rfl, ← hx] at HF
  have HX0 := Lib.hid hx
  clear hx
  generalize Tr.fitG sm (.ok T) t0 T 23 p = R at *
  obtain ⟨k, kd, n, s, t, u, l, cl⟩ := x
  obtain rfl : k = 29 := hk
  obtain ⟨g, o, C, rfl, hlC, hg, hkc⟩ := hK.shape
  have HKV := Lib.hid hkc
  have hb0 : Below w.heap.size w (w.alloc (.cells #[.int .i8 29, .int .i64 kd, .int .i64 n, .string s, .string t, .string u, .int .i64 l, .int .i64 cl] 64)) := (Below.refl _ _).alloc (Nat.le_refl _) _
  have HX : Hid (Box w.heap.size (Nd.mk 29 kd n s t u l cl) (w.alloc (.cells #[.int .i8 29, .int .i64 kd, .int .i64 n, .string s, .string t, .string u, .int .i64 l, .int .i64 cl] 64))) := Lib.hid (MapKept.heap_alloc w _).1
  have HC1 := Lib.hid (h.later hb0)
  have HK1 : Hid (Keep c w (w.alloc (.cells #[.int .i8 29, .int .i64 kd, .int .i64 n, .string s, .string t, .string u, .int .i64 l, .int .i64 cl] 64))) := Lib.hid (Keep.of hb0)
  have HCW : Hid (w.heap.size ≠ c) := Lib.hid (by have := h.lt; omega)
  have x0 : ((w.alloc (.cells #[.int .i8 29, .int .i64 kd, .int .i64 n, .string s, .string t, .string u, .int .i64 l, .int .i64 cl] 64))).cell? ⟨w.heap.size, 0, none⟩ = some (.int .i8 29) := HX.out.cell 0
  have x4 : ((w.alloc (.cells #[.int .i8 29, .int .i64 kd, .int .i64 n, .string s, .string t, .string u, .int .i64 l, .int .i64 cl] 64))).cell? ⟨w.heap.size, 4, none⟩ = some (.string t) := HX.out.cell 4
  have x5 : ((w.alloc (.cells #[.int .i8 29, .int .i64 kd, .int .i64 n, .string s, .string t, .string u, .int .i64 l, .int .i64 cl] 64))).cell? ⟨w.heap.size, 5, none⟩ = some (.string u) := HX.out.cell 5
  show Calls Tryz.prog _ #[_, _, .agg #[.int .i8 29, .int .i64 kd, .int .i64 n, .string s, .string t, .string u, .int .i64 l, .int .i64 cl], _] w _
  have hlm : (((p0, t0) :: K : List (Nat × Ty)).map Prod.fst).length = ((p0, t0) :: K : List (Nat × Ty)).length := List.length_map _
  rw [hlm] at hlC ⊢
  clear h hkc hlm hK hb0
  have q0 := HKV.out _ HK1.out 0 p0 rfl
  rw [Nat.add_zero] at q0
  obtain ⟨gy, Cy, rfl, r0, hl0, -⟩ := HC1.out.read HT0.out.1
  have c1 := HC1.out.c1
  go_enter Tryz.func109, Tryz.ntmps109
  go_wp2_with fail
  refine wp_region_plan (S := fun w' => w'.cell? ⟨c, 1, none⟩ = some (.slice (some ⟨gy, 0, none⟩) ys.length Cy) ∧ w'.cell? ⟨g, o, none⟩ = some (.int .i64 (p0 : Int)) ∧ w'.cell? ⟨gy, p0, none⟩ = some (.string t0.str) ∧ w'.cell? ⟨w.heap.size, 4, none⟩ = some (.string t)) [(0, true), (1, true), (2, true), (3, true), (4, true), (5, true), (6, true), (7, true), (8, true), (9, true), (10, true), (11, true), (12, true), (13, false)] (by kernel_rfl) (by kernel_rfl) (by kernel_rfl) (fun _ _ _ _ _ h => h) ⟨c1, q0, r0, x4⟩ ?_
  intro HS
  repeat (first | (apply wpPlan_look; rfl; rfl; (intro wq hq; (try dsimp only at hq); go_split_ands; go_simp; (try rw [if_neg (by omega)]); (try rw [if_pos (by omega)]); try with_reducible rfl); simp only [Act.put, List.setIfInBounds_toArray, List.set_cons_zero, List.set_cons_succ]) | (apply wpPlan_skip; rfl; rfl; simp only [Act.put, List.setIfInBounds_toArray, List.set_cons_zero, List.set_cons_succ]) | (apply wpPlan_pass; rfl; rfl; assumption; simp only [Act.put, List.setIfInBounds_toArray, List.set_cons_zero, List.set_cons_succ]))
  apply wpPlan_call; rfl; rfl; rfl; rfl; kernel_rfl; exact HF.out _ (HC1.out.later (below_dn _ _)); rfl; rintro E w5 ⟨rfl, h5, k5⟩
  have y4 := k5.cell HS.2.2.2 HCW.out
  refine ⟨_, rfl, as_S ⟨h5.c1, k5.cell HS.2.1 hg, h5.cell HT0.out.1, y4⟩ ?_⟩
  intro _
  have HC5 := Lib.hid h5
  have HK5 := Lib.hid (HK1.out.trans ((Keep.of (below_dn _ _)).trans k5))
  simp only [Act.put, List.setIfInBounds_toArray, List.set_cons_zero, List.set_cons_succ]
  repeat (first | (apply wpPlan_look; rfl; rfl; (intro wq hq; (try dsimp only at hq); go_split_ands; go_simp; (try rw [if_neg (by omega)]); (try rw [if_pos (by omega)]); try with_reducible rfl); simp only [Act.put, List.setIfInBounds_toArray, List.set_cons_zero, List.set_cons_succ]) | (apply wpPlan_skip; rfl; rfl; simp only [Act.put, List.setIfInBounds_toArray, List.set_cons_zero, List.set_cons_succ]) | (apply wpPlan_pass; rfl; rfl; assumption; simp only [Act.put, List.setIfInBounds_toArray, List.set_cons_zero, List.set_cons_succ]))
  apply wpPlan_done
  clear h5 k5 HS c1 q0 r0 x0 x4 x5 HF
  go_wp2_with fail
  go_ret
  exact RkRule.mk HG.out (fun v hv => by have := HV.out v hv; injection this with this; subst this; exact HX0.out) HK5.out HC5.out
set_option maxRecDepth 100000 in
set_option maxHeartbeats 1600000 in
theorem rdata_25 (hk : x.kind = 25) (hK : KidsV c w kv (([(p0, t0), (p1, t1)]).map Prod.fst)) (hT : Told ys ([(p0, t0), (p1, t1)])) (h : RkAt c B sm tv yv ys 0 a w) :
    Calls Tryz.prog 109 #[.pointer (some ⟨c, 0, none⟩), .int .i64 (p : Int), x.val, kv] w (RkRule c B sm tv yv ys a ((Tr.fitG sm (Tr.partT p1 t1 108 0) t0 (Tr.tyQ (Tr.partT p1 t1 108 0)) 23 p0).map .list) w) := by
  have HT0 := Lib.hid (hT _ List.mem_cons_self)
  have HT1 := Lib.hid (hT (p1, t1) (by simp))
  have HM := Lib.hid (fun w' h' => rhead_any c B sm tv yv ys a w' p1 0 t1 HT1.out.2 108 (.inr ⟨.inl rfl, by decide⟩) HT1.out.1 h')
  have hG1 := Tr.partT_good p1 t1 108 0
  have hF1 := Tr.partT_fits (p := p1) (h := 108) (k := 0) HT1.out.2
  generalize Tr.partT p1 t1 108 0 = R1 at *
  have hz := Tr.strQ_size hF1
  have HF := Lib.hid (fun w' h' => rfitsR c B sm tv yv ys a w' R1 hG1 23 p0 t0 (Tr.tyQ R1) HT0.out.2 (Tr.tyQ_fits hF1) (by decide) h')
  have HG := Lib.hid (Tr.fitG_goodT (same := sm) (R := R1) (s := t0) (t := Tr.tyQ R1) (p := p0) hG1)
  have HV := Lib.hid (fun v (h : Tr.fitG sm R1 t0 (Tr.tyQ R1) 23 p0 = .ok v) => Tr.fitG_ok h)
  rw [show ((23 : Nat) : Int) = 23 from rfl, ← Tr.strQ_ty] at HF
  clear hG1 hF1
  generalize Tr.fitG sm R1 t0 (Tr.tyQ R1) 23 p0 = R at *
  obtain ⟨k, kd, n, s, t, u, l, cl⟩ := x
  obtain rfl : k = 25 := hk
  obtain ⟨g, o, C, rfl, hlC, hg, hkc⟩ := hK.shape
  have HKV := Lib.hid hkc
  have hb0 : Below w.heap.size w (w.alloc (.cells #[.int .i8 25, .int .i64 kd, .int .i64 n, .string s, .string t, .string u, .int .i64 l, .int .i64 cl] 64)) := (Below.refl _ _).alloc (Nat.le_refl _) _
  have HX : Hid (Box w.heap.size (Nd.mk 25 kd n s t u l cl) (w.alloc (.cells #[.int .i8 25, .int .i64 kd, .int .i64 n, .string s, .string t, .string u, .int .i64 l, .int .i64 cl] 64))) := Lib.hid (MapKept.heap_alloc w _).1
  have HC1 := Lib.hid (h.later hb0)
  have HK1 : Hid (Keep c w (w.alloc (.cells #[.int .i8 25, .int .i64 kd, .int .i64 n, .string s, .string t, .string u, .int .i64 l, .int .i64 cl] 64))) := Lib.hid (Keep.of hb0)
  have HCW : Hid (w.heap.size ≠ c) := Lib.hid (by have := h.lt; omega)
  have x0 : ((w.alloc (.cells #[.int .i8 25, .int .i64 kd, .int .i64 n, .string s, .string t, .string u, .int .i64 l, .int .i64 cl] 64))).cell? ⟨w.heap.size, 0, none⟩ = some (.int .i8 25) := HX.out.cell 0
  have x4 : ((w.alloc (.cells #[.int .i8 25, .int .i64 kd, .int .i64 n, .string s, .string t, .string u, .int .i64 l, .int .i64 cl] 64))).cell? ⟨w.heap.size, 4, none⟩ = some (.string t) := HX.out.cell 4
  have x5 : ((w.alloc (.cells #[.int .i8 25, .int .i64 kd, .int .i64 n, .string s, .string t, .string u, .int .i64 l, .int .i64 cl] 64))).cell? ⟨w.heap.size, 5, none⟩ = some (.string u) := HX.out.cell 5
  show Calls Tryz.prog _ #[_, _, .agg #[.int .i8 25, .int .i64 kd, .int .i64 n, .string s, .string t, .string u, .int .i64 l, .int .i64 cl], _] w _
  have hlm : (([(p0, t0), (p1, t1)] : List (Nat × Ty)).map Prod.fst).length = ([(p0, t0), (p1, t1)] : List (Nat × Ty)).length := List.length_map _
  rw [hlm] at hlC ⊢
  clear h hkc hlm hK hb0
  have q1 := HKV.out _ HK1.out 1 p1 rfl
  go_enter Tryz.func109, Tryz.ntmps109
  go_wp2_with fail
  refine (HM.out _ HC1.out).mono ?_
  rintro E w2 ⟨rfl, h2, k2⟩
  have HC2 := Lib.hid h2
  have HK2 := Lib.hid (HK1.out.trans k2)
  clear h2 k2 x0 x4 x5 q1
  obtain ⟨gy, Cy, rfl, r0, hl0, -⟩ := HC2.out.read HT0.out.1
  have c1 := HC2.out.c1
  have q0 := HKV.out _ HK2.out 0 p0 rfl
  rw [Nat.add_zero] at q0
  go_wp2_with fail
  refine wp_region_plan (S := fun w' => w'.cell? ⟨c, 1, none⟩ = some (.slice (some ⟨gy, 0, none⟩) ys.length Cy) ∧ w'.cell? ⟨g, o, none⟩ = some (.int .i64 (p0 : Int)) ∧ w'.cell? ⟨gy, p0, none⟩ = some (.string t0.str)) [(0, true), (1, true), (2, true), (3, true), (4, true), (5, true), (6, true), (7, true), (8, true), (9, true), (10, true), (11, true), (12, true), (13, true), (14, false)] (by kernel_rfl) (by kernel_rfl) (by kernel_rfl) (fun _ _ _ _ _ h => h) ⟨c1, q0, r0⟩ ?_
  intro HS
  repeat (first | (apply wpPlan_look; rfl; rfl; (intro wq hq; (try dsimp only at hq); go_split_ands; go_simp; (try rw [if_neg (by omega)]); (try rw [if_pos (by omega)]); try with_reducible rfl); simp only [Act.put, List.setIfInBounds_toArray, List.set_cons_zero, List.set_cons_succ]) | (apply wpPlan_skip; rfl; rfl; simp only [Act.put, List.setIfInBounds_toArray, List.set_cons_zero, List.set_cons_succ]) | (apply wpPlan_pass; rfl; rfl; assumption; simp only [Act.put, List.setIfInBounds_toArray, List.set_cons_zero, List.set_cons_succ]))
  apply wpPlan_call; rfl; rfl; rfl; rfl; kernel_rfl; exact HF.out _ (HC2.out.later (below_dn _ _)); rfl; rintro E w5 ⟨rfl, h5, k5⟩
  refine ⟨_, rfl, as_S ⟨h5.c1, k5.cell HS.2.1 hg, h5.cell HT0.out.1⟩ ?_⟩
  intro _
  have HC5 := Lib.hid h5
  have HK5 := Lib.hid (HK2.out.trans ((Keep.of (below_dn _ _)).trans k5))
  simp only [Act.put, List.setIfInBounds_toArray, List.set_cons_zero, List.set_cons_succ]
  repeat (first | (apply wpPlan_look; rfl; rfl; (intro wq hq; (try dsimp only at hq); go_split_ands; go_simp; (try rw [if_neg (by omega)]); (try rw [if_pos (by omega)]); try with_reducible rfl); simp only [Act.put, List.setIfInBounds_toArray, List.set_cons_zero, List.set_cons_succ]) | (apply wpPlan_skip; rfl; rfl; simp only [Act.put, List.setIfInBounds_toArray, List.set_cons_zero, List.set_cons_succ]) | (apply wpPlan_pass; rfl; rfl; assumption; simp only [Act.put, List.setIfInBounds_toArray, List.set_cons_zero, List.set_cons_succ]))
  apply wpPlan_done
  clear h5 k5 HS c1 q0 r0 HF
  go_wp2_with fail
  go_ret
  exact RkRule.mkM HG.out (fun v hv => by rw [HV.out v hv]; exact list_str _) HK5.out HC5.out
set_option maxRecDepth 100000 in
set_option maxHeartbeats 1600000 in
theorem rdata_28 (hk : x.kind = 28) (hK : KidsV c w kv (([(p0, t0), (p1, t1)]).map Prod.fst)) (hT : Told ys ([(p0, t0), (p1, t1)])) (h : RkAt c B sm tv yv ys 0 a w) :
    Calls Tryz.prog 109 #[.pointer (some ⟨c, 0, none⟩), .int .i64 (p : Int), x.val, kv] w (RkRule c B sm tv yv ys a (Tr.fitG sm (Tr.partT p0 t0 120 0) t1 (Tr.tyQ (Tr.partT p0 t0 120 0)) 23 p1) w) := by
  have HT0 := Lib.hid (hT _ List.mem_cons_self)
  have HT1 := Lib.hid (hT (p1, t1) (by simp))
  have HM := Lib.hid (fun w' h' => rhead_any c B sm tv yv ys a w' p0 0 t0 HT0.out.2 120 (.inr ⟨.inr rfl, by decide⟩) HT0.out.1 h')
  have hG1 := Tr.partT_good p0 t0 120 0
  have hF1 := Tr.partT_fits (p := p0) (h := 120) (k := 0) HT0.out.2
  generalize Tr.partT p0 t0 120 0 = R1 at *
  have HF := Lib.hid (fun w' h' => rfitsR c B sm tv yv ys a w' R1 hG1 23 p1 t1 (Tr.tyQ R1) HT1.out.2 (Tr.tyQ_fits hF1) (by decide) h')
  have HG := Lib.hid (Tr.fitG_goodT (same := sm) (R := R1) (s := t1) (t := Tr.tyQ R1) (p := p1) hG1)
  have HV := Lib.hid (fun v (h : Tr.fitG sm R1 t1 (Tr.tyQ R1) 23 p1 = .ok v) => Tr.fitG_ok h)
  rw [show ((23 : Nat) : Int) = 23 from rfl, ← Tr.strQ_ty] at HF
  clear hG1 hF1
  generalize Tr.fitG sm R1 t1 (Tr.tyQ R1) 23 p1 = R at *
  obtain ⟨k, kd, n, s, t, u, l, cl⟩ := x
  obtain rfl : k = 28 := hk
  obtain ⟨g, o, C, rfl, hlC, hg, hkc⟩ := hK.shape
  have HKV := Lib.hid hkc
  have hb0 : Below w.heap.size w (w.alloc (.cells #[.int .i8 28, .int .i64 kd, .int .i64 n, .string s, .string t, .string u, .int .i64 l, .int .i64 cl] 64)) := (Below.refl _ _).alloc (Nat.le_refl _) _
  have HX : Hid (Box w.heap.size (Nd.mk 28 kd n s t u l cl) (w.alloc (.cells #[.int .i8 28, .int .i64 kd, .int .i64 n, .string s, .string t, .string u, .int .i64 l, .int .i64 cl] 64))) := Lib.hid (MapKept.heap_alloc w _).1
  have HC1 := Lib.hid (h.later hb0)
  have HK1 : Hid (Keep c w (w.alloc (.cells #[.int .i8 28, .int .i64 kd, .int .i64 n, .string s, .string t, .string u, .int .i64 l, .int .i64 cl] 64))) := Lib.hid (Keep.of hb0)
  have HCW : Hid (w.heap.size ≠ c) := Lib.hid (by have := h.lt; omega)
  have x0 : ((w.alloc (.cells #[.int .i8 28, .int .i64 kd, .int .i64 n, .string s, .string t, .string u, .int .i64 l, .int .i64 cl] 64))).cell? ⟨w.heap.size, 0, none⟩ = some (.int .i8 28) := HX.out.cell 0
  have x4 : ((w.alloc (.cells #[.int .i8 28, .int .i64 kd, .int .i64 n, .string s, .string t, .string u, .int .i64 l, .int .i64 cl] 64))).cell? ⟨w.heap.size, 4, none⟩ = some (.string t) := HX.out.cell 4
  have x5 : ((w.alloc (.cells #[.int .i8 28, .int .i64 kd, .int .i64 n, .string s, .string t, .string u, .int .i64 l, .int .i64 cl] 64))).cell? ⟨w.heap.size, 5, none⟩ = some (.string u) := HX.out.cell 5
  show Calls Tryz.prog _ #[_, _, .agg #[.int .i8 28, .int .i64 kd, .int .i64 n, .string s, .string t, .string u, .int .i64 l, .int .i64 cl], _] w _
  have hlm : (([(p0, t0), (p1, t1)] : List (Nat × Ty)).map Prod.fst).length = ([(p0, t0), (p1, t1)] : List (Nat × Ty)).length := List.length_map _
  rw [hlm] at hlC ⊢
  clear h hkc hlm hK hb0
  have q0 := HKV.out _ HK1.out 0 p0 rfl
  rw [Nat.add_zero] at q0
  go_enter Tryz.func109, Tryz.ntmps109
  go_wp2_with fail
  refine (HM.out _ HC1.out).mono ?_
  rintro E w2 ⟨rfl, h2, k2⟩
  have HC2 := Lib.hid h2
  have HK2 := Lib.hid (HK1.out.trans k2)
  clear h2 k2 x0 x4 x5 q0
  obtain ⟨gy, Cy, rfl, r1, hl1, -⟩ := HC2.out.read HT1.out.1
  have c1 := HC2.out.c1
  have q1 := HKV.out _ HK2.out 1 p1 rfl
  go_wp2_with fail
  refine wp_region_plan (S := fun w' => w'.cell? ⟨c, 1, none⟩ = some (.slice (some ⟨gy, 0, none⟩) ys.length Cy) ∧ w'.cell? ⟨g, o + 1, none⟩ = some (.int .i64 (p1 : Int)) ∧ w'.cell? ⟨gy, p1, none⟩ = some (.string t1.str)) [(0, true), (1, true), (2, true), (3, true), (4, true), (5, true), (6, true), (7, true), (8, true), (9, true), (10, true), (11, true), (12, true), (13, true), (14, false)] (by kernel_rfl) (by kernel_rfl) (by kernel_rfl) (fun _ _ _ _ _ h => h) ⟨c1, q1, r1⟩ ?_
  intro HS
  repeat (first | (apply wpPlan_look; rfl; rfl; (intro wq hq; (try dsimp only at hq); go_split_ands; go_simp; (try rw [if_neg (by omega)]); (try rw [if_pos (by omega)]); try with_reducible rfl); simp only [Act.put, List.setIfInBounds_toArray, List.set_cons_zero, List.set_cons_succ]) | (apply wpPlan_skip; rfl; rfl; simp only [Act.put, List.setIfInBounds_toArray, List.set_cons_zero, List.set_cons_succ]) | (apply wpPlan_pass; rfl; rfl; assumption; simp only [Act.put, List.setIfInBounds_toArray, List.set_cons_zero, List.set_cons_succ]))
  apply wpPlan_call; rfl; rfl; rfl; rfl; kernel_rfl; exact HF.out _ (HC2.out.later (below_dn _ _)); rfl; rintro E w5 ⟨rfl, h5, k5⟩
  refine ⟨_, rfl, as_S ⟨h5.c1, k5.cell HS.2.1 hg, h5.cell HT1.out.1⟩ ?_⟩
  intro _
  have HC5 := Lib.hid h5
  have HK5 := Lib.hid (HK2.out.trans ((Keep.of (below_dn _ _)).trans k5))
  simp only [Act.put, List.setIfInBounds_toArray, List.set_cons_zero, List.set_cons_succ]
  repeat (first | (apply wpPlan_look; rfl; rfl; (intro wq hq; (try dsimp only at hq); go_split_ands; go_simp; (try rw [if_neg (by omega)]); (try rw [if_pos (by omega)]); try with_reducible rfl); simp only [Act.put, List.setIfInBounds_toArray, List.set_cons_zero, List.set_cons_succ]) | (apply wpPlan_skip; rfl; rfl; simp only [Act.put, List.setIfInBounds_toArray, List.set_cons_zero, List.set_cons_succ]) | (apply wpPlan_pass; rfl; rfl; assumption; simp only [Act.put, List.setIfInBounds_toArray, List.set_cons_zero, List.set_cons_succ]))
  apply wpPlan_done
  clear h5 k5 HS c1 q1 r1 HF
  go_wp2_with fail
  go_ret
  exact RkRule.mk HG.out (fun v hv => by rw [HV.out v hv]; rfl) HK5.out HC5.out
variable (iv : Value)
set_option maxRecDepth 100000 in
set_option maxHeartbeats 1600000 in
theorem rrule_10 (hk : x.kind = 10) (hK : KidsV c w kv ((K).map Prod.fst)) (hT : Told ys (K)) (h : RkAt c B sm tv yv ys 0 a w) (hKl : K.length ≤ 1000000):
    Calls Tryz.prog 87 #[.pointer (some ⟨c, 0, none⟩), .int .i64 (p : Int), x.val, kv, iv] w (RkRule c B sm tv yv ys a ((Tr.eachT sm .int K).map fun _ => .int) w) := by
  have HM : Hid (∀ v w', RkAt c B sm tv yv ys 0 a w' → KidsV c w' v (K.map Prod.fst) → Calls Tryz.prog 108 #[.pointer (some ⟨c, 0, none⟩), v, .string { data := #[105] }] w' (RkRes (.tuple #[]) c B sm tv yv ys (Tr.stE (Tr.eachT sm .int K)) (Tr.stA a (Tr.eachT sm .int K)) w')) := Lib.hid (fun v w' h' hk' => reach_any c B sm tv yv ys a w' .int (by unfold Ty.fits; decide) K v hk' hT hKl h')
  have HG := Lib.hid (Tr.eachT_good sm .int K)
  have HKV4 : Hid (∀ w', Keep c w w' → KidsV c w' kv (K.map Prod.fst)) := Lib.hid (fun w' k => hK.keep k)
  generalize Tr.eachT sm .int K = R at *
  obtain ⟨k, kd, n, s, t, u, l, cl⟩ := x
  obtain rfl : k = 10 := hk
  obtain ⟨g, o, C, rfl, hlC, hg, hkc⟩ := hK.shape
  have HKV := Lib.hid hkc
  have hb0 : Below w.heap.size w (w.alloc (.cells #[.int .i8 10, .int .i64 kd, .int .i64 n, .string s, .string t, .string u, .int .i64 l, .int .i64 cl] 64)) := (Below.refl _ _).alloc (Nat.le_refl _) _
  have HX : Hid (Box w.heap.size (Nd.mk 10 kd n s t u l cl) (w.alloc (.cells #[.int .i8 10, .int .i64 kd, .int .i64 n, .string s, .string t, .string u, .int .i64 l, .int .i64 cl] 64))) := Lib.hid (MapKept.heap_alloc w _).1
  have HC1 := Lib.hid (h.later hb0)
  have HK1 : Hid (Keep c w (w.alloc (.cells #[.int .i8 10, .int .i64 kd, .int .i64 n, .string s, .string t, .string u, .int .i64 l, .int .i64 cl] 64))) := Lib.hid (Keep.of hb0)
  have HCW : Hid (w.heap.size ≠ c) := Lib.hid (by have := h.lt; omega)
  have x0 : ((w.alloc (.cells #[.int .i8 10, .int .i64 kd, .int .i64 n, .string s, .string t, .string u, .int .i64 l, .int .i64 cl] 64))).cell? ⟨w.heap.size, 0, none⟩ = some (.int .i8 10) := HX.out.cell 0
  have x4 : ((w.alloc (.cells #[.int .i8 10, .int .i64 kd, .int .i64 n, .string s, .string t, .string u, .int .i64 l, .int .i64 cl] 64))).cell? ⟨w.heap.size, 4, none⟩ = some (.string t) := HX.out.cell 4
  have x5 : ((w.alloc (.cells #[.int .i8 10, .int .i64 kd, .int .i64 n, .string s, .string t, .string u, .int .i64 l, .int .i64 cl] 64))).cell? ⟨w.heap.size, 5, none⟩ = some (.string u) := HX.out.cell 5
  show Calls Tryz.prog _ #[_, _, .agg #[.int .i8 10, .int .i64 kd, .int .i64 n, .string s, .string t, .string u, .int .i64 l, .int .i64 cl], _, _] w _
  have hlm : ((K : List (Nat × Ty)).map Prod.fst).length = (K : List (Nat × Ty)).length := List.length_map _
  rw [hlm] at hlC ⊢
  clear h hkc hlm hK hb0
  rw [show (K.map Prod.fst).length = K.length from List.length_map _] at HKV4
  have HMM := Lib.hid (HM.out _ _ HC1.out (HKV4.out _ HK1.out))
  go_enter Tryz.func87, Tryz.ntmps87
  go_wp2_with fail
  refine HMM.out.mono ?_
  rintro E w2 ⟨rfl, h2, k2⟩
  have HC2 := Lib.hid h2
  have HK2 := Lib.hid (HK1.out.trans k2)
  clear h2 k2 x0 x4 x5
  go_wp2_with fail
  go_ret
  exact RkRule.mkM HG.out (fun t ht => rfl) HK2.out HC2.out
set_option maxRecDepth 100000 in
set_option maxHeartbeats 1600000 in
theorem rrule_11 (hk : x.kind = 11) (hK : KidsV c w kv ((K).map Prod.fst)) (hT : Told ys (K)) (h : RkAt c B sm tv yv ys 0 a w) (hKl : K.length ≤ 1000000):
    Calls Tryz.prog 87 #[.pointer (some ⟨c, 0, none⟩), .int .i64 (p : Int), x.val, kv, iv] w (RkRule c B sm tv yv ys a ((Tr.eachT sm .int K).map fun _ => .int) w) := by
  have HM : Hid (∀ v w', RkAt c B sm tv yv ys 0 a w' → KidsV c w' v (K.map Prod.fst) → Calls Tryz.prog 108 #[.pointer (some ⟨c, 0, none⟩), v, .string { data := #[105] }] w' (RkRes (.tuple #[]) c B sm tv yv ys (Tr.stE (Tr.eachT sm .int K)) (Tr.stA a (Tr.eachT sm .int K)) w')) := Lib.hid (fun v w' h' hk' => reach_any c B sm tv yv ys a w' .int (by unfold Ty.fits; decide) K v hk' hT hKl h')
  have HG := Lib.hid (Tr.eachT_good sm .int K)
  have HKV4 : Hid (∀ w', Keep c w w' → KidsV c w' kv (K.map Prod.fst)) := Lib.hid (fun w' k => hK.keep k)
  generalize Tr.eachT sm .int K = R at *
  obtain ⟨k, kd, n, s, t, u, l, cl⟩ := x
  obtain rfl : k = 11 := hk
  obtain ⟨g, o, C, rfl, hlC, hg, hkc⟩ := hK.shape
  have HKV := Lib.hid hkc
  have hb0 : Below w.heap.size w (w.alloc (.cells #[.int .i8 11, .int .i64 kd, .int .i64 n, .string s, .string t, .string u, .int .i64 l, .int .i64 cl] 64)) := (Below.refl _ _).alloc (Nat.le_refl _) _
  have HX : Hid (Box w.heap.size (Nd.mk 11 kd n s t u l cl) (w.alloc (.cells #[.int .i8 11, .int .i64 kd, .int .i64 n, .string s, .string t, .string u, .int .i64 l, .int .i64 cl] 64))) := Lib.hid (MapKept.heap_alloc w _).1
  have HC1 := Lib.hid (h.later hb0)
  have HK1 : Hid (Keep c w (w.alloc (.cells #[.int .i8 11, .int .i64 kd, .int .i64 n, .string s, .string t, .string u, .int .i64 l, .int .i64 cl] 64))) := Lib.hid (Keep.of hb0)
  have HCW : Hid (w.heap.size ≠ c) := Lib.hid (by have := h.lt; omega)
  have x0 : ((w.alloc (.cells #[.int .i8 11, .int .i64 kd, .int .i64 n, .string s, .string t, .string u, .int .i64 l, .int .i64 cl] 64))).cell? ⟨w.heap.size, 0, none⟩ = some (.int .i8 11) := HX.out.cell 0
  have x4 : ((w.alloc (.cells #[.int .i8 11, .int .i64 kd, .int .i64 n, .string s, .string t, .string u, .int .i64 l, .int .i64 cl] 64))).cell? ⟨w.heap.size, 4, none⟩ = some (.string t) := HX.out.cell 4
  have x5 : ((w.alloc (.cells #[.int .i8 11, .int .i64 kd, .int .i64 n, .string s, .string t, .string u, .int .i64 l, .int .i64 cl] 64))).cell? ⟨w.heap.size, 5, none⟩ = some (.string u) := HX.out.cell 5
  show Calls Tryz.prog _ #[_, _, .agg #[.int .i8 11, .int .i64 kd, .int .i64 n, .string s, .string t, .string u, .int .i64 l, .int .i64 cl], _, _] w _
  have hlm : ((K : List (Nat × Ty)).map Prod.fst).length = (K : List (Nat × Ty)).length := List.length_map _
  rw [hlm] at hlC ⊢
  clear h hkc hlm hK hb0
  rw [show (K.map Prod.fst).length = K.length from List.length_map _] at HKV4
  have HMM := Lib.hid (HM.out _ _ HC1.out (HKV4.out _ HK1.out))
  go_enter Tryz.func87, Tryz.ntmps87
  go_wp2_with fail
  refine HMM.out.mono ?_
  rintro E w2 ⟨rfl, h2, k2⟩
  have HC2 := Lib.hid h2
  have HK2 := Lib.hid (HK1.out.trans k2)
  clear h2 k2 x0 x4 x5
  go_wp2_with fail
  go_ret
  exact RkRule.mkM HG.out (fun t ht => rfl) HK2.out HC2.out
set_option maxRecDepth 100000 in
set_option maxHeartbeats 1600000 in
theorem rrule_12 (hk : x.kind = 12) (hK : KidsV c w kv ((K).map Prod.fst)) (hT : Told ys (K)) (h : RkAt c B sm tv yv ys 0 a w) (hKl : K.length ≤ 1000000):
    Calls Tryz.prog 87 #[.pointer (some ⟨c, 0, none⟩), .int .i64 (p : Int), x.val, kv, iv] w (RkRule c B sm tv yv ys a ((Tr.eachT sm .int K).map fun _ => .int) w) := by
  have HM : Hid (∀ v w', RkAt c B sm tv yv ys 0 a w' → KidsV c w' v (K.map Prod.fst) → Calls Tryz.prog 108 #[.pointer (some ⟨c, 0, none⟩), v, .string { data := #[105] }] w' (RkRes (.tuple #[]) c B sm tv yv ys (Tr.stE (Tr.eachT sm .int K)) (Tr.stA a (Tr.eachT sm .int K)) w')) := Lib.hid (fun v w' h' hk' => reach_any c B sm tv yv ys a w' .int (by unfold Ty.fits; decide) K v hk' hT hKl h')
  have HG := Lib.hid (Tr.eachT_good sm .int K)
  have HKV4 : Hid (∀ w', Keep c w w' → KidsV c w' kv (K.map Prod.fst)) := Lib.hid (fun w' k => hK.keep k)
  generalize Tr.eachT sm .int K = R at *
  obtain ⟨k, kd, n, s, t, u, l, cl⟩ := x
  obtain rfl : k = 12 := hk
  obtain ⟨g, o, C, rfl, hlC, hg, hkc⟩ := hK.shape
  have HKV := Lib.hid hkc
  have hb0 : Below w.heap.size w (w.alloc (.cells #[.int .i8 12, .int .i64 kd, .int .i64 n, .string s, .string t, .string u, .int .i64 l, .int .i64 cl] 64)) := (Below.refl _ _).alloc (Nat.le_refl _) _
  have HX : Hid (Box w.heap.size (Nd.mk 12 kd n s t u l cl) (w.alloc (.cells #[.int .i8 12, .int .i64 kd, .int .i64 n, .string s, .string t, .string u, .int .i64 l, .int .i64 cl] 64))) := Lib.hid (MapKept.heap_alloc w _).1
  have HC1 := Lib.hid (h.later hb0)
  have HK1 : Hid (Keep c w (w.alloc (.cells #[.int .i8 12, .int .i64 kd, .int .i64 n, .string s, .string t, .string u, .int .i64 l, .int .i64 cl] 64))) := Lib.hid (Keep.of hb0)
  have HCW : Hid (w.heap.size ≠ c) := Lib.hid (by have := h.lt; omega)
  have x0 : ((w.alloc (.cells #[.int .i8 12, .int .i64 kd, .int .i64 n, .string s, .string t, .string u, .int .i64 l, .int .i64 cl] 64))).cell? ⟨w.heap.size, 0, none⟩ = some (.int .i8 12) := HX.out.cell 0
  have x4 : ((w.alloc (.cells #[.int .i8 12, .int .i64 kd, .int .i64 n, .string s, .string t, .string u, .int .i64 l, .int .i64 cl] 64))).cell? ⟨w.heap.size, 4, none⟩ = some (.string t) := HX.out.cell 4
  have x5 : ((w.alloc (.cells #[.int .i8 12, .int .i64 kd, .int .i64 n, .string s, .string t, .string u, .int .i64 l, .int .i64 cl] 64))).cell? ⟨w.heap.size, 5, none⟩ = some (.string u) := HX.out.cell 5
  show Calls Tryz.prog _ #[_, _, .agg #[.int .i8 12, .int .i64 kd, .int .i64 n, .string s, .string t, .string u, .int .i64 l, .int .i64 cl], _, _] w _
  have hlm : ((K : List (Nat × Ty)).map Prod.fst).length = (K : List (Nat × Ty)).length := List.length_map _
  rw [hlm] at hlC ⊢
  clear h hkc hlm hK hb0
  rw [show (K.map Prod.fst).length = K.length from List.length_map _] at HKV4
  have HMM := Lib.hid (HM.out _ _ HC1.out (HKV4.out _ HK1.out))
  go_enter Tryz.func87, Tryz.ntmps87
  go_wp2_with fail
  refine HMM.out.mono ?_
  rintro E w2 ⟨rfl, h2, k2⟩
  have HC2 := Lib.hid h2
  have HK2 := Lib.hid (HK1.out.trans k2)
  clear h2 k2 x0 x4 x5
  go_wp2_with fail
  go_ret
  exact RkRule.mkM HG.out (fun t ht => rfl) HK2.out HC2.out
set_option maxRecDepth 100000 in
set_option maxHeartbeats 1600000 in
theorem rrule_16 (hk : x.kind = 16) (hK : KidsV c w kv ((K).map Prod.fst)) (hT : Told ys (K)) (h : RkAt c B sm tv yv ys 0 a w) (hKl : K.length ≤ 1000000):
    Calls Tryz.prog 87 #[.pointer (some ⟨c, 0, none⟩), .int .i64 (p : Int), x.val, kv, iv] w (RkRule c B sm tv yv ys a ((Tr.eachT sm .int K).map fun _ => .int) w) := by
  have HM : Hid (∀ v w', RkAt c B sm tv yv ys 0 a w' → KidsV c w' v (K.map Prod.fst) → Calls Tryz.prog 108 #[.pointer (some ⟨c, 0, none⟩), v, .string { data := #[105] }] w' (RkRes (.tuple #[]) c B sm tv yv ys (Tr.stE (Tr.eachT sm .int K)) (Tr.stA a (Tr.eachT sm .int K)) w')) := Lib.hid (fun v w' h' hk' => reach_any c B sm tv yv ys a w' .int (by unfold Ty.fits; decide) K v hk' hT hKl h')
  have HG := Lib.hid (Tr.eachT_good sm .int K)
  have HKV4 : Hid (∀ w', Keep c w w' → KidsV c w' kv (K.map Prod.fst)) := Lib.hid (fun w' k => hK.keep k)
  generalize Tr.eachT sm .int K = R at *
  obtain ⟨k, kd, n, s, t, u, l, cl⟩ := x
  obtain rfl : k = 16 := hk
  obtain ⟨g, o, C, rfl, hlC, hg, hkc⟩ := hK.shape
  have HKV := Lib.hid hkc
  have hb0 : Below w.heap.size w (w.alloc (.cells #[.int .i8 16, .int .i64 kd, .int .i64 n, .string s, .string t, .string u, .int .i64 l, .int .i64 cl] 64)) := (Below.refl _ _).alloc (Nat.le_refl _) _
  have HX : Hid (Box w.heap.size (Nd.mk 16 kd n s t u l cl) (w.alloc (.cells #[.int .i8 16, .int .i64 kd, .int .i64 n, .string s, .string t, .string u, .int .i64 l, .int .i64 cl] 64))) := Lib.hid (MapKept.heap_alloc w _).1
  have HC1 := Lib.hid (h.later hb0)
  have HK1 : Hid (Keep c w (w.alloc (.cells #[.int .i8 16, .int .i64 kd, .int .i64 n, .string s, .string t, .string u, .int .i64 l, .int .i64 cl] 64))) := Lib.hid (Keep.of hb0)
  have HCW : Hid (w.heap.size ≠ c) := Lib.hid (by have := h.lt; omega)
  have x0 : ((w.alloc (.cells #[.int .i8 16, .int .i64 kd, .int .i64 n, .string s, .string t, .string u, .int .i64 l, .int .i64 cl] 64))).cell? ⟨w.heap.size, 0, none⟩ = some (.int .i8 16) := HX.out.cell 0
  have x4 : ((w.alloc (.cells #[.int .i8 16, .int .i64 kd, .int .i64 n, .string s, .string t, .string u, .int .i64 l, .int .i64 cl] 64))).cell? ⟨w.heap.size, 4, none⟩ = some (.string t) := HX.out.cell 4
  have x5 : ((w.alloc (.cells #[.int .i8 16, .int .i64 kd, .int .i64 n, .string s, .string t, .string u, .int .i64 l, .int .i64 cl] 64))).cell? ⟨w.heap.size, 5, none⟩ = some (.string u) := HX.out.cell 5
  show Calls Tryz.prog _ #[_, _, .agg #[.int .i8 16, .int .i64 kd, .int .i64 n, .string s, .string t, .string u, .int .i64 l, .int .i64 cl], _, _] w _
  have hlm : ((K : List (Nat × Ty)).map Prod.fst).length = (K : List (Nat × Ty)).length := List.length_map _
  rw [hlm] at hlC ⊢
  clear h hkc hlm hK hb0
  rw [show (K.map Prod.fst).length = K.length from List.length_map _] at HKV4
  have HMM := Lib.hid (HM.out _ _ HC1.out (HKV4.out _ HK1.out))
  go_enter Tryz.func87, Tryz.ntmps87
  go_wp2_with fail
  refine HMM.out.mono ?_
  rintro E w2 ⟨rfl, h2, k2⟩
  have HC2 := Lib.hid h2
  have HK2 := Lib.hid (HK1.out.trans k2)
  clear h2 k2 x0 x4 x5
  go_wp2_with fail
  go_ret
  exact RkRule.mkM HG.out (fun t ht => rfl) HK2.out HC2.out
set_option maxRecDepth 100000 in
set_option maxHeartbeats 1600000 in
theorem rrule_14 (hk : x.kind = 14) (hK : KidsV c w kv ((K).map Prod.fst)) (hT : Told ys (K)) (h : RkAt c B sm tv yv ys 0 a w) (hKl : K.length ≤ 1000000):
    Calls Tryz.prog 87 #[.pointer (some ⟨c, 0, none⟩), .int .i64 (p : Int), x.val, kv, iv] w (RkRule c B sm tv yv ys a ((Tr.eachT sm .int K).map fun _ => .bool) w) := by
  have HM : Hid (∀ v w', RkAt c B sm tv yv ys 0 a w' → KidsV c w' v (K.map Prod.fst) → Calls Tryz.prog 108 #[.pointer (some ⟨c, 0, none⟩), v, .string { data := #[105] }] w' (RkRes (.tuple #[]) c B sm tv yv ys (Tr.stE (Tr.eachT sm .int K)) (Tr.stA a (Tr.eachT sm .int K)) w')) := Lib.hid (fun v w' h' hk' => reach_any c B sm tv yv ys a w' .int (by unfold Ty.fits; decide) K v hk' hT hKl h')
  have HG := Lib.hid (Tr.eachT_good sm .int K)
  have HKV4 : Hid (∀ w', Keep c w w' → KidsV c w' kv (K.map Prod.fst)) := Lib.hid (fun w' k => hK.keep k)
  generalize Tr.eachT sm .int K = R at *
  obtain ⟨k, kd, n, s, t, u, l, cl⟩ := x
  obtain rfl : k = 14 := hk
  obtain ⟨g, o, C, rfl, hlC, hg, hkc⟩ := hK.shape
  have HKV := Lib.hid hkc
  have hb0 : Below w.heap.size w (w.alloc (.cells #[.int .i8 14, .int .i64 kd, .int .i64 n, .string s, .string t, .string u, .int .i64 l, .int .i64 cl] 64)) := (Below.refl _ _).alloc (Nat.le_refl _) _
  have HX : Hid (Box w.heap.size (Nd.mk 14 kd n s t u l cl) (w.alloc (.cells #[.int .i8 14, .int .i64 kd, .int .i64 n, .string s, .string t, .string u, .int .i64 l, .int .i64 cl] 64))) := Lib.hid (MapKept.heap_alloc w _).1
  have HC1 := Lib.hid (h.later hb0)
  have HK1 : Hid (Keep c w (w.alloc (.cells #[.int .i8 14, .int .i64 kd, .int .i64 n, .string s, .string t, .string u, .int .i64 l, .int .i64 cl] 64))) := Lib.hid (Keep.of hb0)
  have HCW : Hid (w.heap.size ≠ c) := Lib.hid (by have := h.lt; omega)
  have x0 : ((w.alloc (.cells #[.int .i8 14, .int .i64 kd, .int .i64 n, .string s, .string t, .string u, .int .i64 l, .int .i64 cl] 64))).cell? ⟨w.heap.size, 0, none⟩ = some (.int .i8 14) := HX.out.cell 0
  have x4 : ((w.alloc (.cells #[.int .i8 14, .int .i64 kd, .int .i64 n, .string s, .string t, .string u, .int .i64 l, .int .i64 cl] 64))).cell? ⟨w.heap.size, 4, none⟩ = some (.string t) := HX.out.cell 4
  have x5 : ((w.alloc (.cells #[.int .i8 14, .int .i64 kd, .int .i64 n, .string s, .string t, .string u, .int .i64 l, .int .i64 cl] 64))).cell? ⟨w.heap.size, 5, none⟩ = some (.string u) := HX.out.cell 5
  show Calls Tryz.prog _ #[_, _, .agg #[.int .i8 14, .int .i64 kd, .int .i64 n, .string s, .string t, .string u, .int .i64 l, .int .i64 cl], _, _] w _
  have hlm : ((K : List (Nat × Ty)).map Prod.fst).length = (K : List (Nat × Ty)).length := List.length_map _
  rw [hlm] at hlC ⊢
  clear h hkc hlm hK hb0
  rw [show (K.map Prod.fst).length = K.length from List.length_map _] at HKV4
  have HMM := Lib.hid (HM.out _ _ HC1.out (HKV4.out _ HK1.out))
  go_enter Tryz.func87, Tryz.ntmps87
  go_wp2_with fail
  refine HMM.out.mono ?_
  rintro E w2 ⟨rfl, h2, k2⟩
  have HC2 := Lib.hid h2
  have HK2 := Lib.hid (HK1.out.trans k2)
  clear h2 k2 x0 x4 x5
  go_wp2_with fail
  go_ret
  exact RkRule.mkM HG.out (fun t ht => rfl) HK2.out HC2.out
set_option maxRecDepth 100000 in
set_option maxHeartbeats 1600000 in
theorem rrule_15 (hk : x.kind = 15) (hK : KidsV c w kv ((K).map Prod.fst)) (hT : Told ys (K)) (h : RkAt c B sm tv yv ys 0 a w) (hKl : K.length ≤ 1000000):
    Calls Tryz.prog 87 #[.pointer (some ⟨c, 0, none⟩), .int .i64 (p : Int), x.val, kv, iv] w (RkRule c B sm tv yv ys a ((Tr.eachT sm .int K).map fun _ => .bool) w) := by
  have HM : Hid (∀ v w', RkAt c B sm tv yv ys 0 a w' → KidsV c w' v (K.map Prod.fst) → Calls Tryz.prog 108 #[.pointer (some ⟨c, 0, none⟩), v, .string { data := #[105] }] w' (RkRes (.tuple #[]) c B sm tv yv ys (Tr.stE (Tr.eachT sm .int K)) (Tr.stA a (Tr.eachT sm .int K)) w')) := Lib.hid (fun v w' h' hk' => reach_any c B sm tv yv ys a w' .int (by unfold Ty.fits; decide) K v hk' hT hKl h')
  have HG := Lib.hid (Tr.eachT_good sm .int K)
  have HKV4 : Hid (∀ w', Keep c w w' → KidsV c w' kv (K.map Prod.fst)) := Lib.hid (fun w' k => hK.keep k)
  generalize Tr.eachT sm .int K = R at *
  obtain ⟨k, kd, n, s, t, u, l, cl⟩ := x
  obtain rfl : k = 15 := hk
  obtain ⟨g, o, C, rfl, hlC, hg, hkc⟩ := hK.shape
  have HKV := Lib.hid hkc
  have hb0 : Below w.heap.size w (w.alloc (.cells #[.int .i8 15, .int .i64 kd, .int .i64 n, .string s, .string t, .string u, .int .i64 l, .int .i64 cl] 64)) := (Below.refl _ _).alloc (Nat.le_refl _) _
  have HX : Hid (Box w.heap.size (Nd.mk 15 kd n s t u l cl) (w.alloc (.cells #[.int .i8 15, .int .i64 kd, .int .i64 n, .string s, .string t, .string u, .int .i64 l, .int .i64 cl] 64))) := Lib.hid (MapKept.heap_alloc w _).1
  have HC1 := Lib.hid (h.later hb0)
  have HK1 : Hid (Keep c w (w.alloc (.cells #[.int .i8 15, .int .i64 kd, .int .i64 n, .string s, .string t, .string u, .int .i64 l, .int .i64 cl] 64))) := Lib.hid (Keep.of hb0)
  have HCW : Hid (w.heap.size ≠ c) := Lib.hid (by have := h.lt; omega)
  have x0 : ((w.alloc (.cells #[.int .i8 15, .int .i64 kd, .int .i64 n, .string s, .string t, .string u, .int .i64 l, .int .i64 cl] 64))).cell? ⟨w.heap.size, 0, none⟩ = some (.int .i8 15) := HX.out.cell 0
  have x4 : ((w.alloc (.cells #[.int .i8 15, .int .i64 kd, .int .i64 n, .string s, .string t, .string u, .int .i64 l, .int .i64 cl] 64))).cell? ⟨w.heap.size, 4, none⟩ = some (.string t) := HX.out.cell 4
  have x5 : ((w.alloc (.cells #[.int .i8 15, .int .i64 kd, .int .i64 n, .string s, .string t, .string u, .int .i64 l, .int .i64 cl] 64))).cell? ⟨w.heap.size, 5, none⟩ = some (.string u) := HX.out.cell 5
  show Calls Tryz.prog _ #[_, _, .agg #[.int .i8 15, .int .i64 kd, .int .i64 n, .string s, .string t, .string u, .int .i64 l, .int .i64 cl], _, _] w _
  have hlm : ((K : List (Nat × Ty)).map Prod.fst).length = (K : List (Nat × Ty)).length := List.length_map _
  rw [hlm] at hlC ⊢
  clear h hkc hlm hK hb0
  rw [show (K.map Prod.fst).length = K.length from List.length_map _] at HKV4
  have HMM := Lib.hid (HM.out _ _ HC1.out (HKV4.out _ HK1.out))
  go_enter Tryz.func87, Tryz.ntmps87
  go_wp2_with fail
  refine HMM.out.mono ?_
  rintro E w2 ⟨rfl, h2, k2⟩
  have HC2 := Lib.hid h2
  have HK2 := Lib.hid (HK1.out.trans k2)
  clear h2 k2 x0 x4 x5
  go_wp2_with fail
  go_ret
  exact RkRule.mkM HG.out (fun t ht => rfl) HK2.out HC2.out
set_option maxRecDepth 100000 in
set_option maxHeartbeats 1600000 in
theorem rrule_13 (hk : x.kind = 13) (hK : KidsV c w kv ((K).map Prod.fst)) (hT : Told ys (K)) (h : RkAt c B sm tv yv ys 0 a w) (hKl : K.length ≤ 1000000):
    Calls Tryz.prog 87 #[.pointer (some ⟨c, 0, none⟩), .int .i64 (p : Int), x.val, kv, iv] w (RkRule c B sm tv yv ys a ((Tr.eachT sm .text K).map fun _ => .text) w) := by
  have HM : Hid (∀ v w', RkAt c B sm tv yv ys 0 a w' → KidsV c w' v (K.map Prod.fst) → Calls Tryz.prog 108 #[.pointer (some ⟨c, 0, none⟩), v, .string { data := #[116] }] w' (RkRes (.tuple #[]) c B sm tv yv ys (Tr.stE (Tr.eachT sm .text K)) (Tr.stA a (Tr.eachT sm .text K)) w')) := Lib.hid (fun v w' h' hk' => reach_any c B sm tv yv ys a w' .text (by unfold Ty.fits; decide) K v hk' hT hKl h')
  have HG := Lib.hid (Tr.eachT_good sm .text K)
  have HKV4 : Hid (∀ w', Keep c w w' → KidsV c w' kv (K.map Prod.fst)) := Lib.hid (fun w' k => hK.keep k)
  generalize Tr.eachT sm .text K = R at *
  obtain ⟨k, kd, n, s, t, u, l, cl⟩ := x
  obtain rfl : k = 13 := hk
  obtain ⟨g, o, C, rfl, hlC, hg, hkc⟩ := hK.shape
  have HKV := Lib.hid hkc
  have hb0 : Below w.heap.size w (w.alloc (.cells #[.int .i8 13, .int .i64 kd, .int .i64 n, .string s, .string t, .string u, .int .i64 l, .int .i64 cl] 64)) := (Below.refl _ _).alloc (Nat.le_refl _) _
  have HX : Hid (Box w.heap.size (Nd.mk 13 kd n s t u l cl) (w.alloc (.cells #[.int .i8 13, .int .i64 kd, .int .i64 n, .string s, .string t, .string u, .int .i64 l, .int .i64 cl] 64))) := Lib.hid (MapKept.heap_alloc w _).1
  have HC1 := Lib.hid (h.later hb0)
  have HK1 : Hid (Keep c w (w.alloc (.cells #[.int .i8 13, .int .i64 kd, .int .i64 n, .string s, .string t, .string u, .int .i64 l, .int .i64 cl] 64))) := Lib.hid (Keep.of hb0)
  have HCW : Hid (w.heap.size ≠ c) := Lib.hid (by have := h.lt; omega)
  have x0 : ((w.alloc (.cells #[.int .i8 13, .int .i64 kd, .int .i64 n, .string s, .string t, .string u, .int .i64 l, .int .i64 cl] 64))).cell? ⟨w.heap.size, 0, none⟩ = some (.int .i8 13) := HX.out.cell 0
  have x4 : ((w.alloc (.cells #[.int .i8 13, .int .i64 kd, .int .i64 n, .string s, .string t, .string u, .int .i64 l, .int .i64 cl] 64))).cell? ⟨w.heap.size, 4, none⟩ = some (.string t) := HX.out.cell 4
  have x5 : ((w.alloc (.cells #[.int .i8 13, .int .i64 kd, .int .i64 n, .string s, .string t, .string u, .int .i64 l, .int .i64 cl] 64))).cell? ⟨w.heap.size, 5, none⟩ = some (.string u) := HX.out.cell 5
  show Calls Tryz.prog _ #[_, _, .agg #[.int .i8 13, .int .i64 kd, .int .i64 n, .string s, .string t, .string u, .int .i64 l, .int .i64 cl], _, _] w _
  have hlm : ((K : List (Nat × Ty)).map Prod.fst).length = (K : List (Nat × Ty)).length := List.length_map _
  rw [hlm] at hlC ⊢
  clear h hkc hlm hK hb0
  rw [show (K.map Prod.fst).length = K.length from List.length_map _] at HKV4
  have HMM := Lib.hid (HM.out _ _ HC1.out (HKV4.out _ HK1.out))
  go_enter Tryz.func87, Tryz.ntmps87
  go_wp2_with fail
  refine HMM.out.mono ?_
  rintro E w2 ⟨rfl, h2, k2⟩
  have HC2 := Lib.hid h2
  have HK2 := Lib.hid (HK1.out.trans k2)
  clear h2 k2 x0 x4 x5
  go_wp2_with fail
  go_ret
  exact RkRule.mkM HG.out (fun t ht => rfl) HK2.out HC2.out
set_option maxRecDepth 100000 in
set_option maxHeartbeats 1600000 in
theorem rrule_17 (hk : x.kind = 17) (hK : KidsV c w kv ((K).map Prod.fst)) (hT : Told ys (K)) (h : RkAt c B sm tv yv ys 0 a w) (hKl : K.length ≤ 1000000):
    Calls Tryz.prog 87 #[.pointer (some ⟨c, 0, none⟩), .int .i64 (p : Int), x.val, kv, iv] w (RkRule c B sm tv yv ys a ((Tr.eachT sm .text K).map fun _ => .int) w) := by
  have HM : Hid (∀ v w', RkAt c B sm tv yv ys 0 a w' → KidsV c w' v (K.map Prod.fst) → Calls Tryz.prog 108 #[.pointer (some ⟨c, 0, none⟩), v, .string { data := #[116] }] w' (RkRes (.tuple #[]) c B sm tv yv ys (Tr.stE (Tr.eachT sm .text K)) (Tr.stA a (Tr.eachT sm .text K)) w')) := Lib.hid (fun v w' h' hk' => reach_any c B sm tv yv ys a w' .text (by unfold Ty.fits; decide) K v hk' hT hKl h')
  have HG := Lib.hid (Tr.eachT_good sm .text K)
  have HKV4 : Hid (∀ w', Keep c w w' → KidsV c w' kv (K.map Prod.fst)) := Lib.hid (fun w' k => hK.keep k)
  generalize Tr.eachT sm .text K = R at *
  obtain ⟨k, kd, n, s, t, u, l, cl⟩ := x
  obtain rfl : k = 17 := hk
  obtain ⟨g, o, C, rfl, hlC, hg, hkc⟩ := hK.shape
  have HKV := Lib.hid hkc
  have hb0 : Below w.heap.size w (w.alloc (.cells #[.int .i8 17, .int .i64 kd, .int .i64 n, .string s, .string t, .string u, .int .i64 l, .int .i64 cl] 64)) := (Below.refl _ _).alloc (Nat.le_refl _) _
  have HX : Hid (Box w.heap.size (Nd.mk 17 kd n s t u l cl) (w.alloc (.cells #[.int .i8 17, .int .i64 kd, .int .i64 n, .string s, .string t, .string u, .int .i64 l, .int .i64 cl] 64))) := Lib.hid (MapKept.heap_alloc w _).1
  have HC1 := Lib.hid (h.later hb0)
  have HK1 : Hid (Keep c w (w.alloc (.cells #[.int .i8 17, .int .i64 kd, .int .i64 n, .string s, .string t, .string u, .int .i64 l, .int .i64 cl] 64))) := Lib.hid (Keep.of hb0)
  have HCW : Hid (w.heap.size ≠ c) := Lib.hid (by have := h.lt; omega)
  have x0 : ((w.alloc (.cells #[.int .i8 17, .int .i64 kd, .int .i64 n, .string s, .string t, .string u, .int .i64 l, .int .i64 cl] 64))).cell? ⟨w.heap.size, 0, none⟩ = some (.int .i8 17) := HX.out.cell 0
  have x4 : ((w.alloc (.cells #[.int .i8 17, .int .i64 kd, .int .i64 n, .string s, .string t, .string u, .int .i64 l, .int .i64 cl] 64))).cell? ⟨w.heap.size, 4, none⟩ = some (.string t) := HX.out.cell 4
  have x5 : ((w.alloc (.cells #[.int .i8 17, .int .i64 kd, .int .i64 n, .string s, .string t, .string u, .int .i64 l, .int .i64 cl] 64))).cell? ⟨w.heap.size, 5, none⟩ = some (.string u) := HX.out.cell 5
  show Calls Tryz.prog _ #[_, _, .agg #[.int .i8 17, .int .i64 kd, .int .i64 n, .string s, .string t, .string u, .int .i64 l, .int .i64 cl], _, _] w _
  have hlm : ((K : List (Nat × Ty)).map Prod.fst).length = (K : List (Nat × Ty)).length := List.length_map _
  rw [hlm] at hlC ⊢
  clear h hkc hlm hK hb0
  rw [show (K.map Prod.fst).length = K.length from List.length_map _] at HKV4
  have HMM := Lib.hid (HM.out _ _ HC1.out (HKV4.out _ HK1.out))
  go_enter Tryz.func87, Tryz.ntmps87
  go_wp2_with fail
  refine HMM.out.mono ?_
  rintro E w2 ⟨rfl, h2, k2⟩
  have HC2 := Lib.hid h2
  have HK2 := Lib.hid (HK1.out.trans k2)
  clear h2 k2 x0 x4 x5
  go_wp2_with fail
  go_ret
  exact RkRule.mkM HG.out (fun t ht => rfl) HK2.out HC2.out
set_option maxRecDepth 100000 in
set_option maxHeartbeats 1600000 in
theorem rrule_5 (hk : x.kind = 5) (hK : KidsV c w kv (((p0, t0) :: K).map Prod.fst)) (hT : Told ys ((p0, t0) :: K)) (h : RkAt c B sm tv yv ys 0 a w) (h1 : NoteOk x.t) (h2 : NoteOk x.u):
    Calls Tryz.prog 87 #[.pointer (some ⟨c, 0, none⟩), .int .i64 (p : Int), x.val, kv, iv] w (RkRule c B sm tv yv ys a (Tr.fitG sm (.ok (.fn (Tr.noteT x.t) (Tr.noteT x.u))) t0 (Tr.noteT x.u) 23 p0) w) := by
  have HT0 := Lib.hid (hT _ List.mem_cons_self)
  have HU1 := Lib.hid (r8Note_any x.t h1)
  have HU2 := Lib.hid (r8Note_any x.u h2)
  have z1 : (Tr.noteT x.t).str.size ≤ 64 := by rw [str_size]; exact h1.fits
  have z2 : (Tr.noteT x.u).str.size ≤ 64 := by rw [str_size]; exact h2.fits
  have hf2 := h2.fits
  clear h1 h2
  generalize Tr.noteT x.t = S1 at *
  generalize Tr.noteT x.u = S2 at *
  have HF := Lib.hid (fun w' h' => rfitsR c B sm tv yv ys a w' (.ok (Ty.fn S1 S2)) (Tr.good_ok _) 23 p0 t0 S2 HT0.out.2 hf2 (by decide) h')
  have HG := Lib.hid (Tr.fitG_goodT (same := sm) (R := .ok (Ty.fn S1 S2)) (s := t0) (t := S2) (p := p0) (Tr.good_ok _))
  have HV := Lib.hid (fun v (h : Tr.fitG sm (.ok (Ty.fn S1 S2)) t0 S2 23 p0 = .ok v) => Tr.fitG_ok h)
  rw [show ((23 : Nat) : Int) = 23 from rfl] at HF
  generalize Tr.fitG sm (.ok (Ty.fn S1 S2)) t0 S2 23 p0 = R at *
  obtain ⟨k, kd, n, s, t, u, l, cl⟩ := x
  obtain rfl : k = 5 := hk
  obtain ⟨g, o, C, rfl, hlC, hg, hkc⟩ := hK.shape
  have HKV := Lib.hid hkc
  have hb0 : Below w.heap.size w (w.alloc (.cells #[.int .i8 5, .int .i64 kd, .int .i64 n, .string s, .string t, .string u, .int .i64 l, .int .i64 cl] 64)) := (Below.refl _ _).alloc (Nat.le_refl _) _
  have HX : Hid (Box w.heap.size (Nd.mk 5 kd n s t u l cl) (w.alloc (.cells #[.int .i8 5, .int .i64 kd, .int .i64 n, .string s, .string t, .string u, .int .i64 l, .int .i64 cl] 64))) := Lib.hid (MapKept.heap_alloc w _).1
  have HC1 := Lib.hid (h.later hb0)
  have HK1 : Hid (Keep c w (w.alloc (.cells #[.int .i8 5, .int .i64 kd, .int .i64 n, .string s, .string t, .string u, .int .i64 l, .int .i64 cl] 64))) := Lib.hid (Keep.of hb0)
  have HCW : Hid (w.heap.size ≠ c) := Lib.hid (by have := h.lt; omega)
  have x0 : ((w.alloc (.cells #[.int .i8 5, .int .i64 kd, .int .i64 n, .string s, .string t, .string u, .int .i64 l, .int .i64 cl] 64))).cell? ⟨w.heap.size, 0, none⟩ = some (.int .i8 5) := HX.out.cell 0
  have x4 : ((w.alloc (.cells #[.int .i8 5, .int .i64 kd, .int .i64 n, .string s, .string t, .string u, .int .i64 l, .int .i64 cl] 64))).cell? ⟨w.heap.size, 4, none⟩ = some (.string t) := HX.out.cell 4
  have x5 : ((w.alloc (.cells #[.int .i8 5, .int .i64 kd, .int .i64 n, .string s, .string t, .string u, .int .i64 l, .int .i64 cl] 64))).cell? ⟨w.heap.size, 5, none⟩ = some (.string u) := HX.out.cell 5
  show Calls Tryz.prog _ #[_, _, .agg #[.int .i8 5, .int .i64 kd, .int .i64 n, .string s, .string t, .string u, .int .i64 l, .int .i64 cl], _, _] w _
  have hlm : (((p0, t0) :: K : List (Nat × Ty)).map Prod.fst).length = ((p0, t0) :: K : List (Nat × Ty)).length := List.length_map _
  rw [hlm] at hlC ⊢
  clear h hkc hlm hK hb0
  have q0 := HKV.out _ HK1.out 0 p0 rfl
  rw [Nat.add_zero] at q0
  obtain ⟨gy, Cy, rfl, r0, hl0, -⟩ := HC1.out.read HT0.out.1
  have c1 := HC1.out.c1
  clear hf2
  go_enter Tryz.func87, Tryz.ntmps87
  go_wp2_with fail
  refine wp_region_plan (S := fun w' => w'.cell? ⟨c, 1, none⟩ = some (.slice (some ⟨gy, 0, none⟩) ys.length Cy) ∧ w'.cell? ⟨g, o, none⟩ = some (.int .i64 (p0 : Int)) ∧ w'.cell? ⟨gy, p0, none⟩ = some (.string t0.str) ∧ w'.cell? ⟨w.heap.size, 4, none⟩ = some (.string t) ∧ w'.cell? ⟨w.heap.size, 5, none⟩ = some (.string u)) [(0, true), (1, true), (2, true), (3, true), (4, true), (5, true), (6, true), (7, true), (8, true), (9, true), (10, true), (11, true), (13, true), (14, true), (15, true), (12, false), (16, false)] (by kernel_rfl) (by kernel_rfl) (by kernel_rfl) (fun _ _ _ _ _ h => h) ⟨c1, q0, r0, x4, x5⟩ ?_
  intro HS
  repeat (first | (apply wpPlan_look; rfl; rfl; (intro wq hq; (try dsimp only at hq); go_split_ands; go_simp; (try rw [if_neg (by omega)]); (try rw [if_pos (by omega)]); try with_reducible rfl); simp only [Act.put, List.setIfInBounds_toArray, List.set_cons_zero, List.set_cons_succ]) | (apply wpPlan_skip; rfl; rfl; simp only [Act.put, List.setIfInBounds_toArray, List.set_cons_zero, List.set_cons_succ]) | (apply wpPlan_pass; rfl; rfl; assumption; simp only [Act.put, List.setIfInBounds_toArray, List.set_cons_zero, List.set_cons_succ]))
  apply wpPlan_call; rfl; rfl; rfl; rfl; kernel_rfl; exact HU2.out _; rfl; rintro E w4 ⟨rfl, rfl⟩
  refine ⟨_, rfl, as_S HS ?_⟩
  intro HS
  simp only [Act.put, List.setIfInBounds_toArray, List.set_cons_zero, List.set_cons_succ]
  repeat (first | (apply wpPlan_look; rfl; rfl; (intro wq hq; (try dsimp only at hq); go_split_ands; go_simp; (try rw [if_neg (by omega)]); (try rw [if_pos (by omega)]); try with_reducible rfl); simp only [Act.put, List.setIfInBounds_toArray, List.set_cons_zero, List.set_cons_succ]) | (apply wpPlan_skip; rfl; rfl; simp only [Act.put, List.setIfInBounds_toArray, List.set_cons_zero, List.set_cons_succ]) | (apply wpPlan_pass; rfl; rfl; assumption; simp only [Act.put, List.setIfInBounds_toArray, List.set_cons_zero, List.set_cons_succ]))
  apply wpPlan_call; rfl; rfl; rfl; rfl; kernel_rfl; exact HF.out _ (HC1.out.later (below_dn _ _)); rfl; rintro E w5 ⟨rfl, h5, k5⟩
  have y4 := k5.cell HS.2.2.2.1 HCW.out
  have y5 := k5.cell HS.2.2.2.2 HCW.out
  refine ⟨_, rfl, as_S ⟨h5.c1, k5.cell HS.2.1 hg, h5.cell HT0.out.1, y4, y5⟩ ?_⟩
  intro _
  have HC5 := Lib.hid h5
  have HK5 := Lib.hid (HK1.out.trans ((Keep.of (below_dn _ _)).trans k5))
  simp only [Act.put, List.setIfInBounds_toArray, List.set_cons_zero, List.set_cons_succ]
  repeat (first | (apply wpPlan_look; rfl; rfl; (intro wq hq; (try dsimp only at hq); go_split_ands; go_simp; (try rw [if_neg (by omega)]); (try rw [if_pos (by omega)]); try with_reducible rfl); simp only [Act.put, List.setIfInBounds_toArray, List.set_cons_zero, List.set_cons_succ]) | (apply wpPlan_skip; rfl; rfl; simp only [Act.put, List.setIfInBounds_toArray, List.set_cons_zero, List.set_cons_succ]) | (apply wpPlan_pass; rfl; rfl; assumption; simp only [Act.put, List.setIfInBounds_toArray, List.set_cons_zero, List.set_cons_succ]))
  apply wpPlan_done
  clear h5 k5 HS c1 q0 r0 x0 x4 x5 HF
  go_wp2_with fail
  refine wp_region_plan (S := fun w' => w'.cell? ⟨w.heap.size, 4, none⟩ = some (.string t) ∧ w'.cell? ⟨w.heap.size, 5, none⟩ = some (.string u)) [(0, true), (1, true), (4, true), (5, true), (2, false), (3, true), (6, false), (7, true), (8, true)] (by kernel_rfl) (by kernel_rfl) (by kernel_rfl) (fun _ _ _ _ _ h => h) ⟨y4, y5⟩ ?_
  intro HS
  repeat (first | (apply wpPlan_look; rfl; rfl; (intro wq hq; (try dsimp only at hq); go_split_ands; go_simp; (try rw [if_neg (by omega)]); (try rw [if_pos (by omega)]); try with_reducible rfl); simp only [Act.put, List.setIfInBounds_toArray, List.set_cons_zero, List.set_cons_succ]) | (apply wpPlan_skip; rfl; rfl; simp only [Act.put, List.setIfInBounds_toArray, List.set_cons_zero, List.set_cons_succ]) | (apply wpPlan_pass; rfl; rfl; assumption; simp only [Act.put, List.setIfInBounds_toArray, List.set_cons_zero, List.set_cons_succ]))
  apply wpPlan_call; rfl; rfl; rfl; rfl; kernel_rfl; exact HU1.out _; rfl; rintro E w4 ⟨rfl, rfl⟩
  refine ⟨_, rfl, as_S HS ?_⟩
  intro HS
  simp only [Act.put, List.setIfInBounds_toArray, List.set_cons_zero, List.set_cons_succ]
  repeat (first | (apply wpPlan_look; rfl; rfl; (intro wq hq; (try dsimp only at hq); go_split_ands; go_simp; (try rw [if_neg (by omega)]); (try rw [if_pos (by omega)]); try with_reducible rfl); simp only [Act.put, List.setIfInBounds_toArray, List.set_cons_zero, List.set_cons_succ]) | (apply wpPlan_skip; rfl; rfl; simp only [Act.put, List.setIfInBounds_toArray, List.set_cons_zero, List.set_cons_succ]) | (apply wpPlan_pass; rfl; rfl; assumption; simp only [Act.put, List.setIfInBounds_toArray, List.set_cons_zero, List.set_cons_succ]))
  apply wpPlan_call; rfl; rfl; rfl; rfl; kernel_rfl; exact HU2.out _; rfl; rintro E w4 ⟨rfl, rfl⟩
  refine ⟨_, rfl, as_S HS ?_⟩
  intro HS
  simp only [Act.put, List.setIfInBounds_toArray, List.set_cons_zero, List.set_cons_succ]
  repeat (first | (apply wpPlan_look; rfl; rfl; (intro wq hq; (try dsimp only at hq); go_split_ands; go_simp; (try rw [if_neg (by omega)]); (try rw [if_pos (by omega)]); try with_reducible rfl); simp only [Act.put, List.setIfInBounds_toArray, List.set_cons_zero, List.set_cons_succ]) | (apply wpPlan_skip; rfl; rfl; simp only [Act.put, List.setIfInBounds_toArray, List.set_cons_zero, List.set_cons_succ]) | (apply wpPlan_pass; rfl; rfl; assumption; simp only [Act.put, List.setIfInBounds_toArray, List.set_cons_zero, List.set_cons_succ]))
  apply wpPlan_done
  have HC6 := Lib.hid (HC5.out.later (below_dn _ 1))
  have HK6 : Hid (Keep c w _) := Lib.hid (HK5.out.trans (Keep.of (below_dn _ 1)))
  clear HS y4 y5
  go_wp2_with fail
  go_ret
  exact RkRule.mk HG.out (fun v hv => by have := HV.out v hv; injection this with this; subst this; exact fn_str _ _) HK6.out HC6.out
set_option maxRecDepth 100000 in
set_option maxHeartbeats 1600000 in
theorem rrule_6 (hk : x.kind = 6) (hK : KidsV c w kv (((p0, t0) :: K).map Prod.fst)) (hT : Told ys ((p0, t0) :: K)) (h : RkAt c B sm tv yv ys 0 a w) (h1 : NoteOk x.t) (h2 : NoteOk x.u):
    Calls Tryz.prog 87 #[.pointer (some ⟨c, 0, none⟩), .int .i64 (p : Int), x.val, kv, iv] w (RkRule c B sm tv yv ys a (Tr.fitG sm (.ok (.fn (Tr.noteT x.t) (Tr.noteT x.u))) t0 (Tr.noteT x.u) 23 p0) w) := by
  have HT0 := Lib.hid (hT _ List.mem_cons_self)
  have HU1 := Lib.hid (r8Note_any x.t h1)
  have HU2 := Lib.hid (r8Note_any x.u h2)
  have z1 : (Tr.noteT x.t).str.size ≤ 64 := by rw [str_size]; exact h1.fits
  have z2 : (Tr.noteT x.u).str.size ≤ 64 := by rw [str_size]; exact h2.fits
  have hf2 := h2.fits
  clear h1 h2
  generalize Tr.noteT x.t = S1 at *
  generalize Tr.noteT x.u = S2 at *
  have HF := Lib.hid (fun w' h' => rfitsR c B sm tv yv ys a w' (.ok (Ty.fn S1 S2)) (Tr.good_ok _) 23 p0 t0 S2 HT0.out.2 hf2 (by decide) h')
  have HG := Lib.hid (Tr.fitG_goodT (same := sm) (R := .ok (Ty.fn S1 S2)) (s := t0) (t := S2) (p := p0) (Tr.good_ok _))
  have HV := Lib.hid (fun v (h : Tr.fitG sm (.ok (Ty.fn S1 S2)) t0 S2 23 p0 = .ok v) => Tr.fitG_ok h)
  rw [show ((23 : Nat) : Int) = 23 from rfl] at HF
  generalize Tr.fitG sm (.ok (Ty.fn S1 S2)) t0 S2 23 p0 = R at *
  obtain ⟨k, kd, n, s, t, u, l, cl⟩ := x
  obtain rfl : k = 6 := hk
  obtain ⟨g, o, C, rfl, hlC, hg, hkc⟩ := hK.shape
  have HKV := Lib.hid hkc
  have hb0 : Below w.heap.size w (w.alloc (.cells #[.int .i8 6, .int .i64 kd, .int .i64 n, .string s, .string t, .string u, .int .i64 l, .int .i64 cl] 64)) := (Below.refl _ _).alloc (Nat.le_refl _) _
  have HX : Hid (Box w.heap.size (Nd.mk 6 kd n s t u l cl) (w.alloc (.cells #[.int .i8 6, .int .i64 kd, .int .i64 n, .string s, .string t, .string u, .int .i64 l, .int .i64 cl] 64))) := Lib.hid (MapKept.heap_alloc w _).1
  have HC1 := Lib.hid (h.later hb0)
  have HK1 : Hid (Keep c w (w.alloc (.cells #[.int .i8 6, .int .i64 kd, .int .i64 n, .string s, .string t, .string u, .int .i64 l, .int .i64 cl] 64))) := Lib.hid (Keep.of hb0)
  have HCW : Hid (w.heap.size ≠ c) := Lib.hid (by have := h.lt; omega)
  have x0 : ((w.alloc (.cells #[.int .i8 6, .int .i64 kd, .int .i64 n, .string s, .string t, .string u, .int .i64 l, .int .i64 cl] 64))).cell? ⟨w.heap.size, 0, none⟩ = some (.int .i8 6) := HX.out.cell 0
  have x4 : ((w.alloc (.cells #[.int .i8 6, .int .i64 kd, .int .i64 n, .string s, .string t, .string u, .int .i64 l, .int .i64 cl] 64))).cell? ⟨w.heap.size, 4, none⟩ = some (.string t) := HX.out.cell 4
  have x5 : ((w.alloc (.cells #[.int .i8 6, .int .i64 kd, .int .i64 n, .string s, .string t, .string u, .int .i64 l, .int .i64 cl] 64))).cell? ⟨w.heap.size, 5, none⟩ = some (.string u) := HX.out.cell 5
  show Calls Tryz.prog _ #[_, _, .agg #[.int .i8 6, .int .i64 kd, .int .i64 n, .string s, .string t, .string u, .int .i64 l, .int .i64 cl], _, _] w _
  have hlm : (((p0, t0) :: K : List (Nat × Ty)).map Prod.fst).length = ((p0, t0) :: K : List (Nat × Ty)).length := List.length_map _
  rw [hlm] at hlC ⊢
  clear h hkc hlm hK hb0
  have q0 := HKV.out _ HK1.out 0 p0 rfl
  rw [Nat.add_zero] at q0
  obtain ⟨gy, Cy, rfl, r0, hl0, -⟩ := HC1.out.read HT0.out.1
  have c1 := HC1.out.c1
  clear hf2
  go_enter Tryz.func87, Tryz.ntmps87
  go_wp2_with fail
  refine wp_region_plan (S := fun w' => w'.cell? ⟨c, 1, none⟩ = some (.slice (some ⟨gy, 0, none⟩) ys.length Cy) ∧ w'.cell? ⟨g, o, none⟩ = some (.int .i64 (p0 : Int)) ∧ w'.cell? ⟨gy, p0, none⟩ = some (.string t0.str) ∧ w'.cell? ⟨w.heap.size, 4, none⟩ = some (.string t) ∧ w'.cell? ⟨w.heap.size, 5, none⟩ = some (.string u)) [(0, true), (1, true), (2, true), (3, true), (4, true), (5, true), (6, true), (7, true), (8, true), (9, true), (10, true), (11, true), (13, true), (14, true), (15, true), (12, false), (16, false)] (by kernel_rfl) (by kernel_rfl) (by kernel_rfl) (fun _ _ _ _ _ h => h) ⟨c1, q0, r0, x4, x5⟩ ?_
  intro HS
  repeat (first | (apply wpPlan_look; rfl; rfl; (intro wq hq; (try dsimp only at hq); go_split_ands; go_simp; (try rw [if_neg (by omega)]); (try rw [if_pos (by omega)]); try with_reducible rfl); simp only [Act.put, List.setIfInBounds_toArray, List.set_cons_zero, List.set_cons_succ]) | (apply wpPlan_skip; rfl; rfl; simp only [Act.put, List.setIfInBounds_toArray, List.set_cons_zero, List.set_cons_succ]) | (apply wpPlan_pass; rfl; rfl; assumption; simp only [Act.put, List.setIfInBounds_toArray, List.set_cons_zero, List.set_cons_succ]))
  apply wpPlan_call; rfl; rfl; rfl; rfl; kernel_rfl; exact HU2.out _; rfl; rintro E w4 ⟨rfl, rfl⟩
  refine ⟨_, rfl, as_S HS ?_⟩
  intro HS
  simp only [Act.put, List.setIfInBounds_toArray, List.set_cons_zero, List.set_cons_succ]
  repeat (first | (apply wpPlan_look; rfl; rfl; (intro wq hq; (try dsimp only at hq); go_split_ands; go_simp; (try rw [if_neg (by omega)]); (try rw [if_pos (by omega)]); try with_reducible rfl); simp only [Act.put, List.setIfInBounds_toArray, List.set_cons_zero, List.set_cons_succ]) | (apply wpPlan_skip; rfl; rfl; simp only [Act.put, List.setIfInBounds_toArray, List.set_cons_zero, List.set_cons_succ]) | (apply wpPlan_pass; rfl; rfl; assumption; simp only [Act.put, List.setIfInBounds_toArray, List.set_cons_zero, List.set_cons_succ]))
  apply wpPlan_call; rfl; rfl; rfl; rfl; kernel_rfl; exact HF.out _ (HC1.out.later (below_dn _ _)); rfl; rintro E w5 ⟨rfl, h5, k5⟩
  have y4 := k5.cell HS.2.2.2.1 HCW.out
  have y5 := k5.cell HS.2.2.2.2 HCW.out
  refine ⟨_, rfl, as_S ⟨h5.c1, k5.cell HS.2.1 hg, h5.cell HT0.out.1, y4, y5⟩ ?_⟩
  intro _
  have HC5 := Lib.hid h5
  have HK5 := Lib.hid (HK1.out.trans ((Keep.of (below_dn _ _)).trans k5))
  simp only [Act.put, List.setIfInBounds_toArray, List.set_cons_zero, List.set_cons_succ]
  repeat (first | (apply wpPlan_look; rfl; rfl; (intro wq hq; (try dsimp only at hq); go_split_ands; go_simp; (try rw [if_neg (by omega)]); (try rw [if_pos (by omega)]); try with_reducible rfl); simp only [Act.put, List.setIfInBounds_toArray, List.set_cons_zero, List.set_cons_succ]) | (apply wpPlan_skip; rfl; rfl; simp only [Act.put, List.setIfInBounds_toArray, List.set_cons_zero, List.set_cons_succ]) | (apply wpPlan_pass; rfl; rfl; assumption; simp only [Act.put, List.setIfInBounds_toArray, List.set_cons_zero, List.set_cons_succ]))
  apply wpPlan_done
  clear h5 k5 HS c1 q0 r0 x0 x4 x5 HF
  go_wp2_with fail
  refine wp_region_plan (S := fun w' => w'.cell? ⟨w.heap.size, 4, none⟩ = some (.string t) ∧ w'.cell? ⟨w.heap.size, 5, none⟩ = some (.string u)) [(0, true), (1, true), (4, true), (5, true), (2, false), (3, true), (6, false), (7, true), (8, true)] (by kernel_rfl) (by kernel_rfl) (by kernel_rfl) (fun _ _ _ _ _ h => h) ⟨y4, y5⟩ ?_
  intro HS
  repeat (first | (apply wpPlan_look; rfl; rfl; (intro wq hq; (try dsimp only at hq); go_split_ands; go_simp; (try rw [if_neg (by omega)]); (try rw [if_pos (by omega)]); try with_reducible rfl); simp only [Act.put, List.setIfInBounds_toArray, List.set_cons_zero, List.set_cons_succ]) | (apply wpPlan_skip; rfl; rfl; simp only [Act.put, List.setIfInBounds_toArray, List.set_cons_zero, List.set_cons_succ]) | (apply wpPlan_pass; rfl; rfl; assumption; simp only [Act.put, List.setIfInBounds_toArray, List.set_cons_zero, List.set_cons_succ]))
  apply wpPlan_call; rfl; rfl; rfl; rfl; kernel_rfl; exact HU1.out _; rfl; rintro E w4 ⟨rfl, rfl⟩
  refine ⟨_, rfl, as_S HS ?_⟩
  intro HS
  simp only [Act.put, List.setIfInBounds_toArray, List.set_cons_zero, List.set_cons_succ]
  repeat (first | (apply wpPlan_look; rfl; rfl; (intro wq hq; (try dsimp only at hq); go_split_ands; go_simp; (try rw [if_neg (by omega)]); (try rw [if_pos (by omega)]); try with_reducible rfl); simp only [Act.put, List.setIfInBounds_toArray, List.set_cons_zero, List.set_cons_succ]) | (apply wpPlan_skip; rfl; rfl; simp only [Act.put, List.setIfInBounds_toArray, List.set_cons_zero, List.set_cons_succ]) | (apply wpPlan_pass; rfl; rfl; assumption; simp only [Act.put, List.setIfInBounds_toArray, List.set_cons_zero, List.set_cons_succ]))
  apply wpPlan_call; rfl; rfl; rfl; rfl; kernel_rfl; exact HU2.out _; rfl; rintro E w4 ⟨rfl, rfl⟩
  refine ⟨_, rfl, as_S HS ?_⟩
  intro HS
  simp only [Act.put, List.setIfInBounds_toArray, List.set_cons_zero, List.set_cons_succ]
  repeat (first | (apply wpPlan_look; rfl; rfl; (intro wq hq; (try dsimp only at hq); go_split_ands; go_simp; (try rw [if_neg (by omega)]); (try rw [if_pos (by omega)]); try with_reducible rfl); simp only [Act.put, List.setIfInBounds_toArray, List.set_cons_zero, List.set_cons_succ]) | (apply wpPlan_skip; rfl; rfl; simp only [Act.put, List.setIfInBounds_toArray, List.set_cons_zero, List.set_cons_succ]) | (apply wpPlan_pass; rfl; rfl; assumption; simp only [Act.put, List.setIfInBounds_toArray, List.set_cons_zero, List.set_cons_succ]))
  apply wpPlan_done
  have HC6 := Lib.hid (HC5.out.later (below_dn _ 1))
  have HK6 : Hid (Keep c w _) := Lib.hid (HK5.out.trans (Keep.of (below_dn _ 1)))
  clear HS y4 y5
  go_wp2_with fail
  go_ret
  exact RkRule.mk HG.out (fun v hv => by have := HV.out v hv; injection this with this; subst this; exact fn_str _ _) HK6.out HC6.out
set_option maxRecDepth 100000 in
set_option maxHeartbeats 1600000 in
theorem rrule_8 (hk : x.kind = 8) (hK : KidsV c w kv (([(p0, t0), (p1, t1)]).map Prod.fst)) (hT : Told ys ([(p0, t0), (p1, t1)])) (h : RkAt c B sm tv yv ys 0 a w) (h1 : NoteOk x.t):
    Calls Tryz.prog 87 #[.pointer (some ⟨c, 0, none⟩), .int .i64 (p : Int), x.val, kv, iv] w (RkRule c B sm tv yv ys a (Tr.fitG sm (.ok t1) t0 (Tr.noteT x.t) 23 p0) w) := by
  have HT0 := Lib.hid (hT _ List.mem_cons_self)
  have HT1 := Lib.hid (hT (p1, t1) (by simp))
  have HU1 := Lib.hid (r8Note_any x.t h1)
  have hf1 := h1.fits
  clear h1
  generalize Tr.noteT x.t = S1 at *
  have HF := Lib.hid (fun w' h' => rfitsR c B sm tv yv ys a w' (.ok t1) (Tr.good_ok _) 23 p0 t0 S1 HT0.out.2 hf1 (by decide) h')
  have HG := Lib.hid (Tr.fitG_goodT (same := sm) (R := .ok t1) (s := t0) (t := S1) (p := p0) (Tr.good_ok _))
  have HV := Lib.hid (fun v (h : Tr.fitG sm (.ok t1) t0 S1 23 p0 = .ok v) => Tr.fitG_ok h)
  rw [show ((23 : Nat) : Int) = 23 from rfl] at HF
  generalize Tr.fitG sm (.ok t1) t0 S1 23 p0 = R at *
  obtain ⟨k, kd, n, s, t, u, l, cl⟩ := x
  obtain rfl : k = 8 := hk
  obtain ⟨g, o, C, rfl, hlC, hg, hkc⟩ := hK.shape
  have HKV := Lib.hid hkc
  have hb0 : Below w.heap.size w (w.alloc (.cells #[.int .i8 8, .int .i64 kd, .int .i64 n, .string s, .string t, .string u, .int .i64 l, .int .i64 cl] 64)) := (Below.refl _ _).alloc (Nat.le_refl _) _
  have HX : Hid (Box w.heap.size (Nd.mk 8 kd n s t u l cl) (w.alloc (.cells #[.int .i8 8, .int .i64 kd, .int .i64 n, .string s, .string t, .string u, .int .i64 l, .int .i64 cl] 64))) := Lib.hid (MapKept.heap_alloc w _).1
  have HC1 := Lib.hid (h.later hb0)
  have HK1 : Hid (Keep c w (w.alloc (.cells #[.int .i8 8, .int .i64 kd, .int .i64 n, .string s, .string t, .string u, .int .i64 l, .int .i64 cl] 64))) := Lib.hid (Keep.of hb0)
  have HCW : Hid (w.heap.size ≠ c) := Lib.hid (by have := h.lt; omega)
  have x0 : ((w.alloc (.cells #[.int .i8 8, .int .i64 kd, .int .i64 n, .string s, .string t, .string u, .int .i64 l, .int .i64 cl] 64))).cell? ⟨w.heap.size, 0, none⟩ = some (.int .i8 8) := HX.out.cell 0
  have x4 : ((w.alloc (.cells #[.int .i8 8, .int .i64 kd, .int .i64 n, .string s, .string t, .string u, .int .i64 l, .int .i64 cl] 64))).cell? ⟨w.heap.size, 4, none⟩ = some (.string t) := HX.out.cell 4
  have x5 : ((w.alloc (.cells #[.int .i8 8, .int .i64 kd, .int .i64 n, .string s, .string t, .string u, .int .i64 l, .int .i64 cl] 64))).cell? ⟨w.heap.size, 5, none⟩ = some (.string u) := HX.out.cell 5
  show Calls Tryz.prog _ #[_, _, .agg #[.int .i8 8, .int .i64 kd, .int .i64 n, .string s, .string t, .string u, .int .i64 l, .int .i64 cl], _, _] w _
  have hlm : (([(p0, t0), (p1, t1)] : List (Nat × Ty)).map Prod.fst).length = ([(p0, t0), (p1, t1)] : List (Nat × Ty)).length := List.length_map _
  rw [hlm] at hlC ⊢
  clear h hkc hlm hK hb0
  have q0 := HKV.out _ HK1.out 0 p0 rfl
  rw [Nat.add_zero] at q0
  obtain ⟨gy, Cy, rfl, r0, hl0, -⟩ := HC1.out.read HT0.out.1
  have c1 := HC1.out.c1
  clear hf1
  go_enter Tryz.func87, Tryz.ntmps87
  go_wp2_with fail
  refine wp_region_plan (S := fun w' => w'.cell? ⟨c, 1, none⟩ = some (.slice (some ⟨gy, 0, none⟩) ys.length Cy) ∧ w'.cell? ⟨g, o, none⟩ = some (.int .i64 (p0 : Int)) ∧ w'.cell? ⟨gy, p0, none⟩ = some (.string t0.str) ∧ w'.cell? ⟨w.heap.size, 4, none⟩ = some (.string t) ∧ w'.cell? ⟨w.heap.size, 5, none⟩ = some (.string u)) [(0, true), (1, true), (2, true), (3, true), (4, true), (5, true), (6, true), (7, true), (8, true), (9, true), (10, true), (11, true), (13, true), (14, true), (15, true), (12, false), (16, false)] (by kernel_rfl) (by kernel_rfl) (by kernel_rfl) (fun _ _ _ _ _ h => h) ⟨c1, q0, r0, x4, x5⟩ ?_
  intro HS
  repeat (first | (apply wpPlan_look; rfl; rfl; (intro wq hq; (try dsimp only at hq); go_split_ands; go_simp; (try rw [if_neg (by omega)]); (try rw [if_pos (by omega)]); try with_reducible rfl); simp only [Act.put, List.setIfInBounds_toArray, List.set_cons_zero, List.set_cons_succ]) | (apply wpPlan_skip; rfl; rfl; simp only [Act.put, List.setIfInBounds_toArray, List.set_cons_zero, List.set_cons_succ]) | (apply wpPlan_pass; rfl; rfl; assumption; simp only [Act.put, List.setIfInBounds_toArray, List.set_cons_zero, List.set_cons_succ]))
  apply wpPlan_call; rfl; rfl; rfl; rfl; kernel_rfl; exact HU1.out _; rfl; rintro E w4 ⟨rfl, rfl⟩
  refine ⟨_, rfl, as_S HS ?_⟩
  intro HS
  simp only [Act.put, List.setIfInBounds_toArray, List.set_cons_zero, List.set_cons_succ]
  repeat (first | (apply wpPlan_look; rfl; rfl; (intro wq hq; (try dsimp only at hq); go_split_ands; go_simp; (try rw [if_neg (by omega)]); (try rw [if_pos (by omega)]); try with_reducible rfl); simp only [Act.put, List.setIfInBounds_toArray, List.set_cons_zero, List.set_cons_succ]) | (apply wpPlan_skip; rfl; rfl; simp only [Act.put, List.setIfInBounds_toArray, List.set_cons_zero, List.set_cons_succ]) | (apply wpPlan_pass; rfl; rfl; assumption; simp only [Act.put, List.setIfInBounds_toArray, List.set_cons_zero, List.set_cons_succ]))
  apply wpPlan_call; rfl; rfl; rfl; rfl; kernel_rfl; exact HF.out _ (HC1.out.later (below_dn _ _)); rfl; rintro E w5 ⟨rfl, h5, k5⟩
  refine ⟨_, rfl, as_S ⟨h5.c1, k5.cell HS.2.1 hg, h5.cell HT0.out.1, k5.cell HS.2.2.2.1 HCW.out, k5.cell HS.2.2.2.2 HCW.out⟩ ?_⟩
  intro _
  have HC5 := Lib.hid h5
  have HK5 := Lib.hid (HK1.out.trans ((Keep.of (below_dn _ _)).trans k5))
  simp only [Act.put, List.setIfInBounds_toArray, List.set_cons_zero, List.set_cons_succ]
  repeat (first | (apply wpPlan_look; rfl; rfl; (intro wq hq; (try dsimp only at hq); go_split_ands; go_simp; (try rw [if_neg (by omega)]); (try rw [if_pos (by omega)]); try with_reducible rfl); simp only [Act.put, List.setIfInBounds_toArray, List.set_cons_zero, List.set_cons_succ]) | (apply wpPlan_skip; rfl; rfl; simp only [Act.put, List.setIfInBounds_toArray, List.set_cons_zero, List.set_cons_succ]) | (apply wpPlan_pass; rfl; rfl; assumption; simp only [Act.put, List.setIfInBounds_toArray, List.set_cons_zero, List.set_cons_succ]))
  apply wpPlan_done
  have q1 := HKV.out _ HK5.out 1 p1 rfl
  have r1 := HC5.out.cell HT1.out.1
  have c1' := HC5.out.c1
  have hl1 : p1 < ys.length := (List.getElem?_eq_some_iff.1 HT1.out.1).1
  clear h5 k5 HS c1 q0 r0 x0 x4 x5 HF
  have HC6 := Lib.hid (fun nq => HC5.out.later (below_dn w5 nq))
  have HK6 : Hid (∀ nq, Keep c w (w5.drewN nq)) := Lib.hid (fun nq => HK5.out.trans (Keep.of (below_dn w5 nq)))
  go_wp2_with fail
  go_quiet (fail)
  go_wp2_with fail
  go_ret
  exact RkRule.mk HG.out (fun v hv => by have := HV.out v hv; injection this with this; subst this; rfl) (HK6.out _) (HC6.out _)
set_option maxRecDepth 100000 in
set_option maxHeartbeats 1600000 in
theorem rrule_7 (hk : x.kind = 7) (hK : KidsV c w kv (([(p0, t0), (p1, t1)]).map Prod.fst)) (hT : Told ys ([(p0, t0), (p1, t1)])) (h : RkAt c B sm tv yv ys 0 a w) :
    Calls Tryz.prog 87 #[.pointer (some ⟨c, 0, none⟩), .int .i64 (p : Int), x.val, kv, iv] w (RkRule c B sm tv yv ys a (Tr.callG sm p0 t0 p1 t1) w) := by
  have HT0 := Lib.hid (hT _ List.mem_cons_self)
  have HT1 := Lib.hid (hT (p1, t1) (by simp))
  have HM := Lib.hid (fun w' h' => rhead_any c B sm tv yv ys a w' p0 0 t0 HT0.out.2 62 (.inl ⟨.inl rfl, by decide⟩) HT0.out.1 h')
  have hG1 := Tr.partT_good p0 t0 62 0
  have hF1 := Tr.partT_fits (p := p0) (h := 62) (k := 0) HT0.out.2
  unfold Tr.callG
  generalize Tr.partT p0 t0 62 0 = R1 at *
  have HM2 := Lib.hid (fun w' h' => rheadR c B sm tv yv ys a w' R1 hG1 p0 1 t0 HT0.out.2 62 (.inl ⟨.inl rfl, by decide⟩) HT0.out.1 h')
  have hG2 := Tr.thenPart_good (p := p0) (t := t0) (h := 62) (k := 1) hG1
  generalize Tr.thenPart R1 p0 t0 62 1 = R2 at *
  have HF := Lib.hid (fun w' h' => rfitsR c B sm tv yv ys a w' R2 hG2 23 p1 t1 (Tr.tyQ R1) HT1.out.2 (Tr.tyQ_fits hF1) (by decide) h')
  have HG := Lib.hid (Tr.fitG_goodT (same := sm) (R := R2) (s := t1) (t := Tr.tyQ R1) (p := p1) hG2)
  have HV := Lib.hid (fun v (h : Tr.fitG sm R2 t1 (Tr.tyQ R1) 23 p1 = .ok v) => Tr.fitG_ok h)
  rw [show ((23 : Nat) : Int) = 23 from rfl, ← Tr.strQ_ty] at HF
  clear hG1 hF1 hG2
  generalize Tr.fitG sm R2 t1 (Tr.tyQ R1) 23 p1 = R at *
  obtain ⟨k, kd, n, s, t, u, l, cl⟩ := x
  obtain rfl : k = 7 := hk
  obtain ⟨g, o, C, rfl, hlC, hg, hkc⟩ := hK.shape
  have HKV := Lib.hid hkc
  have hb0 : Below w.heap.size w (w.alloc (.cells #[.int .i8 7, .int .i64 kd, .int .i64 n, .string s, .string t, .string u, .int .i64 l, .int .i64 cl] 64)) := (Below.refl _ _).alloc (Nat.le_refl _) _
  have HX : Hid (Box w.heap.size (Nd.mk 7 kd n s t u l cl) (w.alloc (.cells #[.int .i8 7, .int .i64 kd, .int .i64 n, .string s, .string t, .string u, .int .i64 l, .int .i64 cl] 64))) := Lib.hid (MapKept.heap_alloc w _).1
  have HC1 := Lib.hid (h.later hb0)
  have HK1 : Hid (Keep c w (w.alloc (.cells #[.int .i8 7, .int .i64 kd, .int .i64 n, .string s, .string t, .string u, .int .i64 l, .int .i64 cl] 64))) := Lib.hid (Keep.of hb0)
  have HCW : Hid (w.heap.size ≠ c) := Lib.hid (by have := h.lt; omega)
  have x0 : ((w.alloc (.cells #[.int .i8 7, .int .i64 kd, .int .i64 n, .string s, .string t, .string u, .int .i64 l, .int .i64 cl] 64))).cell? ⟨w.heap.size, 0, none⟩ = some (.int .i8 7) := HX.out.cell 0
  have x4 : ((w.alloc (.cells #[.int .i8 7, .int .i64 kd, .int .i64 n, .string s, .string t, .string u, .int .i64 l, .int .i64 cl] 64))).cell? ⟨w.heap.size, 4, none⟩ = some (.string t) := HX.out.cell 4
  have x5 : ((w.alloc (.cells #[.int .i8 7, .int .i64 kd, .int .i64 n, .string s, .string t, .string u, .int .i64 l, .int .i64 cl] 64))).cell? ⟨w.heap.size, 5, none⟩ = some (.string u) := HX.out.cell 5
  show Calls Tryz.prog _ #[_, _, .agg #[.int .i8 7, .int .i64 kd, .int .i64 n, .string s, .string t, .string u, .int .i64 l, .int .i64 cl], _, _] w _
  have hlm : (([(p0, t0), (p1, t1)] : List (Nat × Ty)).map Prod.fst).length = ([(p0, t0), (p1, t1)] : List (Nat × Ty)).length := List.length_map _
  rw [hlm] at hlC ⊢
  clear h hkc hlm hK hb0
  have q0 := HKV.out _ HK1.out 0 p0 rfl
  rw [Nat.add_zero] at q0
  go_enter Tryz.func87, Tryz.ntmps87
  go_wp2_with fail
  refine (HM.out _ HC1.out).mono ?_
  rintro E w2 ⟨rfl, h2, k2⟩
  have HC2 := Lib.hid h2
  have HK2 := Lib.hid (HK1.out.trans k2)
  have q0' := HKV.out _ HK2.out 0 p0 rfl
  rw [Nat.add_zero] at q0'
  clear h2 k2 x0 x4 x5 q0
  go_wp2_with fail
  refine (HM2.out _ HC2.out).mono ?_
  rintro E w3 ⟨rfl, h3, k3⟩
  have HC3 := Lib.hid h3
  have HK3 := Lib.hid (HK2.out.trans k3)
  clear h3 k3 q0'
  obtain ⟨gy, Cy, rfl, r1, hl1, -⟩ := HC3.out.read HT1.out.1
  have c1 := HC3.out.c1
  have q1 := HKV.out _ HK3.out 1 p1 rfl
  go_wp2_with fail
  refine wp_region_plan (S := fun w' => w'.cell? ⟨c, 1, none⟩ = some (.slice (some ⟨gy, 0, none⟩) ys.length Cy) ∧ w'.cell? ⟨g, o + 1, none⟩ = some (.int .i64 (p1 : Int)) ∧ w'.cell? ⟨gy, p1, none⟩ = some (.string t1.str)) [(0, true), (1, true), (2, true), (3, true), (4, true), (5, true), (6, true), (7, true), (8, true), (9, true), (10, true), (11, true), (12, true), (13, true), (14, false)] (by kernel_rfl) (by kernel_rfl) (by kernel_rfl) (fun _ _ _ _ _ h => h) ⟨c1, q1, r1⟩ ?_
  intro HS
  repeat (first | (apply wpPlan_look; rfl; rfl; (intro wq hq; (try dsimp only at hq); go_split_ands; go_simp; (try rw [if_neg (by omega)]); (try rw [if_pos (by omega)]); try with_reducible rfl); simp only [Act.put, List.setIfInBounds_toArray, List.set_cons_zero, List.set_cons_succ]) | (apply wpPlan_skip; rfl; rfl; simp only [Act.put, List.setIfInBounds_toArray, List.set_cons_zero, List.set_cons_succ]) | (apply wpPlan_pass; rfl; rfl; assumption; simp only [Act.put, List.setIfInBounds_toArray, List.set_cons_zero, List.set_cons_succ]))
  apply wpPlan_call; rfl; rfl; rfl; rfl; kernel_rfl; exact HF.out _ (HC3.out.later (below_dn _ _)); rfl; rintro E w5 ⟨rfl, h5, k5⟩
  refine ⟨_, rfl, as_S ⟨h5.c1, k5.cell HS.2.1 hg, h5.cell HT1.out.1⟩ ?_⟩
  intro _
  have HC5 := Lib.hid h5
  have HK5 := Lib.hid (HK3.out.trans ((Keep.of (below_dn _ _)).trans k5))
  simp only [Act.put, List.setIfInBounds_toArray, List.set_cons_zero, List.set_cons_succ]
  repeat (first | (apply wpPlan_look; rfl; rfl; (intro wq hq; (try dsimp only at hq); go_split_ands; go_simp; (try rw [if_neg (by omega)]); (try rw [if_pos (by omega)]); try with_reducible rfl); simp only [Act.put, List.setIfInBounds_toArray, List.set_cons_zero, List.set_cons_succ]) | (apply wpPlan_skip; rfl; rfl; simp only [Act.put, List.setIfInBounds_toArray, List.set_cons_zero, List.set_cons_succ]) | (apply wpPlan_pass; rfl; rfl; assumption; simp only [Act.put, List.setIfInBounds_toArray, List.set_cons_zero, List.set_cons_succ]))
  apply wpPlan_done
  clear h5 k5 HS c1 q1 r1 HF
  go_wp2_with fail
  go_ret
  exact RkRule.mk HG.out (fun v hv => by rw [HV.out v hv]; rfl) HK5.out HC5.out
set_option maxRecDepth 100000 in
set_option maxHeartbeats 1600000 in
theorem rrule_9 (hk : x.kind = 9) (hK : KidsV c w kv (([(p0, t0), (p1, t1), (p2, t2)]).map Prod.fst)) (hT : Told ys ([(p0, t0), (p1, t1), (p2, t2)])) (h : RkAt c B sm tv yv ys 0 a w) :
    Calls Tryz.prog 87 #[.pointer (some ⟨c, 0, none⟩), .int .i64 (p : Int), x.val, kv, iv] w (RkRule c B sm tv yv ys a (Tr.ifG sm p p0 t0 t1 [(p2, t2)]) w) := by
  have HT0 := Lib.hid (hT _ List.mem_cons_self)
  have HF : Hid (∀ w', RkAt c B sm tv yv ys 0 a w' → Calls Tryz.prog 105 #[.pointer (some ⟨c, 0, none⟩), .string t0.str, .string { data := #[98] }, .int .i64 23, .int .i64 (p0 : Int)] w' (RkRes (.tuple #[]) c B sm tv yv ys (Tr.stE (Tr.fitT sm t0 .bool 23 p0)) (Tr.stA a (Tr.fitT sm t0 .bool 23 p0)) w')) := Lib.hid (fun w' h' => rfits_ok c B sm tv yv ys a w' 23 p0 t0 .bool HT0.out.2 (by unfold Ty.fits; decide) (by decide) _ rfl h')
  have hG1 := Tr.fitT_good (same := sm) (s := t0) (t := .bool) (n := 23) (p := p0) (by decide)
  have HKV4 : Hid (∀ w', Keep c w w' → KidsV c w' kv [p0, p1, p2]) := Lib.hid (fun w' k => hK.keep k)
  have HMM0 := Lib.hid (fun v w' h' hk' => rmeets_any c B sm tv yv ys a w' p p1 t1 [(p2, t2)] v hk' (fun y hy => hT y (List.mem_cons_of_mem _ hy)) (by simp) h')
  have HGM := Lib.hid (Tr.meetsT_good (same := sm) (p := p) [(p2, t2)] t1)
  unfold Tr.ifG
  generalize Tr.fitT sm t0 .bool 23 p0 = R1 at *
  generalize Tr.meetsT sm p t1 [(p2, t2)] = RM at *
  have HG1 := Lib.hid hG1
  clear hG1
  obtain ⟨k, kd, n, s, t, u, l, cl⟩ := x
  obtain rfl : k = 9 := hk
  obtain ⟨g, o, C, rfl, hlC, hg, hkc⟩ := hK.shape
  have HKV := Lib.hid hkc
  have hb0 : Below w.heap.size w (w.alloc (.cells #[.int .i8 9, .int .i64 kd, .int .i64 n, .string s, .string t, .string u, .int .i64 l, .int .i64 cl] 64)) := (Below.refl _ _).alloc (Nat.le_refl _) _
  have HX : Hid (Box w.heap.size (Nd.mk 9 kd n s t u l cl) (w.alloc (.cells #[.int .i8 9, .int .i64 kd, .int .i64 n, .string s, .string t, .string u, .int .i64 l, .int .i64 cl] 64))) := Lib.hid (MapKept.heap_alloc w _).1
  have HC1 := Lib.hid (h.later hb0)
  have HK1 : Hid (Keep c w (w.alloc (.cells #[.int .i8 9, .int .i64 kd, .int .i64 n, .string s, .string t, .string u, .int .i64 l, .int .i64 cl] 64))) := Lib.hid (Keep.of hb0)
  have HCW : Hid (w.heap.size ≠ c) := Lib.hid (by have := h.lt; omega)
  have x0 : ((w.alloc (.cells #[.int .i8 9, .int .i64 kd, .int .i64 n, .string s, .string t, .string u, .int .i64 l, .int .i64 cl] 64))).cell? ⟨w.heap.size, 0, none⟩ = some (.int .i8 9) := HX.out.cell 0
  have x4 : ((w.alloc (.cells #[.int .i8 9, .int .i64 kd, .int .i64 n, .string s, .string t, .string u, .int .i64 l, .int .i64 cl] 64))).cell? ⟨w.heap.size, 4, none⟩ = some (.string t) := HX.out.cell 4
  have x5 : ((w.alloc (.cells #[.int .i8 9, .int .i64 kd, .int .i64 n, .string s, .string t, .string u, .int .i64 l, .int .i64 cl] 64))).cell? ⟨w.heap.size, 5, none⟩ = some (.string u) := HX.out.cell 5
  show Calls Tryz.prog _ #[_, _, .agg #[.int .i8 9, .int .i64 kd, .int .i64 n, .string s, .string t, .string u, .int .i64 l, .int .i64 cl], _, _] w _
  have hlm : (([(p0, t0), (p1, t1), (p2, t2)] : List (Nat × Ty)).map Prod.fst).length = ([(p0, t0), (p1, t1), (p2, t2)] : List (Nat × Ty)).length := List.length_map _
  rw [hlm] at hlC ⊢
  clear h hkc hlm hK hb0
  have HKV3 : Hid (∀ w', Keep c w w' → KidsV c w' (.slice (some ⟨g, o + 1, none⟩) 2 (C - 1)) [p1, p2]) := Lib.hid (fun w' k => (HKV4.out w' k).tail)
  have HMM := Lib.hid (fun w' h' hk' => HMM0.out (.slice (some ⟨g, o + 1, none⟩) 2 (C - 1)) w' h' hk')
  clear HKV4 HMM0
  have q0 := HKV.out _ HK1.out 0 p0 rfl
  rw [Nat.add_zero] at q0
  obtain ⟨gy, Cy, rfl, r0, hl0, -⟩ := HC1.out.read HT0.out.1
  have c1 := HC1.out.c1
  go_enter Tryz.func87, Tryz.ntmps87
  go_wp2_with fail
  refine wp_region_plan (S := fun w' => w'.cell? ⟨c, 1, none⟩ = some (.slice (some ⟨gy, 0, none⟩) ys.length Cy) ∧ w'.cell? ⟨g, o, none⟩ = some (.int .i64 (p0 : Int)) ∧ w'.cell? ⟨gy, p0, none⟩ = some (.string t0.str) ∧ w'.cell? ⟨w.heap.size, 4, none⟩ = some (.string t) ∧ w'.cell? ⟨w.heap.size, 5, none⟩ = some (.string u)) [(0, true), (1, true), (2, true), (3, true), (4, true), (5, true), (6, true), (7, true), (8, true), (9, true), (10, true), (11, true), (12, true), (13, false)] (by kernel_rfl) (by kernel_rfl) (by kernel_rfl) (fun _ _ _ _ _ h => h) ⟨c1, q0, r0, x4, x5⟩ ?_
  intro HS
  repeat (first | (apply wpPlan_look; rfl; rfl; (intro wq hq; (try dsimp only at hq); go_split_ands; go_simp; (try rw [if_neg (by omega)]); (try rw [if_pos (by omega)]); try with_reducible rfl); simp only [Act.put, List.setIfInBounds_toArray, List.set_cons_zero, List.set_cons_succ]) | (apply wpPlan_skip; rfl; rfl; simp only [Act.put, List.setIfInBounds_toArray, List.set_cons_zero, List.set_cons_succ]) | (apply wpPlan_pass; rfl; rfl; assumption; simp only [Act.put, List.setIfInBounds_toArray, List.set_cons_zero, List.set_cons_succ]))
  apply wpPlan_call; rfl; rfl; rfl; rfl; kernel_rfl; exact HF.out _ (HC1.out.later (below_dn _ _)); rfl; rintro E w5 ⟨rfl, h5, k5⟩
  refine ⟨_, rfl, as_S ⟨h5.c1, k5.cell HS.2.1 hg, h5.cell HT0.out.1, k5.cell HS.2.2.2.1 HCW.out, k5.cell HS.2.2.2.2 HCW.out⟩ ?_⟩
  intro _
  have HC5 := Lib.hid h5
  have HK5 := Lib.hid (HK1.out.trans ((Keep.of (below_dn _ _)).trans k5))
  simp only [Act.put, List.setIfInBounds_toArray, List.set_cons_zero, List.set_cons_succ]
  repeat (first | (apply wpPlan_look; rfl; rfl; (intro wq hq; (try dsimp only at hq); go_split_ands; go_simp; (try rw [if_neg (by omega)]); (try rw [if_pos (by omega)]); try with_reducible rfl); simp only [Act.put, List.setIfInBounds_toArray, List.set_cons_zero, List.set_cons_succ]) | (apply wpPlan_skip; rfl; rfl; simp only [Act.put, List.setIfInBounds_toArray, List.set_cons_zero, List.set_cons_succ]) | (apply wpPlan_pass; rfl; rfl; assumption; simp only [Act.put, List.setIfInBounds_toArray, List.set_cons_zero, List.set_cons_succ]))
  apply wpPlan_done
  clear h5 k5 HS c1 q0 r0 x0 x4 x5 HF
  cases R1 with
  | error b =>
    have c2 : w5.cell? ⟨c, 2, none⟩ = some (.int .i64 b.1) := HC5.out.c2
    have hbz : (b.1 != 0) = true := by
      have := HG1.out b rfl
      simpa using this
    go_wp2_with fail
    go_ret
    exact RkRule.mk (r := .error b) (fun b' hb => HG1.out b' (by injection hb with hb; rw [hb])) (fun v hv => by cases hv) HK5.out HC5.out
  | ok v =>
    have c2 : w5.cell? ⟨c, 2, none⟩ = some (.int .i64 0) := HC5.out.c2
    have HMX := Lib.hid (HMM.out _ HC5.out (HKV3.out _ HK5.out))
    have hC3 : 1 ≤ C := by have := hlC; simp at this; omega
    have hC4 : ¬ (C = 1) := by have := hlC; simp at this; omega
    go_wp2_with fail
    refine HMX.out.mono ?_
    rintro E w6 ⟨rfl, h6, k6⟩
    have HC6 := Lib.hid h6
    have HK6 := Lib.hid (HK5.out.trans k6)
    clear h6 k6
    go_wp2_with fail
    go_ret
    exact RkRule.mk HGM.out (fun v hv => by rw [hv]; rfl) HK6.out HC6.out
set_option maxRecDepth 100000 in
set_option maxHeartbeats 1600000 in
theorem rrule_1 (hk : x.kind = 1) (h : RkAt c B sm tv yv ys 0 a w) :
    Calls Tryz.prog 87 #[.pointer (some ⟨c, 0, none⟩), .int .i64 (p : Int), x.val, kv, iv] w (RkRule c B sm tv yv ys a (.ok .int) w) := by
  obtain ⟨k, kd, n, s, t, u, l, cl⟩ := x
  obtain rfl : k = 1 := hk
  have hb0 : Below w.heap.size w (w.alloc (.cells #[.int .i8 1, .int .i64 kd, .int .i64 n, .string s, .string t, .string u, .int .i64 l, .int .i64 cl] 64)) := (Below.refl _ _).alloc (Nat.le_refl _) _
  have HX : Hid (Box w.heap.size (Nd.mk 1 kd n s t u l cl) (w.alloc (.cells #[.int .i8 1, .int .i64 kd, .int .i64 n, .string s, .string t, .string u, .int .i64 l, .int .i64 cl] 64))) := Lib.hid (MapKept.heap_alloc w _).1
  have HC1 := Lib.hid (h.later hb0)
  have HK1 : Hid (Keep c w (w.alloc (.cells #[.int .i8 1, .int .i64 kd, .int .i64 n, .string s, .string t, .string u, .int .i64 l, .int .i64 cl] 64))) := Lib.hid (Keep.of hb0)
  have x0 : ((w.alloc (.cells #[.int .i8 1, .int .i64 kd, .int .i64 n, .string s, .string t, .string u, .int .i64 l, .int .i64 cl] 64))).cell? ⟨w.heap.size, 0, none⟩ = some (.int .i8 1) := HX.out.cell 0
  show Calls Tryz.prog _ #[_, _, .agg #[.int .i8 1, .int .i64 kd, .int .i64 n, .string s, .string t, .string u, .int .i64 l, .int .i64 cl], _, _] w _
  clear h hb0
  go_enter Tryz.func87, Tryz.ntmps87
  go_wp2_with fail
  go_ret
  exact RkRule.mk (r := .ok _) (Tr.good_ok _) (fun t ht => by injection ht with ht; subst ht; rfl) HK1.out HC1.out
set_option maxRecDepth 100000 in
set_option maxHeartbeats 1600000 in
theorem rrule_2 (hk : x.kind = 2) (h : RkAt c B sm tv yv ys 0 a w) :
    Calls Tryz.prog 87 #[.pointer (some ⟨c, 0, none⟩), .int .i64 (p : Int), x.val, kv, iv] w (RkRule c B sm tv yv ys a (.ok .text) w) := by
  obtain ⟨k, kd, n, s, t, u, l, cl⟩ := x
  obtain rfl : k = 2 := hk
  have hb0 : Below w.heap.size w (w.alloc (.cells #[.int .i8 2, .int .i64 kd, .int .i64 n, .string s, .string t, .string u, .int .i64 l, .int .i64 cl] 64)) := (Below.refl _ _).alloc (Nat.le_refl _) _
  have HX : Hid (Box w.heap.size (Nd.mk 2 kd n s t u l cl) (w.alloc (.cells #[.int .i8 2, .int .i64 kd, .int .i64 n, .string s, .string t, .string u, .int .i64 l, .int .i64 cl] 64))) := Lib.hid (MapKept.heap_alloc w _).1
  have HC1 := Lib.hid (h.later hb0)
  have HK1 : Hid (Keep c w (w.alloc (.cells #[.int .i8 2, .int .i64 kd, .int .i64 n, .string s, .string t, .string u, .int .i64 l, .int .i64 cl] 64))) := Lib.hid (Keep.of hb0)
  have x0 : ((w.alloc (.cells #[.int .i8 2, .int .i64 kd, .int .i64 n, .string s, .string t, .string u, .int .i64 l, .int .i64 cl] 64))).cell? ⟨w.heap.size, 0, none⟩ = some (.int .i8 2) := HX.out.cell 0
  show Calls Tryz.prog _ #[_, _, .agg #[.int .i8 2, .int .i64 kd, .int .i64 n, .string s, .string t, .string u, .int .i64 l, .int .i64 cl], _, _] w _
  clear h hb0
  go_enter Tryz.func87, Tryz.ntmps87
  go_wp2_with fail
  go_ret
  exact RkRule.mk (r := .ok _) (Tr.good_ok _) (fun t ht => by injection ht with ht; subst ht; rfl) HK1.out HC1.out
set_option maxRecDepth 100000 in
set_option maxHeartbeats 1600000 in
theorem rrule_3 (hk : x.kind = 3) (h : RkAt c B sm tv yv ys 0 a w) :
    Calls Tryz.prog 87 #[.pointer (some ⟨c, 0, none⟩), .int .i64 (p : Int), x.val, kv, iv] w (RkRule c B sm tv yv ys a (.ok .bool) w) := by
  obtain ⟨k, kd, n, s, t, u, l, cl⟩ := x
  obtain rfl : k = 3 := hk
  have hb0 : Below w.heap.size w (w.alloc (.cells #[.int .i8 3, .int .i64 kd, .int .i64 n, .string s, .string t, .string u, .int .i64 l, .int .i64 cl] 64)) := (Below.refl _ _).alloc (Nat.le_refl _) _
  have HX : Hid (Box w.heap.size (Nd.mk 3 kd n s t u l cl) (w.alloc (.cells #[.int .i8 3, .int .i64 kd, .int .i64 n, .string s, .string t, .string u, .int .i64 l, .int .i64 cl] 64))) := Lib.hid (MapKept.heap_alloc w _).1
  have HC1 := Lib.hid (h.later hb0)
  have HK1 : Hid (Keep c w (w.alloc (.cells #[.int .i8 3, .int .i64 kd, .int .i64 n, .string s, .string t, .string u, .int .i64 l, .int .i64 cl] 64))) := Lib.hid (Keep.of hb0)
  have x0 : ((w.alloc (.cells #[.int .i8 3, .int .i64 kd, .int .i64 n, .string s, .string t, .string u, .int .i64 l, .int .i64 cl] 64))).cell? ⟨w.heap.size, 0, none⟩ = some (.int .i8 3) := HX.out.cell 0
  show Calls Tryz.prog _ #[_, _, .agg #[.int .i8 3, .int .i64 kd, .int .i64 n, .string s, .string t, .string u, .int .i64 l, .int .i64 cl], _, _] w _
  clear h hb0
  go_enter Tryz.func87, Tryz.ntmps87
  go_wp2_with fail
  go_ret
  exact RkRule.mk (r := .ok _) (Tr.good_ok _) (fun t ht => by injection ht with ht; subst ht; rfl) HK1.out HC1.out
set_option maxRecDepth 100000 in
set_option maxHeartbeats 1600000 in
theorem rrule_data (h1 : ¬ (1 ≤ x.kind ∧ x.kind ≤ 17)) (R : Except Tr.Bad Ty) (hD : ∀ w', Below w.heap.size w w' → Calls Tryz.prog 109 #[.pointer (some ⟨c, 0, none⟩), .int .i64 (p : Int), x.val, kv] w' (RkRule c B sm tv yv ys a R w')) :
    Calls Tryz.prog 87 #[.pointer (some ⟨c, 0, none⟩), .int .i64 (p : Int), x.val, kv, iv] w (RkRule c B sm tv yv ys a R w) := by
  have hb0 : Below w.heap.size w (w.alloc (.cells #[.int .i8 x.kind, .int .i64 x.kids, .int .i64 x.n, .string x.s, .string x.t, .string x.u, .int .i64 x.line, .int .i64 x.col] 64)) := (Below.refl _ _).alloc (Nat.le_refl _) _
  have HX : Hid (Box w.heap.size x (w.alloc (.cells #[.int .i8 x.kind, .int .i64 x.kids, .int .i64 x.n, .string x.s, .string x.t, .string x.u, .int .i64 x.line, .int .i64 x.col] 64))) := Lib.hid (MapKept.heap_alloc w _).1
  have HD := Lib.hid (hD _ hb0)
  have HK1 : Hid (Keep c w (w.alloc (.cells #[.int .i8 x.kind, .int .i64 x.kids, .int .i64 x.n, .string x.s, .string x.t, .string x.u, .int .i64 x.line, .int .i64 x.col] 64))) := Lib.hid (Keep.of hb0)
  have x0 : ((w.alloc (.cells #[.int .i8 x.kind, .int .i64 x.kids, .int .i64 x.n, .string x.s, .string x.t, .string x.u, .int .i64 x.line, .int .i64 x.col] 64))).cell? ⟨w.heap.size, 0, none⟩ = some (.int .i8 x.kind) := HX.out.cell 0
  have x1 : ((w.alloc (.cells #[.int .i8 x.kind, .int .i64 x.kids, .int .i64 x.n, .string x.s, .string x.t, .string x.u, .int .i64 x.line, .int .i64 x.col] 64))).cell? ⟨w.heap.size, 1, none⟩ = some (.int .i64 x.kids) := HX.out.cell 1
  have x2 : ((w.alloc (.cells #[.int .i8 x.kind, .int .i64 x.kids, .int .i64 x.n, .string x.s, .string x.t, .string x.u, .int .i64 x.line, .int .i64 x.col] 64))).cell? ⟨w.heap.size, 2, none⟩ = some (.int .i64 x.n) := HX.out.cell 2
  have x3 : ((w.alloc (.cells #[.int .i8 x.kind, .int .i64 x.kids, .int .i64 x.n, .string x.s, .string x.t, .string x.u, .int .i64 x.line, .int .i64 x.col] 64))).cell? ⟨w.heap.size, 3, none⟩ = some (.string x.s) := HX.out.cell 3
  have x4 : ((w.alloc (.cells #[.int .i8 x.kind, .int .i64 x.kids, .int .i64 x.n, .string x.s, .string x.t, .string x.u, .int .i64 x.line, .int .i64 x.col] 64))).cell? ⟨w.heap.size, 4, none⟩ = some (.string x.t) := HX.out.cell 4
  have x5 : ((w.alloc (.cells #[.int .i8 x.kind, .int .i64 x.kids, .int .i64 x.n, .string x.s, .string x.t, .string x.u, .int .i64 x.line, .int .i64 x.col] 64))).cell? ⟨w.heap.size, 5, none⟩ = some (.string x.u) := HX.out.cell 5
  have x6 : ((w.alloc (.cells #[.int .i8 x.kind, .int .i64 x.kids, .int .i64 x.n, .string x.s, .string x.t, .string x.u, .int .i64 x.line, .int .i64 x.col] 64))).cell? ⟨w.heap.size, 6, none⟩ = some (.int .i64 x.line) := HX.out.cell 6
  have x7 : ((w.alloc (.cells #[.int .i8 x.kind, .int .i64 x.kids, .int .i64 x.n, .string x.s, .string x.t, .string x.u, .int .i64 x.line, .int .i64 x.col] 64))).cell? ⟨w.heap.size, 7, none⟩ = some (.int .i64 x.col) := HX.out.cell 7
  have e1 : (x.kind == 1) = false := beq_eq_false_iff_ne.2 (by omega)
  have e2 : (x.kind == 2) = false := beq_eq_false_iff_ne.2 (by omega)
  have e3 : (x.kind == 3) = false := beq_eq_false_iff_ne.2 (by omega)
  have e4 : (x.kind == 4) = false := beq_eq_false_iff_ne.2 (by omega)
  have e5 : (x.kind == 5) = false := beq_eq_false_iff_ne.2 (by omega)
  have e6 : (x.kind == 6) = false := beq_eq_false_iff_ne.2 (by omega)
  have e7 : (x.kind == 7) = false := beq_eq_false_iff_ne.2 (by omega)
  have e8 : (x.kind == 8) = false := beq_eq_false_iff_ne.2 (by omega)
  have e9 : (x.kind == 9) = false := beq_eq_false_iff_ne.2 (by omega)
  have e10 : (x.kind == 10) = false := beq_eq_false_iff_ne.2 (by omega)
  have e11 : (x.kind == 11) = false := beq_eq_false_iff_ne.2 (by omega)
  have e12 : (x.kind == 12) = false := beq_eq_false_iff_ne.2 (by omega)
  have e13 : (x.kind == 13) = false := beq_eq_false_iff_ne.2 (by omega)
  have e14 : (x.kind == 14) = false := beq_eq_false_iff_ne.2 (by omega)
  have e15 : (x.kind == 15) = false := beq_eq_false_iff_ne.2 (by omega)
  have e16 : (x.kind == 16) = false := beq_eq_false_iff_ne.2 (by omega)
  have e17 : (x.kind == 17) = false := beq_eq_false_iff_ne.2 (by omega)
  clear h1 hD hb0
  show Calls Tryz.prog _ #[_, _, .agg #[.int .i8 x.kind, .int .i64 x.kids, .int .i64 x.n, .string x.s, .string x.t, .string x.u, .int .i64 x.line, .int .i64 x.col], _, _] w _
  go_enter Tryz.func87, Tryz.ntmps87
  go_wp2_with fail
  refine HD.out.mono ?_
  rintro E w2 hr
  have HR := Lib.hid (hr.after HK1.out)
  obtain ⟨X, ⟨rfl, _⟩, _⟩ := hr
  clear x0 x1 x2 x3 x4 x5 x6 x7
  go_wp2_with fail
  go_ret
  exact HR.out
end
end Go.Proofs.YtdobaililmkkcaaGreatDoor

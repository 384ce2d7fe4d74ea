
/- Walks of parse: expressions. -/
import Derived.Test.YtnhdbjhdmdefmaaDoorZi
namespace Culp.Gr
set_option linter.unusedSimpArgs false
set_option linter.unusedVariables false
open Go Go.RowKit Culp Culp.Tr Go.Proofs.YtnhdbjhdmdefmaaDoor
section
variable {pb B i : Nat} {L : List Tok} {tv lv lv2 : Value} {e : Nat × Nat} {lg : List Nat} {w w1 w2 w' : World}
theorem PRes.from_ {α : Type} {R : World → Value → α → Prop} {spec : Except Nat (α × Nat × List Nat)} {E : Ending} (h : PRes R spec pb B L tv e lv2 w2 E w') (k1 : KeepN pb lv.ownBlock w w1) (k3 : lv2.ownBlock = lv.ownBlock ∨ ∃ b, lv2.ownBlock = some b ∧ w.heap.size ≤ b) (hb : Below w1.heap.size w1 w2) : PRes R spec pb B L tv e lv w E w' := by
  have h := PRes.up h hb
  cases spec with
  | error j => exact ⟨h.1, k1.trans h.2 k3⟩
  | ok r =>
    obtain ⟨v, h1, h2, h3⟩ := h
    exact ⟨v, h1, h2, Went.trans k1 k3 h3⟩
theorem Went.step (h : Went pb B L tv e lv i lg w w1) (hlt : i < L.length) : Went pb B L tv e lv (i + 1) lg w (w1.setCell ⟨pb, 1, none⟩ (.int .i64 ((i : Int) + 1))) := by
  obtain ⟨lv2, k1, k2, k3⟩ := h
  rw [show ((i : Int) + 1) = ((i + 1 : Nat) : Int) by omega]
  exact Went.trans k1 k3 ⟨lv2, keepN_cell _ _ _ _ _, k2.go (i + 1) hlt (by have := k2.few; omega), .inl rfl⟩
theorem Went.c1 (h : Went pb B L tv e lv i lg w w1) : w1.cell? ⟨pb, 1, none⟩ = some (.int .i64 i) := by
  obtain ⟨lv2, k1, k2, k3⟩ := h
  exact k2.blk.cell (i := 1) rfl
theorem Went.f1 (h : Went pb B L tv e lv i lg w w1) : w1.frozen? ⟨pb, 1, none⟩ = false := by
  obtain ⟨lv2, k1, k2, k3⟩ := h
  exact k2.blk.free 1
theorem px_fn {n x y : Nat} (h1 : isK L 1 i = true) (h2 : txt L i = sFn) (h3 : pl L i = (x, y)) : px L (n + 1) .expr i lg = bnd (param L (i + 1) lg) fun r => bnd (px L n .expr r.2.1 r.2.2) fun q => .ok (mk 5 (x, y) q.1 0 r.1.1 r.1.2.1 r.1.2.2, q.2) := by
  rw [px, h3, if_pos (by rw [h1, h2]; decide)]
theorem px_rec {n x y : Nat} (h1 : isK L 1 i = true) (h2 : txt L i = sRec) (h3 : pl L i = (x, y)) : px L (n + 1) .expr i lg = bnd (name L (i + 1)) fun a => bnd (param L a lg) fun r => bnd (px L n .expr r.2.1 r.2.2) fun q => .ok (mk 6 (x, y) q.1 0 (txt L (i + 1) ++ 32 :: r.1.1) r.1.2.1 r.1.2.2, q.2) := by
  rw [px, h3, if_neg (by rw [h1, h2]; decide), if_pos (by rw [h1, h2]; decide)]
theorem px_let {n x y : Nat} (h1 : isK L 1 i = true) (h2 : txt L i = sLet) (h3 : pl L i = (x, y)) : px L (n + 1) .expr i lg = bnd (name L (i + 1)) fun a => bnd (note L a lg) fun r => bnd (want L [61] r.2.1) fun b => bnd (px L n .expr b r.2.2) fun e => bnd (want L sIn e.2.1) fun c => bnd (px L n .expr c e.2.2) fun g => .ok (mk 8 (x, y) (cat e.1 g.1) 0 (txt L (i + 1)) r.1 [], g.2) := by
  rw [px, h3, if_neg (by rw [h1, h2]; decide), if_neg (by rw [h1, h2]; decide), if_pos (by rw [h1, h2]; decide)]
theorem px_if {n x y : Nat} (h1 : isK L 1 i = true) (h2 : txt L i = sIf) (h3 : pl L i = (x, y)) : px L (n + 1) .expr i lg = bnd (px L n .expr (i + 1) lg) fun e => bnd (want L sThen e.2.1) fun a => bnd (px L n .expr a e.2.2) fun g => bnd (want L sElse g.2.1) fun b => bnd (px L n .expr b g.2.2) fun h => .ok (mk 9 (x, y) (cat e.1 (cat g.1 h.1)) 0 [] [] [], h.2) := by
  rw [px, h3, if_neg (by rw [h1, h2]; decide), if_neg (by rw [h1, h2]; decide), if_neg (by rw [h1, h2]; decide), if_pos (by rw [h1, h2]; decide)]
theorem px_none {n : Nat} (h : isK L 1 i = true → txt L i ≠ sFn ∧ txt L i ≠ sRec ∧ txt L i ≠ sLet ∧ txt L i ≠ sIf) : px L (n + 1) .expr i lg = bnd (px L n (.bin 0) i lg) fun e => if isM L sSet e.2.1 then bnd (px L n .expr (e.2.1 + 1) e.2.2) fun g => .ok (mk 28 (pl L e.2.1) (cat e.1 g.1) 0 [] [] [], g.2) else .ok e := by
  have K : ∀ s, (isK L 1 i = true → txt L i ≠ s) → ¬ (isK L 1 i && txt L i == s) = true := fun s hs hh => by
    have h1 := and_l hh
    rw [h1, Bool.true_and, beq_iff_eq] at hh
    exact hs h1 hh
  rw [px, if_neg (K _ fun h1 => (h h1).1), if_neg (K _ fun h1 => (h h1).2.1), if_neg (K _ fun h1 => (h h1).2.2.1), if_neg (K _ fun h1 => (h h1).2.2.2)]
theorem nt_bound {L : List Tok} {n i : Nat} {nt : NT} {lg : List Nat} {r : F × Nat × List Nat} (h : px L n nt i lg = .ok r) (hi : i ≤ L.length) (h0 : nt.one) (h1 : nt.acc = .nil) : i < r.2.1 ∧ r.2.1 ≤ L.length := by
  obtain ⟨a1, a2, a3⟩ := px_bound _ _ _ _ _ h hi
  have := (a3 h0).pos
  have h4 : nt.acc.flat.length = 0 := by rw [h1]; rfl
  omega
theorem tokC_lit3 (L : List Tok) (e : Nat × Nat) (i : Nat) : ∃ (k m x y : Nat), tokC L e i = #[.int .i8 k, .int .i64 m, .string (by_ (txt L i)), .int .i64 x, .int .i64 y] ∧ k = kd L i ∧ m = num L i ∧ (x, y) = here L e i := ⟨_, _, _, _, rfl, rfl, rfl, rfl⟩
end
end Culp.Gr
namespace Go.Proofs.YtnhdbjhdmdefmaaDoor
set_option linter.unusedSimpArgs false
set_option linter.unusedVariables false
open Go.RowKit Culp Culp.Gr
theorem zeroRead (w : World) : (zeroValue 79).run Tryd.prog w = .ok .nilFunc w := by kernel_rfl
section
variable {pb B : Nat} {L : List Tok} {tv : Value} {e : Nat × Nat}
/-- Marks of two sides from a rank on, with so much fuel. -/
def BinC (pb B : Nat) (L : List Tok) (tv : Value) (e : Nat × Nat) (n : Nat) : Prop := ∀ (r i : Nat) (lg : List Nat) (lv : Value) (w : World), r ≤ 3 → PS pb B L tv e i lg lv w → 8 * (L.length - i) + (5 - r) < n → Calls Tryd.prog 31 #[.pointer (some ⟨pb, 0, none⟩), .int .i64 r] w (PRes BR (px L n (.bin r) i lg) pb B L tv e lv w)
set_option maxRecDepth 100000 in
set_option maxHeartbeats 6400000 in
theorem expr_step {n : Nat} (hE : ExC pb B L tv e n) (hB : BinC pb B L tv e n) : ExC pb B L tv e (n + 1) := by
  intro i lg lv w h hn
  have hsm := h.small
  have hle := h.le
  have HH := Lib.hid (here_any h)
  have HWa := Lib.hid (Went.refl h)
  have HUPa : Hid (∀ spec E w', PRes BR spec pb B L tv e lv w E w' → PRes BR spec pb B L tv e lv w E w') := Lib.hid fun _ _ _ h => h
  have HE := Lib.hid hE
  have HB := Lib.hid hB
  have HK1 := Lib.hid (isK_kd L i (k := 1) (by decide))
  clear h hE hB
  go_enter Tryd.func16, Tryd.ntmps16
  go_wp2_with fail
  refine HH.out.mono ?_
  rintro E w1 ⟨rfl, hb1⟩
  have HW1 := Lib.hid (HWa.out.later hb1)
  clear HH hb1 HWa
  obtain ⟨kk, m, x, y, hC, hk, -, hxy⟩ := tokC_lit3 L e i
  rw [hC]
  clear hC
  have HXY := Lib.hid hxy
  clear hxy
  by_cases hk1 : kk = 1
  · subst hk1
    have hK : isK L 1 i = true := by rw [HK1.out, ← hk]; rfl
    have hlt := isK_lt hK
    have hpl : pl L i = (x, y) := by rw [← here_pl e hlt, HXY.out]
    have HPL := Lib.hid hpl
    have HK := Lib.hid hK
    clear hk hK hpl HXY HK1
    obtain ⟨lvb, k1, k2, k3⟩ := HW1.out
    have hbb : Below w1.heap.size w1 (w1.alloc (.cells #[.int .i8 1, .int .i64 m, .string (by_ (txt L i)), .int .i64 x, .int .i64 y] 60)) := (Below.refl _ _).alloc (Nat.le_refl _) _
    have HUPb : Hid (∀ spec E w', PRes BR spec pb B L tv e lvb (w1.alloc (.cells #[.int .i8 1, .int .i64 m, .string (by_ (txt L i)), .int .i64 x, .int .i64 y] 60)) E w' → PRes BR spec pb B L tv e lv w E w') := Lib.hid fun spec E w' hr => HUPa.out spec E w' (hr.from_ k1 k3 hbb)
    have HBXb : Hid (∀ (k : Nat) (lg' : List Nat) (w' : World), Went pb B L tv e lvb k lg' (w1.alloc (.cells #[.int .i8 1, .int .i64 m, .string (by_ (txt L i)), .int .i64 x, .int .i64 y] 60)) w' → Blk w1.heap.size #[.int .i8 1, .int .i64 m, .string (by_ (txt L i)), .int .i64 x, .int .i64 y] 60 w') := Lib.hid fun k lg' w' hw => hw.boxed k2 (Blk.alloc _ _ _)
    have HWb := Lib.hid (Went.refl (k2.later hbb))
    clear k1 k2 k3 hbb HW1 HUPa
    by_cases X : txt L i = sFn
    · skip
      have HS : Hid (px L (n + 1) .expr i lg = bnd (param L (i + 1) lg) fun r => bnd (px L n .expr r.2.1 r.2.2) fun q => .ok (mk 5 (x, y) q.1 0 r.1.1 r.1.2.1 r.1.2.2, q.2)) := Lib.hid (by exact px_fn HK.out X HPL.out)
      have HL : Hid (begTable.lookup (by_ (txt L i)) = some (.func (.func 47) #[] #[])) := Lib.hid (by rw [X]; kernel_rfl)
      clear X
      go_wp2_with fail
      have c2 : ((w1.alloc (.cells #[.int .i8 1, .int .i64 m, .string (by_ (txt L i)), .int .i64 x, .int .i64 y] 60)).drew).cell? ⟨w1.heap.size, 2, none⟩ = some (.string (by_ (txt L i))) := (Blk.alloc w1 _ _).cell (i := 2) rfl
      refine wp_region_plan (S := fun w' => w'.cell? ⟨w1.heap.size, 2, none⟩ = some (.string (by_ (txt L i)))) [(1, true), (2, true), (0, false), (3, true), (4, true), (5, true), (6, true), (7, true), (8, true)] (by kernel_rfl) (by kernel_rfl) (by kernel_rfl) (fun _ _ _ _ _ h => h) c2 ?_
      intro HSc
      repeat (first | (apply wpPlan_look; rfl; rfl; (intro wq hq; (try dsimp only at hq); go_split_ands; go_simp; (try rw [if_neg (by omega)]); (try rw [if_pos (by omega)]); try with_reducible rfl); simp only [Act.put, List.setIfInBounds_toArray, List.set_cons_zero, List.set_cons_succ]) | (apply wpPlan_skip; rfl; rfl; simp only [Act.put, List.setIfInBounds_toArray, List.set_cons_zero, List.set_cons_succ]) | (apply wpPlan_pass; rfl; rfl; assumption; simp only [Act.put, List.setIfInBounds_toArray, List.set_cons_zero, List.set_cons_succ]))
      (apply wpPlan_callS; rfl; rfl; rfl; rfl; kernel_rfl; exact begins_any _; rfl; rintro E w2 ⟨r, rfl, hm, hb2⟩)
      refine .inl ⟨_, rfl, fun w' => Hid (MapS w' r begTable) ∧ w'.cell? ⟨w1.heap.size, 2, none⟩ = some (.string (by_ (txt L i))), fun _ h => h.2, ⟨Lib.hid hm, cell_later hb2 HSc⟩, ?_⟩
      have HW2 := Lib.hid (HWb.out.later (below_later hb2 ((Below.refl _ _).drew)))
      clear HSc c2 hm hb2 HWb
      simp only [Act.put, List.setIfInBounds_toArray, List.set_cons_zero, List.set_cons_succ]
      repeat (first | (apply wpPlan_look; rfl; rfl; (intro wq hq; (try dsimp only at hq); go_split_ands; go_simp; (try rw [if_neg (by omega)]); (try rw [if_pos (by omega)]); try with_reducible rfl); simp only [Act.put, List.setIfInBounds_toArray, List.set_cons_zero, List.set_cons_succ]) | (apply wpPlan_skip; rfl; rfl; simp only [Act.put, List.setIfInBounds_toArray, List.set_cons_zero, List.set_cons_succ]) | (apply wpPlan_pass; rfl; rfl; assumption; simp only [Act.put, List.setIfInBounds_toArray, List.set_cons_zero, List.set_cons_succ]))
      (apply wpPlan_look (v := .tuple #[.func (.func 47) #[] #[], .bool true]); rfl; rfl; (intro wq hq; have hlk := run_lookup_okS (P := Tryd.prog) wq 81 9 79 Tryd.underlying81 Tryd.underlying9 _ (zeroRead wq) r begTable (by_ (txt L i)) hq.1.out; rw [HL.out] at hlk; simp [execOp, go_sem, hlk]))
      simp only [Act.put, List.setIfInBounds_toArray, List.set_cons_zero, List.set_cons_succ]
      repeat (first | (apply wpPlan_look; rfl; rfl; (intro wq hq; (try dsimp only at hq); go_split_ands; go_simp; (try rw [if_neg (by omega)]); (try rw [if_pos (by omega)]); try with_reducible rfl); simp only [Act.put, List.setIfInBounds_toArray, List.set_cons_zero, List.set_cons_succ]) | (apply wpPlan_skip; rfl; rfl; simp only [Act.put, List.setIfInBounds_toArray, List.set_cons_zero, List.set_cons_succ]) | (apply wpPlan_pass; rfl; rfl; assumption; simp only [Act.put, List.setIfInBounds_toArray, List.set_cons_zero, List.set_cons_succ]))
      apply wpPlan_done
      clear HL
      have p1 := HW2.out.c1
      have f1 := HW2.out.f1
      have bx := HBXb.out _ _ _ HW2.out
      have bx2 := HBXb.out _ _ _ (HW2.out.step hlt)
      have g3 := bx2.cell (i := 3) rfl
      have g4 := bx2.cell (i := 4) rfl
      have HW3 := Lib.hid (HW2.out.step hlt)
      clear bx bx2 HW2
      go_wp2_with fail
      clear p1 f1 g3 g4
      (refine (HW3.out.call (R := BR) (spec := bnd (param L (i + 1) lg) fun r => bnd (px L n .expr r.2.1 r.2.2) fun q => .ok (mk 5 (x, y) q.1 0 r.1.1 r.1.2.1 r.1.2.2, q.2)) (fun lv1 h1 => fn_step HE.out h1 (by omega) x y)).mono ?_)
      rintro E w4 ⟨hr, hkb4⟩
      cases hs4 : bnd (param L (i + 1) lg) fun r => bnd (px L n .expr r.2.1 r.2.2) fun q => .ok (mk 5 (x, y) q.1 0 r.1.1 r.1.2.1 r.1.2.2, q.2) with
      | error j =>
        rw [hs4] at hr
        obtain ⟨rfl, hk⟩ := hr
        refine ⟨rfl, HUPb.out _ _ _ ?_⟩
        rw [HS.out,hs4]
        exact ⟨rfl, hk⟩
      | ok q =>
        rw [hs4] at hr
        obtain ⟨v, rfl, ⟨b, rfl, hbr⟩, hw⟩ := hr
        have HR : Hid (PRes BR (px L (n + 1) .expr i lg) pb B L tv e lv w (.returned (.pointer (some ⟨b, 0, none⟩))) w4) := Lib.hid (HUPb.out _ _ _ (by rw [HS.out,hs4]; exact ⟨_, rfl, ⟨b, rfl, hbr⟩, hw⟩))
        clear hw hbr hs4 HUPb
        go_wp2_with fail
        go_ret
        exact HR.out
    by_cases X2 : txt L i = sRec
    · have X0 := X2
      clear X X2
      have X := X0
      clear X0
      have HS : Hid (px L (n + 1) .expr i lg = bnd (name L (i + 1)) fun a => bnd (param L a lg) fun r => bnd (px L n .expr r.2.1 r.2.2) fun q => .ok (mk 6 (x, y) q.1 0 (txt L (i + 1) ++ 32 :: r.1.1) r.1.2.1 r.1.2.2, q.2)) := Lib.hid (by exact px_rec HK.out X HPL.out)
      have HL : Hid (begTable.lookup (by_ (txt L i)) = some (.func (.func 48) #[] #[])) := Lib.hid (by rw [X]; kernel_rfl)
      clear X
      go_wp2_with fail
      have c2 : ((w1.alloc (.cells #[.int .i8 1, .int .i64 m, .string (by_ (txt L i)), .int .i64 x, .int .i64 y] 60)).drew).cell? ⟨w1.heap.size, 2, none⟩ = some (.string (by_ (txt L i))) := (Blk.alloc w1 _ _).cell (i := 2) rfl
      refine wp_region_plan (S := fun w' => w'.cell? ⟨w1.heap.size, 2, none⟩ = some (.string (by_ (txt L i)))) [(1, true), (2, true), (0, false), (3, true), (4, true), (5, true), (6, true), (7, true), (8, true)] (by kernel_rfl) (by kernel_rfl) (by kernel_rfl) (fun _ _ _ _ _ h => h) c2 ?_
      intro HSc
      repeat (first | (apply wpPlan_look; rfl; rfl; (intro wq hq; (try dsimp only at hq); go_split_ands; go_simp; (try rw [if_neg (by omega)]); (try rw [if_pos (by omega)]); try with_reducible rfl); simp only [Act.put, List.setIfInBounds_toArray, List.set_cons_zero, List.set_cons_succ]) | (apply wpPlan_skip; rfl; rfl; simp only [Act.put, List.setIfInBounds_toArray, List.set_cons_zero, List.set_cons_succ]) | (apply wpPlan_pass; rfl; rfl; assumption; simp only [Act.put, List.setIfInBounds_toArray, List.set_cons_zero, List.set_cons_succ]))
      (apply wpPlan_callS; rfl; rfl; rfl; rfl; kernel_rfl; exact begins_any _; rfl; rintro E w2 ⟨r, rfl, hm, hb2⟩)
      refine .inl ⟨_, rfl, fun w' => Hid (MapS w' r begTable) ∧ w'.cell? ⟨w1.heap.size, 2, none⟩ = some (.string (by_ (txt L i))), fun _ h => h.2, ⟨Lib.hid hm, cell_later hb2 HSc⟩, ?_⟩
      have HW2 := Lib.hid (HWb.out.later (below_later hb2 ((Below.refl _ _).drew)))
      clear HSc c2 hm hb2 HWb
      simp only [Act.put, List.setIfInBounds_toArray, List.set_cons_zero, List.set_cons_succ]
      repeat (first | (apply wpPlan_look; rfl; rfl; (intro wq hq; (try dsimp only at hq); go_split_ands; go_simp; (try rw [if_neg (by omega)]); (try rw [if_pos (by omega)]); try with_reducible rfl); simp only [Act.put, List.setIfInBounds_toArray, List.set_cons_zero, List.set_cons_succ]) | (apply wpPlan_skip; rfl; rfl; simp only [Act.put, List.setIfInBounds_toArray, List.set_cons_zero, List.set_cons_succ]) | (apply wpPlan_pass; rfl; rfl; assumption; simp only [Act.put, List.setIfInBounds_toArray, List.set_cons_zero, List.set_cons_succ]))
      (apply wpPlan_look (v := .tuple #[.func (.func 48) #[] #[], .bool true]); rfl; rfl; (intro wq hq; have hlk := run_lookup_okS (P := Tryd.prog) wq 81 9 79 Tryd.underlying81 Tryd.underlying9 _ (zeroRead wq) r begTable (by_ (txt L i)) hq.1.out; rw [HL.out] at hlk; simp [execOp, go_sem, hlk]))
      simp only [Act.put, List.setIfInBounds_toArray, List.set_cons_zero, List.set_cons_succ]
      repeat (first | (apply wpPlan_look; rfl; rfl; (intro wq hq; (try dsimp only at hq); go_split_ands; go_simp; (try rw [if_neg (by omega)]); (try rw [if_pos (by omega)]); try with_reducible rfl); simp only [Act.put, List.setIfInBounds_toArray, List.set_cons_zero, List.set_cons_succ]) | (apply wpPlan_skip; rfl; rfl; simp only [Act.put, List.setIfInBounds_toArray, List.set_cons_zero, List.set_cons_succ]) | (apply wpPlan_pass; rfl; rfl; assumption; simp only [Act.put, List.setIfInBounds_toArray, List.set_cons_zero, List.set_cons_succ]))
      apply wpPlan_done
      clear HL
      have p1 := HW2.out.c1
      have f1 := HW2.out.f1
      have bx := HBXb.out _ _ _ HW2.out
      have bx2 := HBXb.out _ _ _ (HW2.out.step hlt)
      have g3 := bx2.cell (i := 3) rfl
      have g4 := bx2.cell (i := 4) rfl
      have HW3 := Lib.hid (HW2.out.step hlt)
      clear bx bx2 HW2
      go_wp2_with fail
      clear p1 f1 g3 g4
      (refine (HW3.out.call (R := BR) (spec := bnd (name L (i + 1)) fun a => bnd (param L a lg) fun r => bnd (px L n .expr r.2.1 r.2.2) fun q => .ok (mk 6 (x, y) q.1 0 (txt L (i + 1) ++ 32 :: r.1.1) r.1.2.1 r.1.2.2, q.2)) (fun lv1 h1 => rec_step HE.out h1 (by omega) x y)).mono ?_)
      rintro E w4 ⟨hr, hkb4⟩
      cases hs4 : bnd (name L (i + 1)) fun a => bnd (param L a lg) fun r => bnd (px L n .expr r.2.1 r.2.2) fun q => .ok (mk 6 (x, y) q.1 0 (txt L (i + 1) ++ 32 :: r.1.1) r.1.2.1 r.1.2.2, q.2) with
      | error j =>
        rw [hs4] at hr
        obtain ⟨rfl, hk⟩ := hr
        refine ⟨rfl, HUPb.out _ _ _ ?_⟩
        rw [HS.out,hs4]
        exact ⟨rfl, hk⟩
      | ok q =>
        rw [hs4] at hr
        obtain ⟨v, rfl, ⟨b, rfl, hbr⟩, hw⟩ := hr
        have HR : Hid (PRes BR (px L (n + 1) .expr i lg) pb B L tv e lv w (.returned (.pointer (some ⟨b, 0, none⟩))) w4) := Lib.hid (HUPb.out _ _ _ (by rw [HS.out,hs4]; exact ⟨_, rfl, ⟨b, rfl, hbr⟩, hw⟩))
        clear hw hbr hs4 HUPb
        go_wp2_with fail
        go_ret
        exact HR.out
    by_cases X3 : txt L i = sLet
    · have X0 := X3
      clear X X2 X3
      have X := X0
      clear X0
      have HS : Hid (px L (n + 1) .expr i lg = bnd (name L (i + 1)) fun a => bnd (note L a lg) fun r => bnd (want L [61] r.2.1) fun b => bnd (px L n .expr b r.2.2) fun e => bnd (want L sIn e.2.1) fun c => bnd (px L n .expr c e.2.2) fun g => .ok (mk 8 (x, y) (cat e.1 g.1) 0 (txt L (i + 1)) r.1 [], g.2)) := Lib.hid (by exact px_let HK.out X HPL.out)
      have HL : Hid (begTable.lookup (by_ (txt L i)) = some (.func (.func 49) #[] #[])) := Lib.hid (by rw [X]; kernel_rfl)
      clear X
      go_wp2_with fail
      have c2 : ((w1.alloc (.cells #[.int .i8 1, .int .i64 m, .string (by_ (txt L i)), .int .i64 x, .int .i64 y] 60)).drew).cell? ⟨w1.heap.size, 2, none⟩ = some (.string (by_ (txt L i))) := (Blk.alloc w1 _ _).cell (i := 2) rfl
      refine wp_region_plan (S := fun w' => w'.cell? ⟨w1.heap.size, 2, none⟩ = some (.string (by_ (txt L i)))) [(1, true), (2, true), (0, false), (3, true), (4, true), (5, true), (6, true), (7, true), (8, true)] (by kernel_rfl) (by kernel_rfl) (by kernel_rfl) (fun _ _ _ _ _ h => h) c2 ?_
      intro HSc
      repeat (first | (apply wpPlan_look; rfl; rfl; (intro wq hq; (try dsimp only at hq); go_split_ands; go_simp; (try rw [if_neg (by omega)]); (try rw [if_pos (by omega)]); try with_reducible rfl); simp only [Act.put, List.setIfInBounds_toArray, List.set_cons_zero, List.set_cons_succ]) | (apply wpPlan_skip; rfl; rfl; simp only [Act.put, List.setIfInBounds_toArray, List.set_cons_zero, List.set_cons_succ]) | (apply wpPlan_pass; rfl; rfl; assumption; simp only [Act.put, List.setIfInBounds_toArray, List.set_cons_zero, List.set_cons_succ]))
      (apply wpPlan_callS; rfl; rfl; rfl; rfl; kernel_rfl; exact begins_any _; rfl; rintro E w2 ⟨r, rfl, hm, hb2⟩)
      refine .inl ⟨_, rfl, fun w' => Hid (MapS w' r begTable) ∧ w'.cell? ⟨w1.heap.size, 2, none⟩ = some (.string (by_ (txt L i))), fun _ h => h.2, ⟨Lib.hid hm, cell_later hb2 HSc⟩, ?_⟩
      have HW2 := Lib.hid (HWb.out.later (below_later hb2 ((Below.refl _ _).drew)))
      clear HSc c2 hm hb2 HWb
      simp only [Act.put, List.setIfInBounds_toArray, List.set_cons_zero, List.set_cons_succ]
      repeat (first | (apply wpPlan_look; rfl; rfl; (intro wq hq; (try dsimp only at hq); go_split_ands; go_simp; (try rw [if_neg (by omega)]); (try rw [if_pos (by omega)]); try with_reducible rfl); simp only [Act.put, List.setIfInBounds_toArray, List.set_cons_zero, List.set_cons_succ]) | (apply wpPlan_skip; rfl; rfl; simp only [Act.put, List.setIfInBounds_toArray, List.set_cons_zero, List.set_cons_succ]) | (apply wpPlan_pass; rfl; rfl; assumption; simp only [Act.put, List.setIfInBounds_toArray, List.set_cons_zero, List.set_cons_succ]))
      (apply wpPlan_look (v := .tuple #[.func (.func 49) #[] #[], .bool true]); rfl; rfl; (intro wq hq; have hlk := run_lookup_okS (P := Tryd.prog) wq 81 9 79 Tryd.underlying81 Tryd.underlying9 _ (zeroRead wq) r begTable (by_ (txt L i)) hq.1.out; rw [HL.out] at hlk; simp [execOp, go_sem, hlk]))
      simp only [Act.put, List.setIfInBounds_toArray, List.set_cons_zero, List.set_cons_succ]
      repeat (first | (apply wpPlan_look; rfl; rfl; (intro wq hq; (try dsimp only at hq); go_split_ands; go_simp; (try rw [if_neg (by omega)]); (try rw [if_pos (by omega)]); try with_reducible rfl); simp only [Act.put, List.setIfInBounds_toArray, List.set_cons_zero, List.set_cons_succ]) | (apply wpPlan_skip; rfl; rfl; simp only [Act.put, List.setIfInBounds_toArray, List.set_cons_zero, List.set_cons_succ]) | (apply wpPlan_pass; rfl; rfl; assumption; simp only [Act.put, List.setIfInBounds_toArray, List.set_cons_zero, List.set_cons_succ]))
      apply wpPlan_done
      clear HL
      have p1 := HW2.out.c1
      have f1 := HW2.out.f1
      have bx := HBXb.out _ _ _ HW2.out
      have bx2 := HBXb.out _ _ _ (HW2.out.step hlt)
      have g3 := bx2.cell (i := 3) rfl
      have g4 := bx2.cell (i := 4) rfl
      have HW3 := Lib.hid (HW2.out.step hlt)
      clear bx bx2 HW2
      go_wp2_with fail
      clear p1 f1 g3 g4
      (refine (HW3.out.call (R := BR) (spec := bnd (name L (i + 1)) fun a => bnd (note L a lg) fun r => bnd (want L [61] r.2.1) fun b => bnd (px L n .expr b r.2.2) fun e => bnd (want L sIn e.2.1) fun c => bnd (px L n .expr c e.2.2) fun g => .ok (mk 8 (x, y) (cat e.1 g.1) 0 (txt L (i + 1)) r.1 [], g.2)) (fun lv1 h1 => let_step HE.out h1 (by omega) x y)).mono ?_)
      rintro E w4 ⟨hr, hkb4⟩
      cases hs4 : bnd (name L (i + 1)) fun a => bnd (note L a lg) fun r => bnd (want L [61] r.2.1) fun b => bnd (px L n .expr b r.2.2) fun e => bnd (want L sIn e.2.1) fun c => bnd (px L n .expr c e.2.2) fun g => .ok (mk 8 (x, y) (cat e.1 g.1) 0 (txt L (i + 1)) r.1 [], g.2) with
      | error j =>
        rw [hs4] at hr
        obtain ⟨rfl, hk⟩ := hr
        refine ⟨rfl, HUPb.out _ _ _ ?_⟩
        rw [HS.out,hs4]
        exact ⟨rfl, hk⟩
      | ok q =>
        rw [hs4] at hr
        obtain ⟨v, rfl, ⟨b, rfl, hbr⟩, hw⟩ := hr
        have HR : Hid (PRes BR (px L (n + 1) .expr i lg) pb B L tv e lv w (.returned (.pointer (some ⟨b, 0, none⟩))) w4) := Lib.hid (HUPb.out _ _ _ (by rw [HS.out,hs4]; exact ⟨_, rfl, ⟨b, rfl, hbr⟩, hw⟩))
        clear hw hbr hs4 HUPb
        go_wp2_with fail
        go_ret
        exact HR.out
    by_cases X4 : txt L i = sIf
    · have X0 := X4
      clear X X2 X3 X4
      have X := X0
      clear X0
      have HS : Hid (px L (n + 1) .expr i lg = bnd (px L n .expr (i + 1) lg) fun e => bnd (want L sThen e.2.1) fun a => bnd (px L n .expr a e.2.2) fun g => bnd (want L sElse g.2.1) fun b => bnd (px L n .expr b g.2.2) fun h => .ok (mk 9 (x, y) (cat e.1 (cat g.1 h.1)) 0 [] [] [], h.2)) := Lib.hid (by exact px_if HK.out X HPL.out)
      have HL : Hid (begTable.lookup (by_ (txt L i)) = some (.func (.func 50) #[] #[])) := Lib.hid (by rw [X]; kernel_rfl)
      clear X
      go_wp2_with fail
      have c2 : ((w1.alloc (.cells #[.int .i8 1, .int .i64 m, .string (by_ (txt L i)), .int .i64 x, .int .i64 y] 60)).drew).cell? ⟨w1.heap.size, 2, none⟩ = some (.string (by_ (txt L i))) := (Blk.alloc w1 _ _).cell (i := 2) rfl
      refine wp_region_plan (S := fun w' => w'.cell? ⟨w1.heap.size, 2, none⟩ = some (.string (by_ (txt L i)))) [(1, true), (2, true), (0, false), (3, true), (4, true), (5, true), (6, true), (7, true), (8, true)] (by kernel_rfl) (by kernel_rfl) (by kernel_rfl) (fun _ _ _ _ _ h => h) c2 ?_
      intro HSc
      repeat (first | (apply wpPlan_look; rfl; rfl; (intro wq hq; (try dsimp only at hq); go_split_ands; go_simp; (try rw [if_neg (by omega)]); (try rw [if_pos (by omega)]); try with_reducible rfl); simp only [Act.put, List.setIfInBounds_toArray, List.set_cons_zero, List.set_cons_succ]) | (apply wpPlan_skip; rfl; rfl; simp only [Act.put, List.setIfInBounds_toArray, List.set_cons_zero, List.set_cons_succ]) | (apply wpPlan_pass; rfl; rfl; assumption; simp only [Act.put, List.setIfInBounds_toArray, List.set_cons_zero, List.set_cons_succ]))
      (apply wpPlan_callS; rfl; rfl; rfl; rfl; kernel_rfl; exact begins_any _; rfl; rintro E w2 ⟨r, rfl, hm, hb2⟩)
      refine .inl ⟨_, rfl, fun w' => Hid (MapS w' r begTable) ∧ w'.cell? ⟨w1.heap.size, 2, none⟩ = some (.string (by_ (txt L i))), fun _ h => h.2, ⟨Lib.hid hm, cell_later hb2 HSc⟩, ?_⟩
      have HW2 := Lib.hid (HWb.out.later (below_later hb2 ((Below.refl _ _).drew)))
      clear HSc c2 hm hb2 HWb
      simp only [Act.put, List.setIfInBounds_toArray, List.set_cons_zero, List.set_cons_succ]
      repeat (first | (apply wpPlan_look; rfl; rfl; (intro wq hq; (try dsimp only at hq); go_split_ands; go_simp; (try rw [if_neg (by omega)]); (try rw [if_pos (by omega)]); try with_reducible rfl); simp only [Act.put, List.setIfInBounds_toArray, List.set_cons_zero, List.set_cons_succ]) | (apply wpPlan_skip; rfl; rfl; simp only [Act.put, List.setIfInBounds_toArray, List.set_cons_zero, List.set_cons_succ]) | (apply wpPlan_pass; rfl; rfl; assumption; simp only [Act.put, List.setIfInBounds_toArray, List.set_cons_zero, List.set_cons_succ]))
      (apply wpPlan_look (v := .tuple #[.func (.func 50) #[] #[], .bool true]); rfl; rfl; (intro wq hq; have hlk := run_lookup_okS (P := Tryd.prog) wq 81 9 79 Tryd.underlying81 Tryd.underlying9 _ (zeroRead wq) r begTable (by_ (txt L i)) hq.1.out; rw [HL.out] at hlk; simp [execOp, go_sem, hlk]))
      simp only [Act.put, List.setIfInBounds_toArray, List.set_cons_zero, List.set_cons_succ]
      repeat (first | (apply wpPlan_look; rfl; rfl; (intro wq hq; (try dsimp only at hq); go_split_ands; go_simp; (try rw [if_neg (by omega)]); (try rw [if_pos (by omega)]); try with_reducible rfl); simp only [Act.put, List.setIfInBounds_toArray, List.set_cons_zero, List.set_cons_succ]) | (apply wpPlan_skip; rfl; rfl; simp only [Act.put, List.setIfInBounds_toArray, List.set_cons_zero, List.set_cons_succ]) | (apply wpPlan_pass; rfl; rfl; assumption; simp only [Act.put, List.setIfInBounds_toArray, List.set_cons_zero, List.set_cons_succ]))
      apply wpPlan_done
      clear HL
      have p1 := HW2.out.c1
      have f1 := HW2.out.f1
      have bx := HBXb.out _ _ _ HW2.out
      have bx2 := HBXb.out _ _ _ (HW2.out.step hlt)
      have g3 := bx2.cell (i := 3) rfl
      have g4 := bx2.cell (i := 4) rfl
      have HW3 := Lib.hid (HW2.out.step hlt)
      clear bx bx2 HW2
      go_wp2_with fail
      clear p1 f1 g3 g4
      (refine (HW3.out.call (R := BR) (spec := bnd (px L n .expr (i + 1) lg) fun e => bnd (want L sThen e.2.1) fun a => bnd (px L n .expr a e.2.2) fun g => bnd (want L sElse g.2.1) fun b => bnd (px L n .expr b g.2.2) fun h => .ok (mk 9 (x, y) (cat e.1 (cat g.1 h.1)) 0 [] [] [], h.2)) (fun lv1 h1 => choice_step HE.out h1 (by omega) x y)).mono ?_)
      rintro E w4 ⟨hr, hkb4⟩
      cases hs4 : bnd (px L n .expr (i + 1) lg) fun e => bnd (want L sThen e.2.1) fun a => bnd (px L n .expr a e.2.2) fun g => bnd (want L sElse g.2.1) fun b => bnd (px L n .expr b g.2.2) fun h => .ok (mk 9 (x, y) (cat e.1 (cat g.1 h.1)) 0 [] [] [], h.2) with
      | error j =>
        rw [hs4] at hr
        obtain ⟨rfl, hk⟩ := hr
        refine ⟨rfl, HUPb.out _ _ _ ?_⟩
        rw [HS.out,hs4]
        exact ⟨rfl, hk⟩
      | ok q =>
        rw [hs4] at hr
        obtain ⟨v, rfl, ⟨b, rfl, hbr⟩, hw⟩ := hr
        have HR : Hid (PRes BR (px L (n + 1) .expr i lg) pb B L tv e lv w (.returned (.pointer (some ⟨b, 0, none⟩))) w4) := Lib.hid (HUPb.out _ _ _ (by rw [HS.out,hs4]; exact ⟨_, rfl, ⟨b, rfl, hbr⟩, hw⟩))
        clear hw hbr hs4 HUPb
        go_wp2_with fail
        go_ret
        exact HR.out
    have HN := Lib.hid (px_none (n := n) (lg := lg) (L := L) (i := i) fun _ => ⟨X, X2, X3, X4⟩)
    have HL : Hid (begTable.lookup (by_ (txt L i)) = none) := Lib.hid (by
      have K : ∀ s, txt L i ≠ s → (by_ (txt L i) == by_ s) = false := fun s h => by rw [by_eq]; exact beq_eq_false_iff_ne.2 h
      unfold begTable
      simp only [List.lookup_cons, K _ X, K _ X2, K _ X3, K _ X4, List.lookup_nil])
    clear X X2 X3 X4
    go_wp2_with fail
    have c2 : ((w1.alloc (.cells #[.int .i8 1, .int .i64 m, .string (by_ (txt L i)), .int .i64 x, .int .i64 y] 60)).drew).cell? ⟨w1.heap.size, 2, none⟩ = some (.string (by_ (txt L i))) := (Blk.alloc w1 _ _).cell (i := 2) rfl
    refine wp_region_plan (S := fun w' => w'.cell? ⟨w1.heap.size, 2, none⟩ = some (.string (by_ (txt L i)))) [(1, true), (2, true), (0, false), (3, true), (4, true), (5, true), (6, true), (7, true), (8, true)] (by kernel_rfl) (by kernel_rfl) (by kernel_rfl) (fun _ _ _ _ _ h => h) c2 ?_
    intro HSc
    repeat (first | (apply wpPlan_look; rfl; rfl; (intro wq hq; (try dsimp only at hq); go_split_ands; go_simp; (try rw [if_neg (by omega)]); (try rw [if_pos (by omega)]); try with_reducible rfl); simp only [Act.put, List.setIfInBounds_toArray, List.set_cons_zero, List.set_cons_succ]) | (apply wpPlan_skip; rfl; rfl; simp only [Act.put, List.setIfInBounds_toArray, List.set_cons_zero, List.set_cons_succ]) | (apply wpPlan_pass; rfl; rfl; assumption; simp only [Act.put, List.setIfInBounds_toArray, List.set_cons_zero, List.set_cons_succ]))
    (apply wpPlan_callS; rfl; rfl; rfl; rfl; kernel_rfl; exact begins_any _; rfl; rintro E w2 ⟨r, rfl, hm, hb2⟩)
    refine .inl ⟨_, rfl, fun w' => Hid (MapS w' r begTable) ∧ w'.cell? ⟨w1.heap.size, 2, none⟩ = some (.string (by_ (txt L i))), fun _ h => h.2, ⟨Lib.hid hm, cell_later hb2 HSc⟩, ?_⟩
    have HW2 := Lib.hid (HWb.out.later (below_later hb2 ((Below.refl _ _).drew)))
    clear HSc c2 hm hb2 HWb
    simp only [Act.put, List.setIfInBounds_toArray, List.set_cons_zero, List.set_cons_succ]
    repeat (first | (apply wpPlan_look; rfl; rfl; (intro wq hq; (try dsimp only at hq); go_split_ands; go_simp; (try rw [if_neg (by omega)]); (try rw [if_pos (by omega)]); try with_reducible rfl); simp only [Act.put, List.setIfInBounds_toArray, List.set_cons_zero, List.set_cons_succ]) | (apply wpPlan_skip; rfl; rfl; simp only [Act.put, List.setIfInBounds_toArray, List.set_cons_zero, List.set_cons_succ]) | (apply wpPlan_pass; rfl; rfl; assumption; simp only [Act.put, List.setIfInBounds_toArray, List.set_cons_zero, List.set_cons_succ]))
    (apply wpPlan_look (v := .tuple #[.nilFunc, .bool false]); rfl; rfl; (intro wq hq; have hlk := run_lookup_okS (P := Tryd.prog) wq 81 9 79 Tryd.underlying81 Tryd.underlying9 _ (zeroRead wq) r begTable (by_ (txt L i)) hq.1.out; rw [HL.out] at hlk; simp [execOp, go_sem, hlk]))
    simp only [Act.put, List.setIfInBounds_toArray, List.set_cons_zero, List.set_cons_succ]
    repeat (first | (apply wpPlan_look; rfl; rfl; (intro wq hq; (try dsimp only at hq); go_split_ands; go_simp; (try rw [if_neg (by omega)]); (try rw [if_pos (by omega)]); try with_reducible rfl); simp only [Act.put, List.setIfInBounds_toArray, List.set_cons_zero, List.set_cons_succ]) | (apply wpPlan_skip; rfl; rfl; simp only [Act.put, List.setIfInBounds_toArray, List.set_cons_zero, List.set_cons_succ]) | (apply wpPlan_pass; rfl; rfl; assumption; simp only [Act.put, List.setIfInBounds_toArray, List.set_cons_zero, List.set_cons_succ]))
    apply wpPlan_done
    clear HL
    go_wp2_with fail
    (refine (HW2.out.call (R := BR) (spec := px L n (.bin 0) i lg) (fun lv1 h1 => HB.out 0 i lg lv1 _ (Nat.zero_le _) h1 (by omega))).mono ?_)
    rintro E w3 ⟨hr, hkb3⟩
    cases hs3 : px L n (.bin 0) i lg with
    | error j =>
      rw [hs3] at hr
      obtain ⟨rfl, hk⟩ := hr
      refine ⟨rfl, HUPb.out _ _ _ ?_⟩
      rw [HN.out,hs3]
      exact ⟨rfl, hk⟩
    | ok ee =>
      have hb3 := nt_bound hs3 hle trivial rfl
      rw [hs3] at hr
      obtain ⟨v, rfl, ⟨q1, rfl, hk1⟩, hw⟩ := hr
      have HW3 := Lib.hid hw
      have HS3 := Lib.hid hs3
      clear hw HW2 hs3
      have HK1 := Lib.hid hk1
      clear hk1
      obtain ⟨lv3, hp3⟩ := HW3.out.at_
      have HH2 := Lib.hid (here_any hp3)
      clear hp3
      go_wp2_with fail
      refine HH2.out.mono ?_
      rintro E w4 ⟨rfl, hb4⟩
      have HW4 := Lib.hid (HW3.out.later hb4)
      have HK4 := Lib.hid (BrL.kb _ HK1.out (KB.below hb4))
      clear HW3 HH2 HK1 hb4
      obtain ⟨kk2, m2, x2, y2, hC, -, -, hxy2⟩ := tokC_lit3 L e ee.2.1
      rw [hC]
      have HXY2 := Lib.hid hxy2
      clear hC hxy2
      obtain ⟨lvc, k1, k2, k3⟩ := HW4.out
      have hbb : Below w4.heap.size w4 (w4.alloc (.cells #[.int .i64 x2, .int .i64 y2] 25)) := (Below.refl _ _).alloc (Nat.le_refl _) _
      have HUPc : Hid (∀ spec E w', PRes BR spec pb B L tv e lvc (w4.alloc (.cells #[.int .i64 x2, .int .i64 y2] 25)) E w' → PRes BR spec pb B L tv e lv w E w') := Lib.hid fun spec E w' hr => HUPb.out spec E w' (hr.from_ k1 k3 hbb)
      have HBXc : Hid (∀ (k : Nat) (lg' : List Nat) (w' : World), Went pb B L tv e lvc k lg' (w4.alloc (.cells #[.int .i64 x2, .int .i64 y2] 25)) w' → Blk w4.heap.size #[.int .i64 x2, .int .i64 y2] 25 w') := Lib.hid fun k lg' w' hw => hw.boxed k2 (Blk.alloc _ _ _)
      have HWc := Lib.hid (Went.refl (k2.later hbb))
      clear k1 k2 k3 hbb HW4 HUPb
      have HT := Lib.hid (went_takes HWc.out [58, 61])
      have HKc : Hid (BrL (w4.alloc (.cells #[.int .i64 x2, .int .i64 y2] 25)) [.pointer (some ⟨q1, 0, none⟩)] ee.1) := Lib.hid (BrL.kb _ HK4.out (KB.below ((Below.refl _ _).alloc (Nat.le_refl _) _)))
      clear HK4
      simp only [by_] at HT
      have hf3 := @field_at
      go_wp2_with fail
      clear hf3
      refine HT.out.mono ?_
      rintro E w5 ⟨rfl, hw5, hkb5⟩
      have HW5 := Lib.hid hw5
      have HK5 := Lib.hid (BrL.kb _ HKc.out hkb5)
      clear HT hw5 hkb5 HKc HWc
      cases hm : isM L [58, 61] ee.2.1 with
      | false =>
        have HR : Hid (PRes BR (px L (n + 1) .expr i lg) pb B L tv e lv w (.returned (.pointer (some ⟨q1, 0, none⟩))) w5) := Lib.hid (HUPc.out _ _ _ (by
          have := HW5.out
          rw [adv_no hm] at this
          rw [HN.out, HS3.out, bnd_ok, if_neg (no_true (by exact hm))]
          exact ⟨_, rfl, ⟨q1, rfl, HK5.out⟩, this⟩))
        clear hm HW5 HK5 HN HS3 HUPc
        go_wp2_with fail
        go_ret
        exact HR.out
      | true =>
        have hlt2 := isM_lt hm
        have HW6 : Hid (Went pb B L tv e lvc (ee.2.1 + 1) ee.2.2 (w4.alloc (.cells #[.int .i64 x2, .int .i64 y2] 25)) w5) := Lib.hid (by have := HW5.out; rwa [adv_yes hm] at this)
        have HQ : Hid (px L (n + 1) .expr i lg = bnd (px L n .expr (ee.2.1 + 1) ee.2.2) fun g => .ok (mk 28 (x2, y2) (cat ee.1 g.1) 0 [] [] [], g.2)) := Lib.hid (by
          rw [HN.out, HS3.out, bnd_ok, if_pos (by exact hm), ← here_pl e hlt2, ← HXY2.out])
        clear hm HW5 HN HS3
        go_wp2_with fail
        have bx := HBXc.out _ _ _ HW6.out
        have c0 := bx.cell (i := 0) rfl
        have c1 := bx.cell (i := 1) rfl
        clear bx
        refine wp_region_plan (S := fun w' => w'.cell? ⟨w4.heap.size, 0, none⟩ = some (.int .i64 x2) ∧ w'.cell? ⟨w4.heap.size, 1, none⟩ = some (.int .i64 y2)) [(0, true), (1, true), (2, true), (3, false), (4, false), (5, false), (6, true)] (by kernel_rfl) (by kernel_rfl) (by kernel_rfl) (fun _ _ _ _ _ h => h) ⟨c0, c1⟩ ?_
        intro HSc
        repeat (first | (apply wpPlan_look; rfl; rfl; (intro wq hq; (try dsimp only at hq); go_split_ands; go_simp; (try rw [if_neg (by omega)]); (try rw [if_pos (by omega)]); try with_reducible rfl); simp only [Act.put, List.setIfInBounds_toArray, List.set_cons_zero, List.set_cons_succ]) | (apply wpPlan_skip; rfl; rfl; simp only [Act.put, List.setIfInBounds_toArray, List.set_cons_zero, List.set_cons_succ]) | (apply wpPlan_pass; rfl; rfl; assumption; simp only [Act.put, List.setIfInBounds_toArray, List.set_cons_zero, List.set_cons_succ]))
        clear HSc c0 c1
        (apply wpPlan_callS; rfl; rfl; rfl; rfl; kernel_rfl; exact (HW6.out.later ((Below.refl _ _).drew)).call (R := BR) (spec := px L n .expr (ee.2.1 + 1) ee.2.2) (fun lv1 h1 => HE.out (ee.2.1 + 1) ee.2.2 lv1 _ h1 (by omega)); rfl; rintro E w7 ⟨hr, hkb7⟩)
        cases hs7 : px L n .expr (ee.2.1 + 1) ee.2.2 with
        | error j =>
          rw [hs7] at hr
          obtain ⟨rfl, hk⟩ := hr
          refine .inr ⟨_, rfl, rfl, HUPc.out _ _ _ ?_⟩
          rw [HQ.out,hs7]
          exact ⟨rfl, hk⟩
        | ok q =>
          have hbr : BrL w7 [.pointer (some ⟨q1, 0, none⟩)] ee.1 := BrL.kb _ HK5.out hkb7
          rw [hs7] at hr
          obtain ⟨v, rfl, ⟨q0, rfl, hbr7⟩, hw⟩ := hr
          have HW7 := Lib.hid hw
          have HS7 := Lib.hid hs7
          have bx := HBXc.out _ _ _ hw
          have c0 := bx.cell (i := 0) rfl
          have c1 := bx.cell (i := 1) rfl
          clear bx hw HW6 hs7
          refine .inl ⟨_, rfl, _, fun _ h => h, ⟨c0, c1⟩, ?_⟩
          simp only [Act.put, List.setIfInBounds_toArray, List.set_cons_zero, List.set_cons_succ]
          repeat (first | (apply wpPlan_look; rfl; rfl; (intro wq hq; (try dsimp only at hq); go_split_ands; go_simp; (try rw [if_neg (by omega)]); (try rw [if_pos (by omega)]); try with_reducible rfl); simp only [Act.put, List.setIfInBounds_toArray, List.set_cons_zero, List.set_cons_succ]) | (apply wpPlan_skip; rfl; rfl; simp only [Act.put, List.setIfInBounds_toArray, List.set_cons_zero, List.set_cons_succ]) | (apply wpPlan_pass; rfl; rfl; assumption; simp only [Act.put, List.setIfInBounds_toArray, List.set_cons_zero, List.set_cons_succ]))
          have hbk : Below w7.heap.size w7 (w7.alloc (.cells #[.pointer (some ⟨q1, 0, none⟩), .pointer (some ⟨q0, 0, none⟩)] 55)) := (Below.refl _ _).alloc (Nat.le_refl _) _
          have d0 := cell_later hbk c0
          have d1 := cell_later hbk c1
          refine wpPlan_run rfl rfl (by simp [execOp, go_sem, build_p1, build_p2, build_p3] <;> (first | exact ⟨rfl, rfl⟩ | rfl)) _ (fun _ h => h) ⟨d0, d1⟩ ?_
          simp only [Act.put, List.setIfInBounds_toArray, List.set_cons_zero, List.set_cons_succ]
          repeat (first | (apply wpPlan_look; rfl; rfl; (intro wq hq; (try dsimp only at hq); go_split_ands; go_simp; (try rw [if_neg (by omega)]); (try rw [if_pos (by omega)]); try with_reducible rfl); simp only [Act.put, List.setIfInBounds_toArray, List.set_cons_zero, List.set_cons_succ]) | (apply wpPlan_skip; rfl; rfl; simp only [Act.put, List.setIfInBounds_toArray, List.set_cons_zero, List.set_cons_succ]) | (apply wpPlan_pass; rfl; rfl; assumption; simp only [Act.put, List.setIfInBounds_toArray, List.set_cons_zero, List.set_cons_succ]))
          have HBK := Lib.hid hbk
          clear c0 c1 hbk
          (apply wpPlan_call; rfl; rfl; rfl; rfl; kernel_rfl; exact node_any 28 x2 y2 (some ⟨w7.heap.size, 0, none⟩) 2 2 _; rfl; rintro E wn ⟨b, rfl, hle, hbn, hkn⟩)
          have HBN := Lib.hid hbn
          have HKN := Lib.hid hkn
          refine ⟨_, rfl, as_S ⟨cell_later hbn d0, cell_later hbn d1⟩ ?_⟩
          intro HSc
          simp only [Act.put, List.setIfInBounds_toArray, List.set_cons_zero, List.set_cons_succ]
          repeat (first | (apply wpPlan_look; rfl; rfl; (intro wq hq; (try dsimp only at hq); go_split_ands; go_simp; (try rw [if_neg (by omega)]); (try rw [if_pos (by omega)]); try with_reducible rfl); simp only [Act.put, List.setIfInBounds_toArray, List.set_cons_zero, List.set_cons_succ]) | (apply wpPlan_skip; rfl; rfl; simp only [Act.put, List.setIfInBounds_toArray, List.set_cons_zero, List.set_cons_succ]) | (apply wpPlan_pass; rfl; rfl; assumption; simp only [Act.put, List.setIfInBounds_toArray, List.set_cons_zero, List.set_cons_succ]))
          apply wpPlan_done
          clear HSc d0 d1 hbn hkn
          have HR : Hid (PRes BR (px L (n + 1) .expr i lg) pb B L tv e lv w (.returned (.pointer (some ⟨b, 0, none⟩))) wn) := Lib.hid (HUPc.out _ _ _ (by
            rw [HQ.out, HS7.out, bnd_ok]
            exact ⟨_, rfl, made (ps := [.pointer (some ⟨q1, 0, none⟩), .pointer (some ⟨q0, 0, none⟩)]) (kind := 28) (N := 0) (p := (x2, y2)) (s := []) (t := []) (x := []) (BrL.cat _ _ hbr hbr7) rfl HBN.out HKN.out, HW7.out.later (below_later HBN.out ((Below.refl _ _).alloc (Nat.le_refl _) _))⟩))
          clear HBN HKN HQ HS7 HW7 hbr hbr7 HUPc HBXc
          go_wp2_with fail
          go_ret
          exact HR.out
  · have e1 : (((kk : Nat) : Int) == 1) = false := beq_eq_false_iff_ne.2 (by omega)
    have HN := Lib.hid (px_none (n := n) (lg := lg) (L := L) (i := i) fun h1 => absurd (by rw [HK1.out] at h1; have := beq_iff_eq.1 h1; omega) hk1)
    clear hk HXY HK1
    obtain ⟨lvb, k1, k2, k3⟩ := HW1.out
    have hbb : Below w1.heap.size w1 (w1.alloc (.cells #[.int .i8 kk, .int .i64 m, .string (by_ (txt L i)), .int .i64 x, .int .i64 y] 60)) := (Below.refl _ _).alloc (Nat.le_refl _) _
    have HUPb : Hid (∀ spec E w', PRes BR spec pb B L tv e lvb (w1.alloc (.cells #[.int .i8 kk, .int .i64 m, .string (by_ (txt L i)), .int .i64 x, .int .i64 y] 60)) E w' → PRes BR spec pb B L tv e lv w E w') := Lib.hid fun spec E w' hr => HUPa.out spec E w' (hr.from_ k1 k3 hbb)
    have HBXb : Hid (∀ (k : Nat) (lg' : List Nat) (w' : World), Went pb B L tv e lvb k lg' (w1.alloc (.cells #[.int .i8 kk, .int .i64 m, .string (by_ (txt L i)), .int .i64 x, .int .i64 y] 60)) w' → Blk w1.heap.size #[.int .i8 kk, .int .i64 m, .string (by_ (txt L i)), .int .i64 x, .int .i64 y] 60 w') := Lib.hid fun k lg' w' hw => hw.boxed k2 (Blk.alloc _ _ _)
    have HWb := Lib.hid (Went.refl (k2.later hbb))
    clear k1 k2 k3 hbb HW1 HUPa
    have HW2 := HWb
    clear HWb
    go_wp2_with fail
    (refine (HW2.out.call (R := BR) (spec := px L n (.bin 0) i lg) (fun lv1 h1 => HB.out 0 i lg lv1 _ (Nat.zero_le _) h1 (by omega))).mono ?_)
    rintro E w3 ⟨hr, hkb3⟩
    cases hs3 : px L n (.bin 0) i lg with
    | error j =>
      rw [hs3] at hr
      obtain ⟨rfl, hk⟩ := hr
      refine ⟨rfl, HUPb.out _ _ _ ?_⟩
      rw [HN.out,hs3]
      exact ⟨rfl, hk⟩
    | ok ee =>
      have hb3 := nt_bound hs3 hle trivial rfl
      rw [hs3] at hr
      obtain ⟨v, rfl, ⟨q1, rfl, hk1⟩, hw⟩ := hr
      have HW3 := Lib.hid hw
      have HS3 := Lib.hid hs3
      clear hw HW2 hs3
      have HK1 := Lib.hid hk1
      clear hk1
      obtain ⟨lv3, hp3⟩ := HW3.out.at_
      have HH2 := Lib.hid (here_any hp3)
      clear hp3
      go_wp2_with fail
      refine HH2.out.mono ?_
      rintro E w4 ⟨rfl, hb4⟩
      have HW4 := Lib.hid (HW3.out.later hb4)
      have HK4 := Lib.hid (BrL.kb _ HK1.out (KB.below hb4))
      clear HW3 HH2 HK1 hb4
      obtain ⟨kk2, m2, x2, y2, hC, -, -, hxy2⟩ := tokC_lit3 L e ee.2.1
      rw [hC]
      have HXY2 := Lib.hid hxy2
      clear hC hxy2
      obtain ⟨lvc, k1, k2, k3⟩ := HW4.out
      have hbb : Below w4.heap.size w4 (w4.alloc (.cells #[.int .i64 x2, .int .i64 y2] 25)) := (Below.refl _ _).alloc (Nat.le_refl _) _
      have HUPc : Hid (∀ spec E w', PRes BR spec pb B L tv e lvc (w4.alloc (.cells #[.int .i64 x2, .int .i64 y2] 25)) E w' → PRes BR spec pb B L tv e lv w E w') := Lib.hid fun spec E w' hr => HUPb.out spec E w' (hr.from_ k1 k3 hbb)
      have HBXc : Hid (∀ (k : Nat) (lg' : List Nat) (w' : World), Went pb B L tv e lvc k lg' (w4.alloc (.cells #[.int .i64 x2, .int .i64 y2] 25)) w' → Blk w4.heap.size #[.int .i64 x2, .int .i64 y2] 25 w') := Lib.hid fun k lg' w' hw => hw.boxed k2 (Blk.alloc _ _ _)
      have HWc := Lib.hid (Went.refl (k2.later hbb))
      clear k1 k2 k3 hbb HW4 HUPb
      have HT := Lib.hid (went_takes HWc.out [58, 61])
      have HKc : Hid (BrL (w4.alloc (.cells #[.int .i64 x2, .int .i64 y2] 25)) [.pointer (some ⟨q1, 0, none⟩)] ee.1) := Lib.hid (BrL.kb _ HK4.out (KB.below ((Below.refl _ _).alloc (Nat.le_refl _) _)))
      clear HK4
      simp only [by_] at HT
      have hf3 := @field_at
      go_wp2_with fail
      clear hf3
      refine HT.out.mono ?_
      rintro E w5 ⟨rfl, hw5, hkb5⟩
      have HW5 := Lib.hid hw5
      have HK5 := Lib.hid (BrL.kb _ HKc.out hkb5)
      clear HT hw5 hkb5 HKc HWc
      cases hm : isM L [58, 61] ee.2.1 with
      | false =>
        have HR : Hid (PRes BR (px L (n + 1) .expr i lg) pb B L tv e lv w (.returned (.pointer (some ⟨q1, 0, none⟩))) w5) := Lib.hid (HUPc.out _ _ _ (by
          have := HW5.out
          rw [adv_no hm] at this
          rw [HN.out, HS3.out, bnd_ok, if_neg (no_true (by exact hm))]
          exact ⟨_, rfl, ⟨q1, rfl, HK5.out⟩, this⟩))
        clear hm HW5 HK5 HN HS3 HUPc
        go_wp2_with fail
        go_ret
        exact HR.out
      | true =>
        have hlt2 := isM_lt hm
        have HW6 : Hid (Went pb B L tv e lvc (ee.2.1 + 1) ee.2.2 (w4.alloc (.cells #[.int .i64 x2, .int .i64 y2] 25)) w5) := Lib.hid (by have := HW5.out; rwa [adv_yes hm] at this)
        have HQ : Hid (px L (n + 1) .expr i lg = bnd (px L n .expr (ee.2.1 + 1) ee.2.2) fun g => .ok (mk 28 (x2, y2) (cat ee.1 g.1) 0 [] [] [], g.2)) := Lib.hid (by
          rw [HN.out, HS3.out, bnd_ok, if_pos (by exact hm), ← here_pl e hlt2, ← HXY2.out])
        clear hm HW5 HN HS3
        go_wp2_with fail
        have bx := HBXc.out _ _ _ HW6.out
        have c0 := bx.cell (i := 0) rfl
        have c1 := bx.cell (i := 1) rfl
        clear bx
        refine wp_region_plan (S := fun w' => w'.cell? ⟨w4.heap.size, 0, none⟩ = some (.int .i64 x2) ∧ w'.cell? ⟨w4.heap.size, 1, none⟩ = some (.int .i64 y2)) [(0, true), (1, true), (2, true), (3, false), (4, false), (5, false), (6, true)] (by kernel_rfl) (by kernel_rfl) (by kernel_rfl) (fun _ _ _ _ _ h => h) ⟨c0, c1⟩ ?_
        intro HSc
        repeat (first | (apply wpPlan_look; rfl; rfl; (intro wq hq; (try dsimp only at hq); go_split_ands; go_simp; (try rw [if_neg (by omega)]); (try rw [if_pos (by omega)]); try with_reducible rfl); simp only [Act.put, List.setIfInBounds_toArray, List.set_cons_zero, List.set_cons_succ]) | (apply wpPlan_skip; rfl; rfl; simp only [Act.put, List.setIfInBounds_toArray, List.set_cons_zero, List.set_cons_succ]) | (apply wpPlan_pass; rfl; rfl; assumption; simp only [Act.put, List.setIfInBounds_toArray, List.set_cons_zero, List.set_cons_succ]))
        clear HSc c0 c1
        (apply wpPlan_callS; rfl; rfl; rfl; rfl; kernel_rfl; exact (HW6.out.later ((Below.refl _ _).drew)).call (R := BR) (spec := px L n .expr (ee.2.1 + 1) ee.2.2) (fun lv1 h1 => HE.out (ee.2.1 + 1) ee.2.2 lv1 _ h1 (by omega)); rfl; rintro E w7 ⟨hr, hkb7⟩)
        cases hs7 : px L n .expr (ee.2.1 + 1) ee.2.2 with
        | error j =>
          rw [hs7] at hr
          obtain ⟨rfl, hk⟩ := hr
          refine .inr ⟨_, rfl, rfl, HUPc.out _ _ _ ?_⟩
          rw [HQ.out,hs7]
          exact ⟨rfl, hk⟩
        | ok q =>
          have hbr : BrL w7 [.pointer (some ⟨q1, 0, none⟩)] ee.1 := BrL.kb _ HK5.out hkb7
          rw [hs7] at hr
          obtain ⟨v, rfl, ⟨q0, rfl, hbr7⟩, hw⟩ := hr
          have HW7 := Lib.hid hw
          have HS7 := Lib.hid hs7
          have bx := HBXc.out _ _ _ hw
          have c0 := bx.cell (i := 0) rfl
          have c1 := bx.cell (i := 1) rfl
          clear bx hw HW6 hs7
          refine .inl ⟨_, rfl, _, fun _ h => h, ⟨c0, c1⟩, ?_⟩
          simp only [Act.put, List.setIfInBounds_toArray, List.set_cons_zero, List.set_cons_succ]
          repeat (first | (apply wpPlan_look; rfl; rfl; (intro wq hq; (try dsimp only at hq); go_split_ands; go_simp; (try rw [if_neg (by omega)]); (try rw [if_pos (by omega)]); try with_reducible rfl); simp only [Act.put, List.setIfInBounds_toArray, List.set_cons_zero, List.set_cons_succ]) | (apply wpPlan_skip; rfl; rfl; simp only [Act.put, List.setIfInBounds_toArray, List.set_cons_zero, List.set_cons_succ]) | (apply wpPlan_pass; rfl; rfl; assumption; simp only [Act.put, List.setIfInBounds_toArray, List.set_cons_zero, List.set_cons_succ]))
          have hbk : Below w7.heap.size w7 (w7.alloc (.cells #[.pointer (some ⟨q1, 0, none⟩), .pointer (some ⟨q0, 0, none⟩)] 55)) := (Below.refl _ _).alloc (Nat.le_refl _) _
          have d0 := cell_later hbk c0
          have d1 := cell_later hbk c1
          refine wpPlan_run rfl rfl (by simp [execOp, go_sem, build_p1, build_p2, build_p3] <;> (first | exact ⟨rfl, rfl⟩ | rfl)) _ (fun _ h => h) ⟨d0, d1⟩ ?_
          simp only [Act.put, List.setIfInBounds_toArray, List.set_cons_zero, List.set_cons_succ]
          repeat (first | (apply wpPlan_look; rfl; rfl; (intro wq hq; (try dsimp only at hq); go_split_ands; go_simp; (try rw [if_neg (by omega)]); (try rw [if_pos (by omega)]); try with_reducible rfl); simp only [Act.put, List.setIfInBounds_toArray, List.set_cons_zero, List.set_cons_succ]) | (apply wpPlan_skip; rfl; rfl; simp only [Act.put, List.setIfInBounds_toArray, List.set_cons_zero, List.set_cons_succ]) | (apply wpPlan_pass; rfl; rfl; assumption; simp only [Act.put, List.setIfInBounds_toArray, List.set_cons_zero, List.set_cons_succ]))
          have HBK := Lib.hid hbk
          clear c0 c1 hbk
          (apply wpPlan_call; rfl; rfl; rfl; rfl; kernel_rfl; exact node_any 28 x2 y2 (some ⟨w7.heap.size, 0, none⟩) 2 2 _; rfl; rintro E wn ⟨b, rfl, hle, hbn, hkn⟩)
          have HBN := Lib.hid hbn
          have HKN := Lib.hid hkn
          refine ⟨_, rfl, as_S ⟨cell_later hbn d0, cell_later hbn d1⟩ ?_⟩
          intro HSc
          simp only [Act.put, List.setIfInBounds_toArray, List.set_cons_zero, List.set_cons_succ]
          repeat (first | (apply wpPlan_look; rfl; rfl; (intro wq hq; (try dsimp only at hq); go_split_ands; go_simp; (try rw [if_neg (by omega)]); (try rw [if_pos (by omega)]); try with_reducible rfl); simp only [Act.put, List.setIfInBounds_toArray, List.set_cons_zero, List.set_cons_succ]) | (apply wpPlan_skip; rfl; rfl; simp only [Act.put, List.setIfInBounds_toArray, List.set_cons_zero, List.set_cons_succ]) | (apply wpPlan_pass; rfl; rfl; assumption; simp only [Act.put, List.setIfInBounds_toArray, List.set_cons_zero, List.set_cons_succ]))
          apply wpPlan_done
          clear HSc d0 d1 hbn hkn
          have HR : Hid (PRes BR (px L (n + 1) .expr i lg) pb B L tv e lv w (.returned (.pointer (some ⟨b, 0, none⟩))) wn) := Lib.hid (HUPc.out _ _ _ (by
            rw [HQ.out, HS7.out, bnd_ok]
            exact ⟨_, rfl, made (ps := [.pointer (some ⟨q1, 0, none⟩), .pointer (some ⟨q0, 0, none⟩)]) (kind := 28) (N := 0) (p := (x2, y2)) (s := []) (t := []) (x := []) (BrL.cat _ _ hbr hbr7) rfl HBN.out HKN.out, HW7.out.later (below_later HBN.out ((Below.refl _ _).alloc (Nat.le_refl _) _))⟩))
          clear HBN HKN HQ HS7 HW7 hbr hbr7 HUPc HBXc
          go_wp2_with fail
          go_ret
          exact HR.out
end
end Go.Proofs.YtnhdbjhdmdefmaaDoor

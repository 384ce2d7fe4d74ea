
/- Walks of parse: atoms; all that reads expressions, together. -/
import Derived.Test.YtnhdbjhdmdefmaaDoorZr
namespace Culp.Gr
set_option linter.unusedSimpArgs false
set_option linter.unusedVariables false
open Go Go.RowKit Culp Culp.Tr Go.Proofs.YtnhdbjhdmdefmaaDoor
section
variable {L : List Tok} {n i : Nat} {lg : List Nat}
theorem px_num (h : kd L i = 3) : px L (n + 1) .atom i lg = .ok (mk 1 (pl L i) .nil (num L i) [] [] [], i + 1, lg) := by
  rw [px, if_pos (by rw [isK_kd L i (by decide), h]; rfl)]
theorem px_str (h : kd L i = 4) : px L (n + 1) .atom i lg = .ok (mk 2 (pl L i) .nil 0 (txt L i) [] [], i + 1, lg) := by
  rw [px, if_neg (by rw [isK_kd L i (by decide), h]; decide), if_pos (by rw [isK_kd L i (by decide), h]; rfl)]
theorem px_var (h : kd L i = 2) : px L (n + 1) .atom i lg = .ok (mk 4 (pl L i) .nil 0 (txt L i) [] [], i + 1, lg) := by
  rw [px, if_neg (by rw [isK_kd L i (by decide), h]; decide), if_neg (by rw [isK_kd L i (by decide), h]; decide), if_pos (by rw [isK_kd L i (by decide), h]; rfl)]
theorem px_wo (h : kd L i = 1) : px L (n + 1) .atom i lg = woS L n i lg (pl L i) (txt L i) := by
  rw [px, if_neg (by rw [isK_kd L i (by decide), h]; decide), if_neg (by rw [isK_kd L i (by decide), h]; decide), if_neg (by rw [isK_kd L i (by decide), h]; decide), if_pos (by rw [isK_kd L i (by decide), h]; rfl)]
  unfold woS
  simp only [beq_iff_eq]
theorem px_br (h : kd L i = 5) (ht : txt L i = [40]) : px L (n + 1) .atom i lg = brS L n (i + 1) lg (pl L i) := by
  rw [px, if_neg (by rw [isK_kd L i (by decide), h]; decide), if_neg (by rw [isK_kd L i (by decide), h]; decide), if_neg (by rw [isK_kd L i (by decide), h]; decide), if_neg (by rw [isK_kd L i (by decide), h]; decide), if_pos (by rw [isK_kd L i (by decide), h, ht]; rfl)]
  rfl
theorem px_li (h : kd L i = 5) (ht : txt L i = [91]) : px L (n + 1) .atom i lg = liS L n (i + 1) lg (pl L i) := by
  rw [px, if_neg (by rw [isK_kd L i (by decide), h]; decide), if_neg (by rw [isK_kd L i (by decide), h]; decide), if_neg (by rw [isK_kd L i (by decide), h]; decide), if_neg (by rw [isK_kd L i (by decide), h]; decide), if_neg (by rw [isK_kd L i (by decide), h, ht]; decide), if_pos (by rw [isK_kd L i (by decide), h, ht]; rfl)]
  rfl
theorem px_err (h3 : kd L i ≠ 3) (h4 : kd L i ≠ 4) (h2 : kd L i ≠ 2) (h1 : kd L i ≠ 1) (h5 : kd L i = 5 → txt L i ≠ [40] ∧ txt L i ≠ [91]) : px L (n + 1) .atom i lg = .error i := by
  have K : ∀ k, k ≠ 0 → kd L i ≠ k → ¬ isK L k i = true := fun k h0 h => by rw [isK_kd L i h0, beq_iff_eq]; exact h
  have K5 : ∀ s, (kd L i = 5 → txt L i ≠ s) → ¬ (isK L 5 i && txt L i == s) = true := fun s hs hh => by
    rw [isK_kd L i (by decide), Bool.and_eq_true, beq_iff_eq, beq_iff_eq] at hh
    exact hs hh.1 hh.2
  rw [px, if_neg (K 3 (by decide) h3), if_neg (K 4 (by decide) h4), if_neg (K 2 (by decide) h2), if_neg (K 1 (by decide) h1), if_neg (K5 _ fun h => (h5 h).1), if_neg (K5 _ fun h => (h5 h).2)]
theorem kd_lt2 {k : Nat} (h : kd L i = k) (hk : k ≠ 0) : i < L.length := by
  have : isK L k i = true := by rw [isK_kd L i hk, h]; simp
  exact isK_lt this
end
end Culp.Gr
namespace Go.Proofs.YtnhdbjhdmdefmaaDoor
set_option linter.unusedSimpArgs false
set_option linter.unusedVariables false
open Go.RowKit Culp Culp.Tr Culp.Gr
section
variable {pb B : Nat} {L : List Tok} {tv : Value} {e : Nat × Nat}
set_option maxRecDepth 100000 in
set_option maxHeartbeats 6400000 in
theorem atom_step {n : Nat} (hE : ∀ m, m ≤ n → ExC pb B L tv e m) : AtC pb B L tv e (n + 1) := by
  intro i lg lv w h hn
  have hsm := h.small
  have hfw := h.few
  have hle := h.le
  have HH := Lib.hid (here_any h)
  have HWa := Lib.hid (Went.refl h)
  have HE := Lib.hid hE
  have HP := Lib.hid h
  clear h hE
  go_enter Tryd.func66, Tryd.ntmps66
  go_wp2_with fail
  refine HH.out.mono ?_
  rintro E w1 ⟨rfl, hb1⟩
  have HW1 := Lib.hid (HWa.out.later hb1)
  have HP1 := Lib.hid (HP.out.later hb1)
  have HB1 := Lib.hid hb1
  clear HH hb1 HWa HP
  have c1 : ∀ o, (w1.alloc o).cell? ⟨pb, 1, none⟩ = some (.int .i64 i) := fun o => (HP1.out.later ((Below.refl _ _).alloc (Nat.le_refl _) o)).blk.cell (i := 1) rfl
  have f1 : ∀ o, (w1.alloc o).frozen? ⟨pb, 1, none⟩ = false := fun o => (HP1.out.later ((Below.refl _ _).alloc (Nat.le_refl _) o)).blk.free 1
  have hpb := HP1.out.blk.lt
  obtain ⟨kk, mm, x, y, hC, hk, hm, hxy⟩ := tokC_lit3 L e i
  rw [hC]
  have HXY := Lib.hid hxy
  have HMM := Lib.hid hm
  clear hC hxy hm
  by_cases k3 : kk = 3
  · subst k3
    have e3 : ∀ s, mk 1 (x, y) .nil (num L i) [] [] [] = s → mk 1 (x, y) .nil mm [] [] [] = s := fun s hs => by rw [HMM.out]; exact hs
    clear e3
    have HN : Hid (num L i = mm) := Lib.hid HMM.out.symm
    have px_num2 : ∀ {n : Nat} {lg : List Nat}, kd L i = 3 → px L (n + 1) .atom i lg = .ok (mk 1 (pl L i) .nil mm [] [] [], i + 1, lg) := fun h => by rw [px_num h, HN.out]
    have hlt := kd_lt2 hk.symm (by decide)
    have hpl : pl L i = (x, y) := by rw [← here_pl e hlt, HXY.out]
    have HPL := Lib.hid hpl
    obtain ⟨lvb, k1, k2, k3⟩ := HW1.out.step hlt
    have hbb : Below (w1.setCell ⟨pb, 1, none⟩ (.int .i64 ((i : Int) + 1))).heap.size (w1.setCell ⟨pb, 1, none⟩ (.int .i64 ((i : Int) + 1))) ((w1.setCell ⟨pb, 1, none⟩ (.int .i64 ((i : Int) + 1))).alloc (.cells #[.int .i8 3, .int .i64 mm, .string (by_ (txt L i)), .int .i64 x, .int .i64 y] 60)) := (Below.refl _ _).alloc (Nat.le_refl _) _
    have HUPb : Hid (∀ spec E w', PRes BR spec pb B L tv e lvb ((w1.setCell ⟨pb, 1, none⟩ (.int .i64 ((i : Int) + 1))).alloc (.cells #[.int .i8 3, .int .i64 mm, .string (by_ (txt L i)), .int .i64 x, .int .i64 y] 60)) E w' → PRes BR spec pb B L tv e lv w E w') := Lib.hid fun spec E w' hr => hr.from_ k1 k3 hbb
    have hbk0 : Blk w1.heap.size #[.int .i8 3, .int .i64 mm, .string (by_ (txt L i)), .int .i64 x, .int .i64 y] 60 ((w1.setCell ⟨pb, 1, none⟩ (.int .i64 ((i : Int) + 1))).alloc (.cells #[.int .i8 3, .int .i64 mm, .string (by_ (txt L i)), .int .i64 x, .int .i64 y] 60)) := by
      have := Blk.alloc (w1.setCell ⟨pb, 1, none⟩ (.int .i64 ((i : Int) + 1))) #[.int .i8 3, .int .i64 mm, .string (by_ (txt L i)), .int .i64 x, .int .i64 y] 60
      rwa [World.size_setCell] at this
    have HBK := Lib.hid hbk0
    have HWb := Lib.hid (Went.refl (k2.later hbb))
    have HKD := Lib.hid hk
    clear k1 k2 k3 hbb hbk0 HW1 hpl hk
    go_wp2_with fail
    refine (node_any 1 x y none 0 0 _).mono ?_
    rintro E wn ⟨b, rfl, hle, hbn, hkn⟩
    have c1 := (HBK.out.later hbn).cell (i := 1) rfl
    have c2 := (HBK.out.later hbn).cell (i := 2) rfl
    have g1 := hkn.cell (i := 2) rfl
    have f1 := hkn.free 2
    have HR : Hid (PRes BR (px L (n + 1) .atom i lg) pb B L tv e lv w (.returned (.pointer (some ⟨b, 0, none⟩))) (wn.setCell ⟨b, 2, none⟩ (.int .i64 mm))) := Lib.hid (HUPb.out _ _ _ (by
      rw [px_num2 HKD.out.symm, HPL.out]
      exact ⟨_, rfl, made0 (kind := 1) (N := mm) (p := (x, y)) (s := []) (t := []) (x := []) (blk_set hkn 2 (.int .i64 mm)), HWb.out.later (below_set hbn hle)⟩))
    clear hbn hkn HUPb HBK HWb HKD HPL
    go_wp2_with fail
    go_ret
    exact HR.out
  by_cases k4 : kk = 4
  · subst k4
    clear k3
    have hlt := kd_lt2 hk.symm (by decide)
    have hpl : pl L i = (x, y) := by rw [← here_pl e hlt, HXY.out]
    have HPL := Lib.hid hpl
    obtain ⟨lvb, k1, k2, k3⟩ := HW1.out.step hlt
    have hbb : Below (w1.setCell ⟨pb, 1, none⟩ (.int .i64 ((i : Int) + 1))).heap.size (w1.setCell ⟨pb, 1, none⟩ (.int .i64 ((i : Int) + 1))) ((w1.setCell ⟨pb, 1, none⟩ (.int .i64 ((i : Int) + 1))).alloc (.cells #[.int .i8 4, .int .i64 mm, .string (by_ (txt L i)), .int .i64 x, .int .i64 y] 60)) := (Below.refl _ _).alloc (Nat.le_refl _) _
    have HUPb : Hid (∀ spec E w', PRes BR spec pb B L tv e lvb ((w1.setCell ⟨pb, 1, none⟩ (.int .i64 ((i : Int) + 1))).alloc (.cells #[.int .i8 4, .int .i64 mm, .string (by_ (txt L i)), .int .i64 x, .int .i64 y] 60)) E w' → PRes BR spec pb B L tv e lv w E w') := Lib.hid fun spec E w' hr => hr.from_ k1 k3 hbb
    have hbk0 : Blk w1.heap.size #[.int .i8 4, .int .i64 mm, .string (by_ (txt L i)), .int .i64 x, .int .i64 y] 60 ((w1.setCell ⟨pb, 1, none⟩ (.int .i64 ((i : Int) + 1))).alloc (.cells #[.int .i8 4, .int .i64 mm, .string (by_ (txt L i)), .int .i64 x, .int .i64 y] 60)) := by
      have := Blk.alloc (w1.setCell ⟨pb, 1, none⟩ (.int .i64 ((i : Int) + 1))) #[.int .i8 4, .int .i64 mm, .string (by_ (txt L i)), .int .i64 x, .int .i64 y] 60
      rwa [World.size_setCell] at this
    have HBK := Lib.hid hbk0
    have HWb := Lib.hid (Went.refl (k2.later hbb))
    have HKD := Lib.hid hk
    clear k1 k2 k3 hbb hbk0 HW1 hpl hk
    go_wp2_with fail
    refine (node_any 2 x y none 0 0 _).mono ?_
    rintro E wn ⟨b, rfl, hle, hbn, hkn⟩
    have c1 := (HBK.out.later hbn).cell (i := 1) rfl
    have c2 := (HBK.out.later hbn).cell (i := 2) rfl
    have g1 := hkn.cell (i := 3) rfl
    have f1 := hkn.free 3
    have HR : Hid (PRes BR (px L (n + 1) .atom i lg) pb B L tv e lv w (.returned (.pointer (some ⟨b, 0, none⟩))) (wn.setCell ⟨b, 3, none⟩ (.string (by_ (txt L i))))) := Lib.hid (HUPb.out _ _ _ (by
      rw [px_str HKD.out.symm, HPL.out]
      exact ⟨_, rfl, made0 (kind := 2) (N := 0) (p := (x, y)) (s := txt L i) (t := []) (x := []) (blk_set hkn 3 (.string (by_ (txt L i)))), HWb.out.later (below_set hbn hle)⟩))
    clear hbn hkn HUPb HBK HWb HKD HPL
    go_wp2_with fail
    go_ret
    exact HR.out
  by_cases k2 : kk = 2
  · subst k2
    clear k3 k4
    have hlt := kd_lt2 hk.symm (by decide)
    have hpl : pl L i = (x, y) := by rw [← here_pl e hlt, HXY.out]
    have HPL := Lib.hid hpl
    obtain ⟨lvb, k1, k2, k3⟩ := HW1.out.step hlt
    have hbb : Below (w1.setCell ⟨pb, 1, none⟩ (.int .i64 ((i : Int) + 1))).heap.size (w1.setCell ⟨pb, 1, none⟩ (.int .i64 ((i : Int) + 1))) ((w1.setCell ⟨pb, 1, none⟩ (.int .i64 ((i : Int) + 1))).alloc (.cells #[.int .i8 2, .int .i64 mm, .string (by_ (txt L i)), .int .i64 x, .int .i64 y] 60)) := (Below.refl _ _).alloc (Nat.le_refl _) _
    have HUPb : Hid (∀ spec E w', PRes BR spec pb B L tv e lvb ((w1.setCell ⟨pb, 1, none⟩ (.int .i64 ((i : Int) + 1))).alloc (.cells #[.int .i8 2, .int .i64 mm, .string (by_ (txt L i)), .int .i64 x, .int .i64 y] 60)) E w' → PRes BR spec pb B L tv e lv w E w') := Lib.hid fun spec E w' hr => hr.from_ k1 k3 hbb
    have hbk0 : Blk w1.heap.size #[.int .i8 2, .int .i64 mm, .string (by_ (txt L i)), .int .i64 x, .int .i64 y] 60 ((w1.setCell ⟨pb, 1, none⟩ (.int .i64 ((i : Int) + 1))).alloc (.cells #[.int .i8 2, .int .i64 mm, .string (by_ (txt L i)), .int .i64 x, .int .i64 y] 60)) := by
      have := Blk.alloc (w1.setCell ⟨pb, 1, none⟩ (.int .i64 ((i : Int) + 1))) #[.int .i8 2, .int .i64 mm, .string (by_ (txt L i)), .int .i64 x, .int .i64 y] 60
      rwa [World.size_setCell] at this
    have HBK := Lib.hid hbk0
    have HWb := Lib.hid (Went.refl (k2.later hbb))
    have HKD := Lib.hid hk
    clear k1 k2 k3 hbb hbk0 HW1 hpl hk
    go_wp2_with fail
    refine (node_any 4 x y none 0 0 _).mono ?_
    rintro E wn ⟨b, rfl, hle, hbn, hkn⟩
    have c1 := (HBK.out.later hbn).cell (i := 1) rfl
    have c2 := (HBK.out.later hbn).cell (i := 2) rfl
    have g1 := hkn.cell (i := 3) rfl
    have f1 := hkn.free 3
    have HR : Hid (PRes BR (px L (n + 1) .atom i lg) pb B L tv e lv w (.returned (.pointer (some ⟨b, 0, none⟩))) (wn.setCell ⟨b, 3, none⟩ (.string (by_ (txt L i))))) := Lib.hid (HUPb.out _ _ _ (by
      rw [px_var HKD.out.symm, HPL.out]
      exact ⟨_, rfl, made0 (kind := 4) (N := 0) (p := (x, y)) (s := txt L i) (t := []) (x := []) (blk_set hkn 3 (.string (by_ (txt L i)))), HWb.out.later (below_set hbn hle)⟩))
    clear hbn hkn HUPb HBK HWb HKD HPL
    go_wp2_with fail
    go_ret
    exact HR.out
  by_cases k1 : kk = 1
  · subst k1
    clear k2 k3 k4
    have hlt := kd_lt2 hk.symm (by decide)
    have hpl : pl L i = (x, y) := by rw [← here_pl e hlt, HXY.out]
    have HPL := Lib.hid hpl
    obtain ⟨lvb, k1, k2, k3⟩ := HW1.out.step hlt
    have hbb : Below (w1.setCell ⟨pb, 1, none⟩ (.int .i64 ((i : Int) + 1))).heap.size (w1.setCell ⟨pb, 1, none⟩ (.int .i64 ((i : Int) + 1))) ((w1.setCell ⟨pb, 1, none⟩ (.int .i64 ((i : Int) + 1))).alloc (.cells #[.int .i8 1, .int .i64 mm, .string (by_ (txt L i)), .int .i64 x, .int .i64 y] 60)) := (Below.refl _ _).alloc (Nat.le_refl _) _
    have HUPb : Hid (∀ spec E w', PRes BR spec pb B L tv e lvb ((w1.setCell ⟨pb, 1, none⟩ (.int .i64 ((i : Int) + 1))).alloc (.cells #[.int .i8 1, .int .i64 mm, .string (by_ (txt L i)), .int .i64 x, .int .i64 y] 60)) E w' → PRes BR spec pb B L tv e lv w E w') := Lib.hid fun spec E w' hr => hr.from_ k1 k3 hbb
    have hbk0 : Blk w1.heap.size #[.int .i8 1, .int .i64 mm, .string (by_ (txt L i)), .int .i64 x, .int .i64 y] 60 ((w1.setCell ⟨pb, 1, none⟩ (.int .i64 ((i : Int) + 1))).alloc (.cells #[.int .i8 1, .int .i64 mm, .string (by_ (txt L i)), .int .i64 x, .int .i64 y] 60)) := by
      have := Blk.alloc (w1.setCell ⟨pb, 1, none⟩ (.int .i64 ((i : Int) + 1))) #[.int .i8 1, .int .i64 mm, .string (by_ (txt L i)), .int .i64 x, .int .i64 y] 60
      rwa [World.size_setCell] at this
    have HBK := Lib.hid hbk0
    have HWb := Lib.hid (Went.refl (k2.later hbb))
    have HKD := Lib.hid hk
    clear k1 k2 k3 hbb hbk0 HW1 hpl hk
    have HQ : Hid (px L (n + 1) .atom i lg = woS L n i lg (x, y) (txt L i)) := Lib.hid (by rw [px_wo HKD.out.symm, HPL.out])
    clear HKD HPL
    go_wp2_with (refine wpList_load_row rfl _ _ rfl w1.heap.size rfl 60 _ (0, 0) _ HBK.out Tryd.underlying60 rfl ptok_size ?_; apply stop_mark)
    refine Lib.hid ?_
    go_wp2_with fail
    (refine (HWb.out.call (R := BR) (spec := woS L n i lg (x, y) (txt L i)) (fun lv1 h1 => word_step (HE.out n (Nat.le_refl _)) h1 hfw (by omega) 1 mm x y (txt L i))).mono ?_)
    rintro E w4 ⟨hr, hkb4⟩
    cases hs4 : woS L n i lg (x, y) (txt L i) with
    | error j =>
      rw [hs4] at hr
      obtain ⟨rfl, hk⟩ := hr
      refine ⟨rfl, HUPb.out _ _ _ ?_⟩
      rw [HQ.out,hs4]
      exact ⟨rfl, hk⟩
    | ok q =>
      rw [hs4] at hr
      obtain ⟨v, rfl, ⟨b, rfl, hbr⟩, hw⟩ := hr
      have HR : Hid (PRes BR (px L (n + 1) .atom i lg) pb B L tv e lv w (.returned (.pointer (some ⟨b, 0, none⟩))) w4) := Lib.hid (HUPb.out _ _ _ (by rw [HQ.out,hs4]; exact ⟨_, rfl, ⟨b, rfl, hbr⟩, hw⟩))
      clear hw hbr hs4 HUPb
      go_wp2_with fail
      go_ret
      exact HR.out
  have hnf : (kk = 5 → txt L i ≠ [40] ∧ txt L i ≠ [91]) → px L (n + 1) .atom i lg = .error i := fun h5 => px_err (by rwa [← hk]) (by rwa [← hk]) (by rwa [← hk]) (by rwa [← hk]) (by rwa [← hk])
  have HNF := Lib.hid hnf
  have c2 : ∀ o, ((w1.setCell ⟨pb, 1, none⟩ (.int .i64 ((i : Int) + 1))).alloc o).cell? ⟨pb, 1, none⟩ = some (.int .i64 ((i : Int) + 1)) := fun o => by
    have h2 := blk_set HP1.out.blk 1 (.int .i64 ((i : Int) + 1))
    exact (h2.later ((Below.refl _ _).alloc (Nat.le_refl _) o)).cell (i := 1) rfl
  have f2 : ∀ o, ((w1.setCell ⟨pb, 1, none⟩ (.int .i64 ((i : Int) + 1))).alloc o).frozen? ⟨pb, 1, none⟩ = false := fun o => by
    have h2 := blk_set HP1.out.blk 1 (.int .i64 ((i : Int) + 1))
    exact (h2.later ((Below.refl _ _).alloc (Nat.le_refl _) o)).free 1
  have HFL : Hid (∀ o, PS pb B L tv e i lg lv (((w1.setCell ⟨pb, 1, none⟩ (.int .i64 ((i : Int) + 1))).setCell ⟨pb, 1, none⟩ (.int .i64 i)).alloc o) ∧ KeepN pb lv.ownBlock w (((w1.setCell ⟨pb, 1, none⟩ (.int .i64 ((i : Int) + 1))).setCell ⟨pb, 1, none⟩ (.int .i64 i)).alloc o)) := Lib.hid fun o => by
    have hb2 : Below ((w1.setCell ⟨pb, 1, none⟩ (.int .i64 ((i : Int) + 1))).setCell ⟨pb, 1, none⟩ (.int .i64 i)).heap.size ((w1.setCell ⟨pb, 1, none⟩ (.int .i64 ((i : Int) + 1))).setCell ⟨pb, 1, none⟩ (.int .i64 i)) (((w1.setCell ⟨pb, 1, none⟩ (.int .i64 ((i : Int) + 1))).setCell ⟨pb, 1, none⟩ (.int .i64 i)).alloc o) := (Below.refl _ _).alloc (Nat.le_refl _) _
    refine ⟨(HP1.out.back _).later hb2, ?_⟩
    exact (((KeepN.of pb lv.ownBlock HB1.out).trans (keepN_cell pb lv.ownBlock 1 (.int .i64 ((i : Int) + 1)) w1) (.inl rfl)).trans (keepN_cell pb lv.ownBlock 1 (.int .i64 i) _) (.inl rfl)).trans (KeepN.of pb lv.ownBlock hb2) (.inl rfl)
  clear hnf
  by_cases k5 : kk = 5
  · subst k5
    by_cases t1 : txt L i = [40]
    · have e5 : ((by_ (txt L i)).toList == [40]) = true := by rw [by_list, t1]; rfl
      have HQ0 := Lib.hid (fun (h : kd L i = 5) => px_br (n := n) (lg := lg) h t1)
      clear k1 k2 k3 k4 t1 HNF c2 f2 HFL
      have hlt := kd_lt2 hk.symm (by decide)
      have hpl : pl L i = (x, y) := by rw [← here_pl e hlt, HXY.out]
      have HPL := Lib.hid hpl
      obtain ⟨lvb, k1, k2, k3⟩ := HW1.out.step hlt
      have hbb : Below (w1.setCell ⟨pb, 1, none⟩ (.int .i64 ((i : Int) + 1))).heap.size (w1.setCell ⟨pb, 1, none⟩ (.int .i64 ((i : Int) + 1))) ((w1.setCell ⟨pb, 1, none⟩ (.int .i64 ((i : Int) + 1))).alloc (.cells #[.int .i8 5, .int .i64 mm, .string (by_ (txt L i)), .int .i64 x, .int .i64 y] 60)) := (Below.refl _ _).alloc (Nat.le_refl _) _
      have HUPb : Hid (∀ spec E w', PRes BR spec pb B L tv e lvb ((w1.setCell ⟨pb, 1, none⟩ (.int .i64 ((i : Int) + 1))).alloc (.cells #[.int .i8 5, .int .i64 mm, .string (by_ (txt L i)), .int .i64 x, .int .i64 y] 60)) E w' → PRes BR spec pb B L tv e lv w E w') := Lib.hid fun spec E w' hr => hr.from_ k1 k3 hbb
      have hbk0 : Blk w1.heap.size #[.int .i8 5, .int .i64 mm, .string (by_ (txt L i)), .int .i64 x, .int .i64 y] 60 ((w1.setCell ⟨pb, 1, none⟩ (.int .i64 ((i : Int) + 1))).alloc (.cells #[.int .i8 5, .int .i64 mm, .string (by_ (txt L i)), .int .i64 x, .int .i64 y] 60)) := by
        have := Blk.alloc (w1.setCell ⟨pb, 1, none⟩ (.int .i64 ((i : Int) + 1))) #[.int .i8 5, .int .i64 mm, .string (by_ (txt L i)), .int .i64 x, .int .i64 y] 60
        rwa [World.size_setCell] at this
      have HBK := Lib.hid hbk0
      have HWb := Lib.hid (Went.refl (k2.later hbb))
      have HKD := Lib.hid hk
      clear k1 k2 k3 hbb hbk0 HW1 hpl hk
      have HQ : Hid (px L (n + 1) .atom i lg = brS L n (i + 1) lg (x, y)) := Lib.hid (by rw [HQ0.out HKD.out.symm, HPL.out])
      clear HKD HPL HQ0
      go_wp2_with fail
      (refine (HWb.out.call (R := BR) (spec := brS L n (i + 1) lg (x, y)) (fun lv1 h1 => bracket_step (HE.out n (Nat.le_refl _)) h1 (by omega) x y)).mono ?_)
      rintro E w4 ⟨hr, hkb4⟩
      cases hs4 : brS L n (i + 1) lg (x, y) with
      | error j =>
        rw [hs4] at hr
        obtain ⟨rfl, hk⟩ := hr
        refine ⟨rfl, HUPb.out _ _ _ ?_⟩
        rw [HQ.out,hs4]
        exact ⟨rfl, hk⟩
      | ok q =>
        rw [hs4] at hr
        obtain ⟨v, rfl, ⟨b, rfl, hbr⟩, hw⟩ := hr
        have HR : Hid (PRes BR (px L (n + 1) .atom i lg) pb B L tv e lv w (.returned (.pointer (some ⟨b, 0, none⟩))) w4) := Lib.hid (HUPb.out _ _ _ (by rw [HQ.out,hs4]; exact ⟨_, rfl, ⟨b, rfl, hbr⟩, hw⟩))
        clear hw hbr hs4 HUPb
        go_wp2_with fail
        go_ret
        exact HR.out
    have e5 : ((by_ (txt L i)).toList == [40]) = false := by rw [by_list]; exact beq_eq_false_iff_ne.2 t1
    by_cases t2 : txt L i = [91]
    · have e6 : ((by_ (txt L i)).toList == [91]) = true := by rw [by_list, t2]; rfl
      have HQ0 := Lib.hid (fun (h : kd L i = 5) => px_li (n := n) (lg := lg) h t2)
      clear k1 k2 k3 k4 t1 t2 HNF c2 f2 HFL
      have hlt := kd_lt2 hk.symm (by decide)
      have hpl : pl L i = (x, y) := by rw [← here_pl e hlt, HXY.out]
      have HPL := Lib.hid hpl
      obtain ⟨lvb, k1, k2, k3⟩ := HW1.out.step hlt
      have hbb : Below (w1.setCell ⟨pb, 1, none⟩ (.int .i64 ((i : Int) + 1))).heap.size (w1.setCell ⟨pb, 1, none⟩ (.int .i64 ((i : Int) + 1))) ((w1.setCell ⟨pb, 1, none⟩ (.int .i64 ((i : Int) + 1))).alloc (.cells #[.int .i8 5, .int .i64 mm, .string (by_ (txt L i)), .int .i64 x, .int .i64 y] 60)) := (Below.refl _ _).alloc (Nat.le_refl _) _
      have HUPb : Hid (∀ spec E w', PRes BR spec pb B L tv e lvb ((w1.setCell ⟨pb, 1, none⟩ (.int .i64 ((i : Int) + 1))).alloc (.cells #[.int .i8 5, .int .i64 mm, .string (by_ (txt L i)), .int .i64 x, .int .i64 y] 60)) E w' → PRes BR spec pb B L tv e lv w E w') := Lib.hid fun spec E w' hr => hr.from_ k1 k3 hbb
      have hbk0 : Blk w1.heap.size #[.int .i8 5, .int .i64 mm, .string (by_ (txt L i)), .int .i64 x, .int .i64 y] 60 ((w1.setCell ⟨pb, 1, none⟩ (.int .i64 ((i : Int) + 1))).alloc (.cells #[.int .i8 5, .int .i64 mm, .string (by_ (txt L i)), .int .i64 x, .int .i64 y] 60)) := by
        have := Blk.alloc (w1.setCell ⟨pb, 1, none⟩ (.int .i64 ((i : Int) + 1))) #[.int .i8 5, .int .i64 mm, .string (by_ (txt L i)), .int .i64 x, .int .i64 y] 60
        rwa [World.size_setCell] at this
      have HBK := Lib.hid hbk0
      have HWb := Lib.hid (Went.refl (k2.later hbb))
      have HKD := Lib.hid hk
      clear k1 k2 k3 hbb hbk0 HW1 hpl hk
      have HQ : Hid (px L (n + 1) .atom i lg = liS L n (i + 1) lg (x, y)) := Lib.hid (by rw [HQ0.out HKD.out.symm, HPL.out])
      clear HKD HPL HQ0
      go_wp2_with fail
      (refine (HWb.out.call (R := BR) (spec := liS L n (i + 1) lg (x, y)) (fun lv1 h1 => list_step HE.out h1 (by omega) x y)).mono ?_)
      rintro E w4 ⟨hr, hkb4⟩
      cases hs4 : liS L n (i + 1) lg (x, y) with
      | error j =>
        rw [hs4] at hr
        obtain ⟨rfl, hk⟩ := hr
        refine ⟨rfl, HUPb.out _ _ _ ?_⟩
        rw [HQ.out,hs4]
        exact ⟨rfl, hk⟩
      | ok q =>
        rw [hs4] at hr
        obtain ⟨v, rfl, ⟨b, rfl, hbr⟩, hw⟩ := hr
        have HR : Hid (PRes BR (px L (n + 1) .atom i lg) pb B L tv e lv w (.returned (.pointer (some ⟨b, 0, none⟩))) w4) := Lib.hid (HUPb.out _ _ _ (by rw [HQ.out,hs4]; exact ⟨_, rfl, ⟨b, rfl, hbr⟩, hw⟩))
        clear hw hbr hs4 HUPb
        go_wp2_with fail
        go_ret
        exact HR.out
    have e6 : ((by_ (txt L i)).toList == [91]) = false := by rw [by_list]; exact beq_eq_false_iff_ne.2 t2
    have HN := Lib.hid (HNF.out fun _ => ⟨t1, t2⟩)
    clear k1 k2 k3 k4 t1 t2 HNF hk HXY HMM HP1 HB1 HW1
    go_wp2_with fail
    refine (fail_any (HFL.out _).1).mono ?_
    rintro E w3 ⟨rfl, hb3⟩
    refine ⟨rfl, ?_⟩
    rw [HN.out]
    exact ⟨rfl, (HFL.out _).2.trans (KeepN.of pb lv.ownBlock hb3) (.inl rfl)⟩
  · have HN := Lib.hid (HNF.out fun h => absurd h k5)
    have e1 : (((kk : Nat) : Int) == 1) = false := beq_eq_false_iff_ne.2 (by omega)
    have e2 : (((kk : Nat) : Int) == 2) = false := beq_eq_false_iff_ne.2 (by omega)
    have e3 : (((kk : Nat) : Int) == 3) = false := beq_eq_false_iff_ne.2 (by omega)
    have e4 : (((kk : Nat) : Int) == 4) = false := beq_eq_false_iff_ne.2 (by omega)
    have e5 : (((kk : Nat) : Int) == 5) = false := beq_eq_false_iff_ne.2 (by omega)
    clear k1 k2 k3 k4 k5 HNF hk HXY HMM HP1 HB1 HW1
    go_wp2_with fail
    refine (fail_any (HFL.out _).1).mono ?_
    rintro E w3 ⟨rfl, hb3⟩
    refine ⟨rfl, ?_⟩
    rw [HN.out]
    exact ⟨rfl, (HFL.out _).2.trans (KeepN.of pb lv.ownBlock hb3) (.inl rfl)⟩
theorem px_all (pb B : Nat) (L : List Tok) (tv : Value) (e : Nat × Nat) : ∀ n m, m ≤ n → ExC pb B L tv e m ∧ BinC pb B L tv e m ∧ FaC pb B L tv e m ∧ AtC pb B L tv e m := by
  intro n
  induction n with
  | zero =>
    intro m hm
    obtain rfl : m = 0 := by omega
    exact ⟨fun i lg lv w h hn => absurd hn (Nat.not_lt_zero _), fun r i lg lv w hr h hn => absurd hn (Nat.not_lt_zero _), fun i lg lv w h hn => absurd hn (Nat.not_lt_zero _), fun i lg lv w h hn => absurd hn (Nat.not_lt_zero _)⟩
  | succ n ih =>
    intro m hm
    by_cases h : m ≤ n
    · exact ih m h
    · obtain rfl : m = n + 1 := by omega
      exact ⟨expr_step (ih n (Nat.le_refl _)).1 (ih n (Nat.le_refl _)).2.1, bin_step (fun m hm => (ih m hm).2.1) (ih n (Nat.le_refl _)).2.2.1, factor_step (fun m hm => (ih m hm).1) (ih n (Nat.le_refl _)).2.2.1 (ih n (Nat.le_refl _)).2.2.2, atom_step fun m hm => (ih m hm).1⟩
/-- An expression, whole. -/
theorem expr_any {i : Nat} {lg : List Nat} {lv : Value} {w : World} (h : PS pb B L tv e i lg lv w) : Calls Tryd.prog 16 #[.pointer (some ⟨pb, 0, none⟩)] w (PRes BR (expr L i lg) pb B L tv e lv w) :=
  (px_all pb B L tv e (fuel L) (fuel L) (Nat.le_refl _)).1 i lg lv w h (by unfold fuel; omega)
end
end Go.Proofs.YtnhdbjhdmdefmaaDoor

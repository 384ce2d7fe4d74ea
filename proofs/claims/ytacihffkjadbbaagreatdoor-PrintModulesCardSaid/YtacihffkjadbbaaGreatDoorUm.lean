
/- Walks of the document's chapter 7: how types and annotations are written. -/
import Derived.Test.YtacihffkjadbbaaGreatDoorUe
import Derived.Test.YtacihffkjadbbaaGreatDoorTrW
namespace Go.Proofs.YtacihffkjadbbaaGreatDoor
set_option linter.unusedSimpArgs false
set_option linter.unusedVariables false
open Go.RowKit Culp
/-- What Type does with a type. -/
def RTyP (t : Ty) : Prop := ∀ w : World, Calls Tryz.prog 83 #[.string t.str] w (Makes (.string (bs (Pt.wr t))) w)
theorem ext_last {t c : Ty} {d : List Ty} {n : Nat} (h : t.kids = d ++ [c]) (hn : n = 1 + (Ty.encs d).length) : t.str.extract n t.str.size = c.str := by
  subst hn
  obtain ⟨-, h2, -, -⟩ := part_at (k := c) (r := []) h
  have : t.str.size = 1 + (Ty.encs (d ++ [c])).length := by rw [str_size, enc_kids, ← h]; simp; omega
  rw [this]
  exact h2
theorem hd_one {t a : Ty} {r : List Ty} (h : t.kids = a :: r) : ∃ h1 : 1 < t.str.size, t.str[1] = a.hd := by
  have e : t.enc = t.hd :: (a.hd :: (Ty.encs a.kids ++ Ty.encs r)) := by rw [enc_kids, h, encs_cons, enc_kids]; simp
  have h1 : 1 < t.str.size := by rw [str_size, e]; simp
  refine ⟨h1, ?_⟩
  have : t.str.data.toList[1]? = some a.hd := by rw [str_list, e]; rfl
  rw [get_byte' _ _ h1] at this
  exact Option.some.inj this
set_option maxRecDepth 100000 in
set_option maxHeartbeats 1600000 in
theorem rty_int : RTyP .int := by
  intro w
  have hs : (Ty.str .int).size = 1 := rfl
  have hc : (((Ty.str .int)[0]'(by rw [hs]; decide)).toNat : Int) = 105 := rfl
  generalize hst : Ty.str .int = st at *
  go_enter Tryz.func83, Tryz.ntmps83
  go_wp2_with fail
  go_ret
  exact Makes.mk rfl (Below.refl _ _)
set_option maxHeartbeats 1600000 in
theorem rty_bool : RTyP .bool := by
  intro w
  have hs : (Ty.str .bool).size = 1 := rfl
  have hc : (((Ty.str .bool)[0]'(by rw [hs]; decide)).toNat : Int) = 98 := rfl
  generalize hst : Ty.str .bool = st at *
  go_enter Tryz.func83, Tryz.ntmps83
  go_wp2_with fail
  go_ret
  exact Makes.mk rfl (Below.refl _ _)
set_option maxHeartbeats 1600000 in
theorem rty_text : RTyP .text := by
  intro w
  have hs : (Ty.str .text).size = 1 := rfl
  have hc : (((Ty.str .text)[0]'(by rw [hs]; decide)).toNat : Int) = 116 := rfl
  generalize hst : Ty.str .text = st at *
  go_enter Tryz.func83, Tryz.ntmps83
  go_wp2_with fail
  go_ret
  exact Makes.mk rfl (Below.refl _ _)
set_option maxHeartbeats 1600000 in
theorem rty_dyn : RTyP .dyn := by
  intro w
  have hs : (Ty.str .dyn).size = 1 := rfl
  have hc : (((Ty.str .dyn)[0]'(by rw [hs]; decide)).toNat : Int) = 63 := rfl
  generalize hst : Ty.str .dyn = st at *
  go_enter Tryz.func83, Tryz.ntmps83
  go_wp2_with fail
  go_ret
  exact Makes.mk rfl (Below.refl _ _)
set_option maxRecDepth 100000 in
set_option maxHeartbeats 1600000 in
theorem rty_list (a : Ty) (ha : RTyP a) (hf : (Ty.list a).fits) : RTyP (.list a) := by
  intro w
  have hz : 0 < (Ty.str (Ty.list a)).size := by rw [str_size]; exact (Ty.list a).enc_pos
  have hc : ((Ty.str (Ty.list a))[0].toNat : Int) = 108 := by rw [str_get _ hz]; rfl
  have he := ext_last (t := .list a) (c := a) (d := []) (n := 1) rfl rfl
  have hl := wr_len a
  have ha' : a.enc.length ≤ 64 := fits_sub hf (by simp [Ty.kids])
  have hw : (bs (Pt.wr a)).size ≤ 400 := by rw [bs_size]; omega
  have HA := Lib.hid ha
  unfold RTyP at HA
  rw [← he] at HA
  have HW : Hid (Pt.wr (.list a) = [91] ++ Pt.wr a ++ [93]) := Lib.hid rfl
  generalize Ty.str (.list a) = st at *
  clear ha he
  go_enter Tryz.func83, Tryz.ntmps83
  go_wp2_with fail
  refine (HA.out _).mono ?_
  rintro e w1 ⟨rfl, hb1⟩
  go_wp2_with fail
  go_ret
  refine Makes.mk ?_ hb1
  rw [HW.out, ← bs_app, ← bs_app]
  rfl
set_option maxRecDepth 100000 in
set_option maxHeartbeats 1600000 in
theorem rty_box (a : Ty) (ha : RTyP a) (hf : (Ty.box a).fits) : RTyP (.box a) := by
  intro w
  have hz : 0 < (Ty.str (Ty.box a)).size := by rw [str_size]; exact (Ty.box a).enc_pos
  have hc : ((Ty.str (Ty.box a))[0].toNat : Int) = 120 := by rw [str_get _ hz]; rfl
  have he := ext_last (t := .box a) (c := a) (d := []) (n := 1) rfl rfl
  obtain ⟨hz1, hh⟩ := hd_one (t := .box a) (a := a) (r := []) rfl
  have hc1 : ((Ty.str (Ty.box a))[1].toNat : Int) = (a.hd.toNat : Int) := by rw [hh]
  have hl := wr_len a
  have ha' : a.enc.length ≤ 64 := fits_sub hf (by simp [Ty.kids])
  have hw : (bs (Pt.wr a)).size ≤ 400 := by rw [bs_size]; omega
  have HA := Lib.hid ha
  unfold RTyP at HA
  rw [← he] at HA
  have hi := isFn_hd a
  by_cases hF : Pt.isFn a = true
  · have HW : Hid (Pt.wr (.box a) = [98, 111, 120, 32] ++ ([40] ++ Pt.wr a ++ [41])) := Lib.hid (by rw [Pt.wr, if_pos hF])
    rw [hF] at hi
    generalize Ty.str (.box a) = st at *
    generalize (a.hd.toNat : Int) = h1 at *
    clear ha he hF hh
    go_enter Tryz.func83, Tryz.ntmps83
    go_wp2_with fail
    refine (HA.out _).mono ?_
    rintro e w1 ⟨rfl, hb1⟩
    go_wp2_with fail
    go_ret
    refine Makes.mk ?_ hb1
    rw [HW.out, ← bs_app, ← bs_app, ← bs_app]
    apply str_congr
    apply str_inj'
    simp [bs]
  · simp only [Bool.not_eq_true] at hF
    have HW : Hid (Pt.wr (.box a) = [98, 111, 120, 32] ++ Pt.wr a) := Lib.hid (by rw [Pt.wr, if_neg (by rw [hF]; decide)])
    rw [hF] at hi
    generalize Ty.str (.box a) = st at *
    generalize (a.hd.toNat : Int) = h1 at *
    clear ha he hF hh
    go_enter Tryz.func83, Tryz.ntmps83
    go_wp2_with fail
    refine (HA.out _).mono ?_
    rintro e w1 ⟨rfl, hb1⟩
    go_wp2_with fail
    go_ret
    refine Makes.mk ?_ hb1
    rw [HW.out, ← bs_app]
    rfl
set_option maxRecDepth 100000 in
set_option maxHeartbeats 1600000 in
theorem rty_pair (a c : Ty) (ha : RTyP a) (hcc : RTyP c) (hf : (Ty.pair a c).fits) : RTyP (.pair a c) := by
  intro w
  have hz : 0 < (Ty.str (Ty.pair a c)).size := by rw [str_size]; exact (Ty.pair a c).enc_pos
  have hc : ((Ty.str (Ty.pair a c))[0].toNat : Int) = 44 := by rw [str_get _ hz]; rfl
  have hk : (Ty.pair a c).kids = [a] ++ [c] := rfl
  have he := ext_last (t := .pair a c) (c := c) (d := [a]) (n := 1 + (Ty.encs [a]).length) rfl rfl
  obtain ⟨h1, h2, h3, h4⟩ := part_at (t := .pair a c) (k := a) (d := []) (r := [c]) rfl
  rw [show [] ++ [a] = [a] from rfl] at h1 h2 h3 h4
  rw [show 1 + (Ty.encs []).length = 1 from rfl] at h1 h2
  obtain ⟨hz1, hh⟩ := hd_one (t := .pair a c) (a := a) (r := [c]) rfl
  have hc1 : ((Ty.str (Ty.pair a c))[1].toNat : Int) = (a.hd.toNat : Int) := by rw [hh]
  have hl := wr_len a
  have hl2 := wr_len c
  have ha' : a.enc.length ≤ 64 := fits_sub hf (by simp [Ty.kids])
  have hc' : c.enc.length ≤ 64 := fits_sub hf (by simp [Ty.kids])
  have hw : (bs (Pt.wr a)).size ≤ 400 := by rw [bs_size]; omega
  have hw2 : (bs (Pt.wr c)).size ≤ 400 := by rw [bs_size]; omega
  have hsz : (Ty.str (Ty.pair a c)).size ≤ 64 := by rw [str_size]; exact hf
  have HE := Lib.hid (end_some h3 h1)
  have HT := Lib.hid (fun w => TypeEnd_any (Ty.str (.pair a c)) 1 w (by omega) (by omega))
  rw [HE.out] at HT
  have HA := Lib.hid ha
  have HC := Lib.hid hcc
  unfold RTyP at HA HC
  rw [← h2] at HA
  rw [← he] at HC
  have hi := isFn_hd a
  have hk1 : 1 ≤ 1 + (Ty.encs [a]).length := Nat.le_add_right _ _
  have HW : Hid (Pt.wr (.pair a c) = [40] ++ Pt.wr a ++ [44, 32] ++ Pt.wr c ++ [41]) := Lib.hid rfl
  clear he h1 h2 HE hi hc1 hh hl hl2 ha' hc' hf hk ha hcc
  generalize 1 + (Ty.encs [a]).length = k at *
  generalize Ty.str (.pair a c) = st at *
  go_enter Tryz.func83, Tryz.ntmps83
  go_wp2_with fail
  refine (HT.out _).mono ?_
  rintro e w1 ⟨rfl, rfl⟩
  go_wp2_with fail
  refine wp_region_plan (S := fun _ => True) [(0, true), (1, true), (2, true), (6, true), (7, true), (8, true), (3, false), (4, true), (5, true), (9, false), (10, true), (11, true), (12, true)] (by kernel_rfl) (by kernel_rfl) (by kernel_rfl) (fun _ _ _ _ _ h => h) trivial ?_
  intro _
  repeat (first | (apply wpPlan_look; rfl; rfl; (intro wq hq; (try dsimp only at hq); go_split_ands; go_simp; (try rw [if_neg (by omega)]); (try rw [if_pos (by omega)]); try with_reducible rfl); simp only [Act.put, List.setIfInBounds_toArray, List.set_cons_zero, List.set_cons_succ]) | (apply wpPlan_skip; rfl; rfl; simp only [Act.put, List.setIfInBounds_toArray, List.set_cons_zero, List.set_cons_succ]) | (apply wpPlan_pass; rfl; rfl; assumption; simp only [Act.put, List.setIfInBounds_toArray, List.set_cons_zero, List.set_cons_succ]))
  apply wpPlan_call; rfl; rfl; rfl; rfl; kernel_rfl; exact HA.out _; rfl; rintro e w2 ⟨rfl, hb2⟩
  refine ⟨_, rfl, as_S trivial ?_⟩
  intro _
  simp only [Act.put, List.setIfInBounds_toArray, List.set_cons_zero, List.set_cons_succ]
  repeat (first | (apply wpPlan_look; rfl; rfl; (intro wq hq; (try dsimp only at hq); go_split_ands; go_simp; (try rw [if_neg (by omega)]); (try rw [if_pos (by omega)]); try with_reducible rfl); simp only [Act.put, List.setIfInBounds_toArray, List.set_cons_zero, List.set_cons_succ]) | (apply wpPlan_skip; rfl; rfl; simp only [Act.put, List.setIfInBounds_toArray, List.set_cons_zero, List.set_cons_succ]) | (apply wpPlan_pass; rfl; rfl; assumption; simp only [Act.put, List.setIfInBounds_toArray, List.set_cons_zero, List.set_cons_succ]))
  apply wpPlan_call; rfl; rfl; rfl; rfl; kernel_rfl; exact HC.out _; rfl; rintro e w3 ⟨rfl, hb3⟩
  refine ⟨_, rfl, as_S trivial ?_⟩
  intro _
  simp only [Act.put, List.setIfInBounds_toArray, List.set_cons_zero, List.set_cons_succ]
  repeat (first | (apply wpPlan_look; rfl; rfl; (intro wq hq; (try dsimp only at hq); go_split_ands; go_simp; (try rw [if_neg (by omega)]); (try rw [if_pos (by omega)]); try with_reducible rfl); simp only [Act.put, List.setIfInBounds_toArray, List.set_cons_zero, List.set_cons_succ]) | (apply wpPlan_skip; rfl; rfl; simp only [Act.put, List.setIfInBounds_toArray, List.set_cons_zero, List.set_cons_succ]) | (apply wpPlan_pass; rfl; rfl; assumption; simp only [Act.put, List.setIfInBounds_toArray, List.set_cons_zero, List.set_cons_succ]))
  apply wpPlan_done
  have hb : Below w.heap.size w w3 := ((Below.refl _ _).drew.trans (hb2.mono (Nat.le_refl _))).trans (hb3.mono (by have := hb2.size; exact this))
  clear hb2 hb3
  go_wp2_with fail
  go_ret
  refine Makes.mk ?_ hb
  rw [HW.out]
  apply str_congr
  apply str_inj'
  simp [bs]
set_option maxRecDepth 100000 in
set_option maxHeartbeats 1600000 in
theorem rty_fn (a c : Ty) (ha : RTyP a) (hcc : RTyP c) (hf : (Ty.fn a c).fits) : RTyP (.fn a c) := by
  intro w
  have hz : 0 < (Ty.str (Ty.fn a c)).size := by rw [str_size]; exact (Ty.fn a c).enc_pos
  have hc : ((Ty.str (Ty.fn a c))[0].toNat : Int) = 62 := by rw [str_get _ hz]; rfl
  have hk : (Ty.fn a c).kids = [a] ++ [c] := rfl
  have he := ext_last (t := .fn a c) (c := c) (d := [a]) (n := 1 + (Ty.encs [a]).length) rfl rfl
  obtain ⟨h1, h2, h3, h4⟩ := part_at (t := .fn a c) (k := a) (d := []) (r := [c]) rfl
  rw [show [] ++ [a] = [a] from rfl] at h1 h2 h3 h4
  rw [show 1 + (Ty.encs []).length = 1 from rfl] at h1 h2
  obtain ⟨hz1, hh⟩ := hd_one (t := .fn a c) (a := a) (r := [c]) rfl
  have hc1 : ((Ty.str (Ty.fn a c))[1].toNat : Int) = (a.hd.toNat : Int) := by rw [hh]
  have hl := wr_len a
  have hl2 := wr_len c
  have ha' : a.enc.length ≤ 64 := fits_sub hf (by simp [Ty.kids])
  have hc' : c.enc.length ≤ 64 := fits_sub hf (by simp [Ty.kids])
  have hw : (bs (Pt.wr a)).size ≤ 400 := by rw [bs_size]; omega
  have hw2 : (bs (Pt.wr c)).size ≤ 400 := by rw [bs_size]; omega
  have hsz : (Ty.str (Ty.fn a c)).size ≤ 64 := by rw [str_size]; exact hf
  have HE := Lib.hid (end_some h3 h1)
  have HT := Lib.hid (fun w => TypeEnd_any (Ty.str (.fn a c)) 1 w (by omega) (by omega))
  rw [HE.out] at HT
  have HA := Lib.hid ha
  have HC := Lib.hid hcc
  unfold RTyP at HA HC
  rw [← h2] at HA
  rw [← he] at HC
  have hi := isFn_hd a
  have hk1 : 1 ≤ 1 + (Ty.encs [a]).length := Nat.le_add_right _ _
  by_cases hF : Pt.isFn a = true
  · have HW : Hid (Pt.wr (.fn a c) = ([40] ++ Pt.wr a ++ [41]) ++ [32, 45, 62, 32] ++ Pt.wr c) := Lib.hid (by rw [Pt.wr, if_pos hF])
    rw [hF] at hi
    clear he h1 h2 HE hh hl hl2 ha' hc' hf hk ha hcc hF
    generalize 1 + (Ty.encs [a]).length = k at *
    generalize Ty.str (.fn a c) = st at *
    generalize (a.hd.toNat : Int) = hd1 at *
    go_enter Tryz.func83, Tryz.ntmps83
    go_wp2_with fail
    refine (HT.out _).mono ?_
    rintro e w1 ⟨rfl, rfl⟩
    go_wp2_with fail
    refine wp_region_plan (S := fun _ => True) [(0, true), (1, true), (2, true), (6, true), (7, true), (8, true), (3, false), (4, true), (5, true), (9, false), (10, true), (11, true)] (by kernel_rfl) (by kernel_rfl) (by kernel_rfl) (fun _ _ _ _ _ h => h) trivial ?_
    intro _
    repeat (first | (apply wpPlan_look; rfl; rfl; (intro wq hq; (try dsimp only at hq); go_split_ands; go_simp; (try rw [if_neg (by omega)]); (try rw [if_pos (by omega)]); try with_reducible rfl); simp only [Act.put, List.setIfInBounds_toArray, List.set_cons_zero, List.set_cons_succ]) | (apply wpPlan_skip; rfl; rfl; simp only [Act.put, List.setIfInBounds_toArray, List.set_cons_zero, List.set_cons_succ]) | (apply wpPlan_pass; rfl; rfl; assumption; simp only [Act.put, List.setIfInBounds_toArray, List.set_cons_zero, List.set_cons_succ]))
    apply wpPlan_call; rfl; rfl; rfl; rfl; kernel_rfl; exact HA.out _; rfl; rintro e w2 ⟨rfl, hb2⟩
    refine ⟨_, rfl, as_S trivial ?_⟩
    intro _
    simp only [Act.put, List.setIfInBounds_toArray, List.set_cons_zero, List.set_cons_succ]
    repeat (first | (apply wpPlan_look; rfl; rfl; (intro wq hq; (try dsimp only at hq); go_split_ands; go_simp; (try rw [if_neg (by omega)]); (try rw [if_pos (by omega)]); try with_reducible rfl); simp only [Act.put, List.setIfInBounds_toArray, List.set_cons_zero, List.set_cons_succ]) | (apply wpPlan_skip; rfl; rfl; simp only [Act.put, List.setIfInBounds_toArray, List.set_cons_zero, List.set_cons_succ]) | (apply wpPlan_pass; rfl; rfl; assumption; simp only [Act.put, List.setIfInBounds_toArray, List.set_cons_zero, List.set_cons_succ]))
    apply wpPlan_call; rfl; rfl; rfl; rfl; kernel_rfl; exact HC.out _; rfl; rintro e w3 ⟨rfl, hb3⟩
    refine ⟨_, rfl, as_S trivial ?_⟩
    intro _
    simp only [Act.put, List.setIfInBounds_toArray, List.set_cons_zero, List.set_cons_succ]
    repeat (first | (apply wpPlan_look; rfl; rfl; (intro wq hq; (try dsimp only at hq); go_split_ands; go_simp; (try rw [if_neg (by omega)]); (try rw [if_pos (by omega)]); try with_reducible rfl); simp only [Act.put, List.setIfInBounds_toArray, List.set_cons_zero, List.set_cons_succ]) | (apply wpPlan_skip; rfl; rfl; simp only [Act.put, List.setIfInBounds_toArray, List.set_cons_zero, List.set_cons_succ]) | (apply wpPlan_pass; rfl; rfl; assumption; simp only [Act.put, List.setIfInBounds_toArray, List.set_cons_zero, List.set_cons_succ]))
    apply wpPlan_done
    have hb : Below w.heap.size w w3 := ((Below.refl _ _).drew.trans (hb2.mono (Nat.le_refl _))).trans (hb3.mono (by have := hb2.size; exact this))
    clear hb2 hb3
    go_wp2_with fail
    go_ret
    refine Makes.mk ?_ hb
    rw [HW.out]
    apply str_congr
    apply str_inj'
    simp [bs]
  · simp only [Bool.not_eq_true] at hF
    have HW : Hid (Pt.wr (.fn a c) = Pt.wr a ++ [32, 45, 62, 32] ++ Pt.wr c) := Lib.hid (by rw [Pt.wr, if_neg (by rw [hF]; decide)])
    rw [hF] at hi
    clear he h1 h2 HE hh hl hl2 ha' hc' hf hk ha hcc hF
    generalize 1 + (Ty.encs [a]).length = k at *
    generalize Ty.str (.fn a c) = st at *
    generalize (a.hd.toNat : Int) = hd1 at *
    go_enter Tryz.func83, Tryz.ntmps83
    go_wp2_with fail
    refine (HT.out _).mono ?_
    rintro e w1 ⟨rfl, rfl⟩
    go_wp2_with fail
    refine wp_region_plan (S := fun _ => True) [(0, true), (1, true), (2, true), (5, true), (6, true), (7, true), (3, false), (4, true), (8, false), (9, true), (10, true)] (by kernel_rfl) (by kernel_rfl) (by kernel_rfl) (fun _ _ _ _ _ h => h) trivial ?_
    intro _
    repeat (first | (apply wpPlan_look; rfl; rfl; (intro wq hq; (try dsimp only at hq); go_split_ands; go_simp; (try rw [if_neg (by omega)]); (try rw [if_pos (by omega)]); try with_reducible rfl); simp only [Act.put, List.setIfInBounds_toArray, List.set_cons_zero, List.set_cons_succ]) | (apply wpPlan_skip; rfl; rfl; simp only [Act.put, List.setIfInBounds_toArray, List.set_cons_zero, List.set_cons_succ]) | (apply wpPlan_pass; rfl; rfl; assumption; simp only [Act.put, List.setIfInBounds_toArray, List.set_cons_zero, List.set_cons_succ]))
    apply wpPlan_call; rfl; rfl; rfl; rfl; kernel_rfl; exact HA.out _; rfl; rintro e w2 ⟨rfl, hb2⟩
    refine ⟨_, rfl, as_S trivial ?_⟩
    intro _
    simp only [Act.put, List.setIfInBounds_toArray, List.set_cons_zero, List.set_cons_succ]
    repeat (first | (apply wpPlan_look; rfl; rfl; (intro wq hq; (try dsimp only at hq); go_split_ands; go_simp; (try rw [if_neg (by omega)]); (try rw [if_pos (by omega)]); try with_reducible rfl); simp only [Act.put, List.setIfInBounds_toArray, List.set_cons_zero, List.set_cons_succ]) | (apply wpPlan_skip; rfl; rfl; simp only [Act.put, List.setIfInBounds_toArray, List.set_cons_zero, List.set_cons_succ]) | (apply wpPlan_pass; rfl; rfl; assumption; simp only [Act.put, List.setIfInBounds_toArray, List.set_cons_zero, List.set_cons_succ]))
    apply wpPlan_call; rfl; rfl; rfl; rfl; kernel_rfl; exact HC.out _; rfl; rintro e w3 ⟨rfl, hb3⟩
    refine ⟨_, rfl, as_S trivial ?_⟩
    intro _
    simp only [Act.put, List.setIfInBounds_toArray, List.set_cons_zero, List.set_cons_succ]
    repeat (first | (apply wpPlan_look; rfl; rfl; (intro wq hq; (try dsimp only at hq); go_split_ands; go_simp; (try rw [if_neg (by omega)]); (try rw [if_pos (by omega)]); try with_reducible rfl); simp only [Act.put, List.setIfInBounds_toArray, List.set_cons_zero, List.set_cons_succ]) | (apply wpPlan_skip; rfl; rfl; simp only [Act.put, List.setIfInBounds_toArray, List.set_cons_zero, List.set_cons_succ]) | (apply wpPlan_pass; rfl; rfl; assumption; simp only [Act.put, List.setIfInBounds_toArray, List.set_cons_zero, List.set_cons_succ]))
    apply wpPlan_done
    have hb : Below w.heap.size w w3 := ((Below.refl _ _).drew.trans (hb2.mono (Nat.le_refl _))).trans (hb3.mono (by have := hb2.size; exact this))
    clear hb2 hb3
    go_wp2_with fail
    go_ret
    refine Makes.mk ?_ hb
    rw [HW.out]
    apply str_congr
    apply str_inj'
    simp [bs]
theorem r7Type_any (t : Ty) : t.fits → RTyP t := by
  induction t with
  | int => exact fun _ => rty_int
  | bool => exact fun _ => rty_bool
  | text => exact fun _ => rty_text
  | dyn => exact fun _ => rty_dyn
  | fn a b iha ihb => exact fun h => rty_fn a b (iha (fits_sub h (by simp [Ty.kids]))) (ihb (fits_sub h (by simp [Ty.kids]))) h
  | pair a b iha ihb => exact fun h => rty_pair a b (iha (fits_sub h (by simp [Ty.kids]))) (ihb (fits_sub h (by simp [Ty.kids]))) h
  | list a iha => exact fun h => rty_list a (iha (fits_sub h (by simp [Ty.kids]))) h
  | box a iha => exact fun h => rty_box a (iha (fits_sub h (by simp [Ty.kids]))) h
end Go.Proofs.YtacihffkjadbbaaGreatDoor

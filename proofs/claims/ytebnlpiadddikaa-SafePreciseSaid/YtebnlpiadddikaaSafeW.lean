/- Walks of package safe: both sides of a cast. -/
import Derived.Test.YtebnlpiadddikaaTw
import Derived.Test.YtebnlpiadddikaaSafe
import Derived.Test.YtebnlpiadddikaaPlan
import Derived.Test.YtebnlpiadddikaaShelf
import Derived.Deep.RegionHeld3
import Derived.BigQuiet
import Derived.Laws.EntriesVeiled
namespace Go.Proofs.Ytebnlpiadddikaa
set_option linter.unusedSimpArgs false
set_option linter.unusedVariables false
open Go.RowKit Culp


theorem hd_dyn {s : Ty} (h : s ≠ .dyn) : ((s.hd.toNat : Int) == 63) = false := by
  cases s <;> first | rfl | exact absurd rfl h
theorem hd_ari (s : Ty) : ari s.hd = some s.kids.length := by cases s <;> rfl

theorem repeat_q (c : Nat) (hc : c ≤ 2) (w : World) : Calls Try.prog 32 #[.string { data := #[63] }, .int .i64 c] w (Makes (.string ⟨(List.replicate c 63).toArray⟩) w) :=
  (Try.strings_Repeat _ _ _ (by omega) (by simp [ByteArray.size]; omega)).mono fun e w' ⟨he, hb⟩ => ⟨by
    rw [he]
    match c, hc with
    | 0, _ => rfl
    | 1, _ => rfl
    | 2, _ => rfl, hb⟩
theorem gnd_str (t : Ty) (c : Nat) (hc : t.kids.length = c) : t.gnd.str = ⟨#[t.hd]⟩ ++ ⟨(List.replicate c 63).toArray⟩ := by
  subst hc
  cases t <;> rfl
theorem str_one (t : Ty) : t.str.extract 0 1 = ⟨#[t.hd]⟩ := by
  apply ByteArray.ext
  apply Array.ext'
  simp only [ByteArray.data_extract, Array.toList_extract, str_list, List.extract_eq_take_drop]
  rw [enc_kids]; rfl

set_option maxHeartbeats 400000 in
theorem Ground_any (t : Ty) (ht : t.fits) (hd : t ≠ .dyn) (w : World) : Calls Try.prog 25 #[.string t.str] w (Makes (.string t.gnd.str) w) := by
  have hp : 0 < t.str.size := by rw [str_size]; exact t.enc_pos
  have T : Hid (isTy t.str.data.toList = true) := by rw [Hid, str_list]; exact isTy_enc t ht
  have H := Lib.hid (str_get t hp)
  have h63 : ((t.str[0].toNat : Int) == 63) = false := by rw [H.out]; exact hd_dyn hd
  have hi : (1 : Int) ≤ (t.str.size : Int) := by omega
  have A := Lib.hid (arI_some (hd_ari t))
  have h1 := str_one t
  obtain ⟨c, hc⟩ : ∃ c, t.kids.length = c := ⟨_, rfl⟩
  rw [hc] at A
  have G := Lib.hid (gnd_str t c hc)
  have hk2 : c ≤ 2 := by rw [← hc]; cases t <;> simp [Ty.kids]
  clear hc
  have R := Lib.hid (repeat_q c hk2)
  rcases (by omega : c = 0 ∨ c = 1 ∨ c = 2) with rfl | rfl | rfl
  all_goals
    go_enter Try.func25, Try.ntmps25
    go_wp2_with (first
      | (go_at_call 30; refine (tis_any _ _).mono ?_; rw [T.out]; rintro e w' ⟨rfl, rfl⟩))
    go_region_held3 (fun w' => Below w.heap.size w w') (first | exact (Below.refl _ _).drew | exact Below.trans (Below.refl _ _).drew hb)
      (first | (go_at_call 33; refine (arity_any _ _).mono ?_; rw [H.out, A.out]; rintro e w' ⟨rfl, rfl⟩)
             | (go_at_call 32; refine (R.out _).mono ?_; rintro e w' ⟨rfl, hb⟩))
    go_wp2
    go_ret
    refine Makes.mk ?_ (by assumption)
    rw [G.out]; rfl

/-- What is known of the two sides up to a size. -/
def CP (n : Nat) : Prop := ∀ (s t : Ty) (w : World), s.fits → t.fits → s.sz + t.sz ≤ n → Calls Try.prog 16 #[.string s.str, .string t.str] w (Makes (.bool (sp s t)) w)
def CM (n : Nat) : Prop := ∀ (s t : Ty) (w : World), s.fits → t.fits → s.sz + t.sz ≤ n → Calls Try.prog 17 #[.string s.str, .string t.str] w (Makes (.bool (sm s t)) w)

theorem walk_turned (F G : Nat) (w : World) : Calls Try.prog 31 #[.agg #[.func (.func F) #[] #[], .func (.func G) #[] #[]]] w (Makes (.agg #[.func (.func G) #[] #[], .func (.func F) #[] #[]]) w) := by
  go_enter Try.func31, Try.ntmps31
  go_wp2
  refine bodyPost_ret (v := .agg #[.func (.func G) #[] #[], .func (.func F) #[] #[]]) (by simp [results, Try.results31, go_sem]) rfl ?_
  exact ⟨rfl, ((Below.refl _ _).alloc (Nat.le_refl _) _).alloc (by simp) _⟩

/-- Two slices of two texts each, as a call finds them. -/
theorem own_two {w : World} {base : Nat} {e : TypeId} {v x y : Value} {n : Nat} {xs : List Value} (h : w.ownsRow base e 1 v n xs) (hx : xs = [x, y]) :
    ∃ g cap, v = .slice (some ⟨g, 0, none⟩) 2 cap ∧ w.cell? ⟨g, 0, none⟩ = some x ∧ w.cell? ⟨g, 1, none⟩ = some y := by
  subst hx
  have hn : n = 2 := by have := h.1; simp at this; omega
  subst hn
  obtain ⟨g, cap, rfl, _, _, _, _, hc⟩ := own_read h (by omega)
  exact ⟨g, cap, rfl, hc 0 x rfl, hc 1 y rfl⟩
theorem own_single {w : World} {base : Nat} {e : TypeId} {v x : Value} {n : Nat} {xs : List Value} (h : w.ownsRow base e 1 v n xs) (hx : xs = [x]) :
    ∃ g cap, v = .slice (some ⟨g, 0, none⟩) 1 cap ∧ w.cell? ⟨g, 0, none⟩ = some x := by
  subst hx
  have hn : n = 1 := by have := h.1; simp at this; omega
  subst hn
  obtain ⟨g, cap, rfl, _, _, _, _, hc⟩ := own_read h (by omega)
  exact ⟨g, cap, rfl, hc 0 x rfl⟩

set_option maxHeartbeats 800000 in
theorem parts_plus_fn {n : Nat} (hP : CP n) (hM : CM n) (a b c d : Ty) (hs : (Ty.fn a b).fits) (ht : (Ty.fn c d).fits) (hn : a.sz + c.sz ≤ n ∧ b.sz + d.sz ≤ n) (w : World) :
    Calls Try.prog 24 #[.string (Ty.fn a b).str, .string (Ty.fn c d).str, .agg #[.func (.func 16) #[] #[], .func (.func 17) #[] #[]]] w (Makes (.bool (sp (.fn a b) (.fn c d))) w) := by
  have ha := fits_sub hs (show a ∈ _ from List.mem_cons_self)
  have hbf := fits_sub hs (show b ∈ [a, b] from List.mem_cons_of_mem _ List.mem_cons_self)
  have hc := fits_sub ht (show c ∈ _ from List.mem_cons_self)
  have hd := fits_sub ht (show d ∈ [c, d] from List.mem_cons_of_mem _ List.mem_cons_self)
  have X := Lib.hid (sp_fn a b c d)
  have hfld : ∀ w, (Instr.field 37 (.agg #[.func (.func 17) #[] #[], .func (.func 16) #[] #[]]) 0).run Try.prog w = .ok (.func (.func 17) #[] #[]) w := fun _ => by kernel_rfl
  cases hb1 : sm c a <;> cases hb2 : sp b d
  all_goals
    have HB := Lib.hid hb1
    have HB2 := Lib.hid hb2
    clear hb1 hb2
    go_enter Try.func24, Try.ntmps24
    go_wp2_with fail
    refine (Parts_any _ hs _).mono ?_
    rintro e w1 ⟨v1, rfl, ho1, hb1⟩
    go_wp2_with fail
    refine (Parts_any _ ht _).mono ?_
    rintro e w2 ⟨v2, rfl, ho2, hb2⟩
    obtain ⟨g1, c1, rfl, k1, k2⟩ := own_two ho1 rfl
    obtain ⟨g2, c2, rfl, k3, k4⟩ := own_two ho2 rfl
    have k1' := cell_later hb2 k1
    have k2' := cell_later hb2 k2
    have f0 : w2.cell? ⟨w.heap.size, 0, none⟩ = some (.func (.func 16) #[] #[]) := cell_later hb2 (cell_later hb1 (by go_simp))
    have f1 : w2.cell? ⟨w.heap.size, 1, none⟩ = some (.func (.func 17) #[] #[]) := cell_later hb2 (cell_later hb1 (by go_simp))
    have hB : Below w.heap.size w w2 := ((Below.refl _ _).alloc (Nat.le_refl _) _).trans ((hb1.mono (by simp)).trans (hb2.mono (by have := hb1.size; simp at this; omega)))
    clear ho1 ho2 k1 k2 hb1 hb2
    go_wp2_with fail
    refine (show Calls Try.prog 23 #[.string (Ty.fn a b).str] w2 (Gives (.int .u8 62) w2) from Head_any _ hs _).mono ?_
    rintro e w' ⟨rfl, rfl⟩
    go_wp2_with fail
    refine wp_region_plan (S := fun w' => w'.cell? ⟨w.heap.size, 0, none⟩ = some (.func (.func 16) #[] #[]) ∧ w'.cell? ⟨w.heap.size, 1, none⟩ = some (.func (.func 17) #[] #[]) ∧ w'.cell? ⟨g1, 0, none⟩ = some (.string a.str) ∧ w'.cell? ⟨g1, 1, none⟩ = some (.string b.str) ∧ w'.cell? ⟨g2, 0, none⟩ = some (.string c.str) ∧ w'.cell? ⟨g2, 1, none⟩ = some (.string d.str) ∧ Below w.heap.size w w')
      [(0, true), (3, true), (4, true), (5, true), (6, true), (7, true), (8, true), (1, false), (2, true), (9, false), (10, true), (11, true), (12, true), (13, true), (14, true), (15, true), (16, true), (17, true), (18, true), (19, false), (20, true), (21, true)] (by kernel_rfl) (by kernel_rfl) (by kernel_rfl) (fun _ _ _ _ _ h => h) ⟨f0, f1, k1', k2', k3, k4, hB.drew⟩ ?_
    intro HS
    repeat (first | (apply wpPlan_look; rfl; rfl; (intro wq hq; (try dsimp only at hq); go_split_ands; go_simp; try with_reducible rfl); simp only [Act.put, List.setIfInBounds_toArray, List.set_cons_zero, List.set_cons_succ]) | (apply wpPlan_skip; rfl; rfl; simp only [Act.put, List.setIfInBounds_toArray, List.set_cons_zero, List.set_cons_succ]) | (apply wpPlan_pass; rfl; rfl; assumption; simp only [Act.put, List.setIfInBounds_toArray, List.set_cons_zero, List.set_cons_succ]))
    apply wpPlan_call; rfl; rfl; rfl; rfl; kernel_rfl; exact walk_turned 16 17 _; rfl; rintro e w3 ⟨rfl, hb3⟩
    obtain ⟨q1, q2, q3, q4, q5, q6, q7⟩ := HS
    refine ⟨_, rfl, as_S ⟨cell_later hb3 q1, cell_later hb3 q2, cell_later hb3 q3, cell_later hb3 q4, cell_later hb3 q5, cell_later hb3 q6, below_later hb3 q7⟩ ?_⟩
    clear q1 q2 q3 q4 q5 q6 q7 hb3; intro HS; simp only [Act.put, List.setIfInBounds_toArray, List.set_cons_zero, List.set_cons_succ]
    repeat (first | (apply wpPlan_look; rfl; rfl; (intro wq hq; (try dsimp only at hq); go_split_ands; go_simp; try with_reducible rfl); simp only [Act.put, List.setIfInBounds_toArray, List.set_cons_zero, List.set_cons_succ]) | (apply wpPlan_skip; rfl; rfl; simp only [Act.put, List.setIfInBounds_toArray, List.set_cons_zero, List.set_cons_succ]) | (apply wpPlan_pass; rfl; rfl; assumption; simp only [Act.put, List.setIfInBounds_toArray, List.set_cons_zero, List.set_cons_succ]))
    apply wpPlan_call; rfl; rfl; rfl; rfl; kernel_rfl; exact hM c a _ hc ha (by omega); rfl; rintro e w4 ⟨rfl, hb4⟩
    obtain ⟨q1, q2, q3, q4, q5, q6, q7⟩ := HS
    refine ⟨_, rfl, as_S ⟨cell_later hb4 q1, cell_later hb4 q2, cell_later hb4 q3, cell_later hb4 q4, cell_later hb4 q5, cell_later hb4 q6, below_later hb4 q7⟩ ?_⟩
    clear q1 q2 q3 q4 q5 q6 q7 hb4; intro HS; rw [HB.out]; simp only [Act.put, List.setIfInBounds_toArray, List.set_cons_zero, List.set_cons_succ]
    repeat (first | (apply wpPlan_look; rfl; rfl; (intro wq hq; (try dsimp only at hq); go_split_ands; go_simp; try with_reducible rfl); simp only [Act.put, List.setIfInBounds_toArray, List.set_cons_zero, List.set_cons_succ]) | (apply wpPlan_skip; rfl; rfl; simp only [Act.put, List.setIfInBounds_toArray, List.set_cons_zero, List.set_cons_succ]) | (apply wpPlan_pass; rfl; rfl; assumption; simp only [Act.put, List.setIfInBounds_toArray, List.set_cons_zero, List.set_cons_succ]))
    try (
      apply wpPlan_call; rfl; rfl; rfl; rfl; kernel_rfl; exact hP b d _ hbf hd (by omega); rfl; rintro e w5 ⟨rfl, hb5⟩
      obtain ⟨q1, q2, q3, q4, q5, q6, q7⟩ := HS
      refine ⟨_, rfl, as_S ⟨cell_later hb5 q1, cell_later hb5 q2, cell_later hb5 q3, cell_later hb5 q4, cell_later hb5 q5, cell_later hb5 q6, below_later hb5 q7⟩ ?_⟩
      clear q1 q2 q3 q4 q5 q6 q7 hb5; intro HS; rw [HB2.out]; simp only [Act.put, List.setIfInBounds_toArray, List.set_cons_zero, List.set_cons_succ]
      repeat (first | (apply wpPlan_look; rfl; rfl; (intro wq hq; (try dsimp only at hq); go_split_ands; go_simp; try with_reducible rfl); simp only [Act.put, List.setIfInBounds_toArray, List.set_cons_zero, List.set_cons_succ]) | (apply wpPlan_skip; rfl; rfl; simp only [Act.put, List.setIfInBounds_toArray, List.set_cons_zero, List.set_cons_succ]) | (apply wpPlan_pass; rfl; rfl; assumption; simp only [Act.put, List.setIfInBounds_toArray, List.set_cons_zero, List.set_cons_succ])))
    apply wpPlan_done
    have hB' := HS.2.2.2.2.2.2
    clear HS
    go_wp2
    go_ret
    exact Makes.mk (bool_congr (by rw [X.out, HB.out, HB2.out]; rfl)) hB'
set_option maxHeartbeats 800000 in
theorem parts_plus_pair {n : Nat} (hP : CP n) (hM : CM n) (a b c d : Ty) (hs : (Ty.pair a b).fits) (ht : (Ty.pair c d).fits) (hn : a.sz + c.sz ≤ n ∧ b.sz + d.sz ≤ n) (w : World) :
    Calls Try.prog 24 #[.string (Ty.pair a b).str, .string (Ty.pair c d).str, .agg #[.func (.func 16) #[] #[], .func (.func 17) #[] #[]]] w (Makes (.bool (sp (Ty.pair a b) (Ty.pair c d))) w) := by
  have _hp := hP
  have _hm := hM
  have ha := fits_sub hs (show a ∈ _ from List.mem_cons_self)
  have hbf := fits_sub hs (show b ∈ [a, b] from List.mem_cons_of_mem _ List.mem_cons_self)
  have hc := fits_sub ht (show c ∈ _ from List.mem_cons_self)
  have hd := fits_sub ht (show d ∈ [c, d] from List.mem_cons_of_mem _ List.mem_cons_self)
  have X := Lib.hid (sp_pair a b c d)
  cases hb1 : sp a c <;> cases hb2 : sp b d
  all_goals
    have HB := Lib.hid hb1
    have HB2 := Lib.hid hb2
    clear hb1 hb2
    go_enter Try.func24, Try.ntmps24
    go_wp2_with fail
    refine (Parts_any _ hs _).mono ?_
    rintro e w1 ⟨v1, rfl, ho1, hb1⟩
    go_wp2_with fail
    refine (Parts_any _ ht _).mono ?_
    rintro e w2 ⟨v2, rfl, ho2, hb2⟩
    obtain ⟨g1, c1, rfl, k1, k2⟩ := own_two ho1 rfl
    obtain ⟨g2, c2, rfl, k3, k4⟩ := own_two ho2 rfl
    have k1' := cell_later hb2 k1
    have k2' := cell_later hb2 k2
    have f0 : w2.cell? ⟨w.heap.size, 0, none⟩ = some (.func (.func 16) #[] #[]) := cell_later hb2 (cell_later hb1 (by go_simp))
    have f1 : w2.cell? ⟨w.heap.size, 1, none⟩ = some (.func (.func 17) #[] #[]) := cell_later hb2 (cell_later hb1 (by go_simp))
    have hB : Below w.heap.size w w2 := ((Below.refl _ _).alloc (Nat.le_refl _) _).trans ((hb1.mono (by simp)).trans (hb2.mono (by have := hb1.size; simp at this; omega)))
    clear ho1 ho2 k1 k2 hb1 hb2
    go_wp2_with fail
    refine (show Calls Try.prog 23 #[.string (Ty.pair a b).str] w2 (Gives (.int .u8 44) w2) from Head_any _ hs _).mono ?_
    rintro e w' ⟨rfl, rfl⟩
    go_wp2_with fail
    refine wp_region_plan (S := fun w' => w'.cell? ⟨w.heap.size, 0, none⟩ = some (.func (.func 16) #[] #[]) ∧ w'.cell? ⟨w.heap.size, 1, none⟩ = some (.func (.func 17) #[] #[]) ∧ w'.cell? ⟨g1, 0, none⟩ = some (.string a.str) ∧ w'.cell? ⟨g1, 1, none⟩ = some (.string b.str) ∧ w'.cell? ⟨g2, 0, none⟩ = some (.string c.str) ∧ w'.cell? ⟨g2, 1, none⟩ = some (.string d.str) ∧ Below w.heap.size w w')
      [(0, true), (1, true), (2, true), (3, true), (4, true), (5, true), (6, true), (7, true), (8, false), (9, true), (10, true), (11, true), (12, true), (13, true), (14, true), (15, true), (16, true), (17, true), (18, false), (19, true), (20, true)] (by kernel_rfl) (by kernel_rfl) (by kernel_rfl) (fun _ _ _ _ _ h => h) ⟨f0, f1, k1', k2', k3, k4, hB.drew⟩ ?_
    intro HS
    repeat (first | (apply wpPlan_look; rfl; rfl; (intro wq hq; (try dsimp only at hq); go_split_ands; go_simp; try with_reducible rfl); simp only [Act.put, List.setIfInBounds_toArray, List.set_cons_zero, List.set_cons_succ]) | (apply wpPlan_skip; rfl; rfl; simp only [Act.put, List.setIfInBounds_toArray, List.set_cons_zero, List.set_cons_succ]) | (apply wpPlan_pass; rfl; rfl; assumption; simp only [Act.put, List.setIfInBounds_toArray, List.set_cons_zero, List.set_cons_succ]))
    apply wpPlan_call; rfl; rfl; rfl; rfl; kernel_rfl; exact hP a c _ ha hc (by omega); rfl; rintro e w4 ⟨rfl, hb4⟩
    obtain ⟨q1, q2, q3, q4, q5, q6, q7⟩ := HS
    refine ⟨_, rfl, as_S ⟨cell_later hb4 q1, cell_later hb4 q2, cell_later hb4 q3, cell_later hb4 q4, cell_later hb4 q5, cell_later hb4 q6, below_later hb4 q7⟩ ?_⟩
    clear q1 q2 q3 q4 q5 q6 q7 hb4; intro HS; rw [HB.out]; simp only [Act.put, List.setIfInBounds_toArray, List.set_cons_zero, List.set_cons_succ]
    repeat (first | (apply wpPlan_look; rfl; rfl; (intro wq hq; (try dsimp only at hq); go_split_ands; go_simp; try with_reducible rfl); simp only [Act.put, List.setIfInBounds_toArray, List.set_cons_zero, List.set_cons_succ]) | (apply wpPlan_skip; rfl; rfl; simp only [Act.put, List.setIfInBounds_toArray, List.set_cons_zero, List.set_cons_succ]) | (apply wpPlan_pass; rfl; rfl; assumption; simp only [Act.put, List.setIfInBounds_toArray, List.set_cons_zero, List.set_cons_succ]))
    try (
      apply wpPlan_call; rfl; rfl; rfl; rfl; kernel_rfl; exact hP b d _ hbf hd (by omega); rfl; rintro e w5 ⟨rfl, hb5⟩
      obtain ⟨q1, q2, q3, q4, q5, q6, q7⟩ := HS
      refine ⟨_, rfl, as_S ⟨cell_later hb5 q1, cell_later hb5 q2, cell_later hb5 q3, cell_later hb5 q4, cell_later hb5 q5, cell_later hb5 q6, below_later hb5 q7⟩ ?_⟩
      clear q1 q2 q3 q4 q5 q6 q7 hb5; intro HS; rw [HB2.out]; simp only [Act.put, List.setIfInBounds_toArray, List.set_cons_zero, List.set_cons_succ]
      repeat (first | (apply wpPlan_look; rfl; rfl; (intro wq hq; (try dsimp only at hq); go_split_ands; go_simp; try with_reducible rfl); simp only [Act.put, List.setIfInBounds_toArray, List.set_cons_zero, List.set_cons_succ]) | (apply wpPlan_skip; rfl; rfl; simp only [Act.put, List.setIfInBounds_toArray, List.set_cons_zero, List.set_cons_succ]) | (apply wpPlan_pass; rfl; rfl; assumption; simp only [Act.put, List.setIfInBounds_toArray, List.set_cons_zero, List.set_cons_succ])))
    apply wpPlan_done
    have hB' := HS.2.2.2.2.2.2
    clear HS
    go_wp2
    go_ret
    exact Makes.mk (bool_congr (by rw [X.out, HB.out, HB2.out]; rfl)) hB'
set_option maxHeartbeats 800000 in
theorem parts_plus_list {n : Nat} (hP : CP n) (hM : CM n) (a c : Ty) (hs : (Ty.list a).fits) (ht : (Ty.list c).fits) (hn : a.sz + c.sz ≤ n) (w : World) :
    Calls Try.prog 24 #[.string (Ty.list a).str, .string (Ty.list c).str, .agg #[.func (.func 16) #[] #[], .func (.func 17) #[] #[]]] w (Makes (.bool (sp (Ty.list a) (Ty.list c))) w) := by
  have _hp := hP
  have _hm := hM
  have ha := fits_sub hs (show a ∈ _ from List.mem_cons_self)
  have hc := fits_sub ht (show c ∈ _ from List.mem_cons_self)
  have X := Lib.hid (sp_list a c)
  all_goals
    go_enter Try.func24, Try.ntmps24
    go_wp2_with fail
    refine (Parts_any _ hs _).mono ?_
    rintro e w1 ⟨v1, rfl, ho1, hb1⟩
    go_wp2_with fail
    refine (Parts_any _ ht _).mono ?_
    rintro e w2 ⟨v2, rfl, ho2, hb2⟩
    obtain ⟨g1, c1, rfl, k1⟩ := own_single ho1 rfl
    obtain ⟨g2, c2, rfl, k3⟩ := own_single ho2 rfl
    have k1' := cell_later hb2 k1
    have f0 : w2.cell? ⟨w.heap.size, 0, none⟩ = some (.func (.func 16) #[] #[]) := cell_later hb2 (cell_later hb1 (by go_simp))
    have f1 : w2.cell? ⟨w.heap.size, 1, none⟩ = some (.func (.func 17) #[] #[]) := cell_later hb2 (cell_later hb1 (by go_simp))
    have hB : Below w.heap.size w w2 := ((Below.refl _ _).alloc (Nat.le_refl _) _).trans ((hb1.mono (by simp)).trans (hb2.mono (by have := hb1.size; simp at this; omega)))
    clear ho1 ho2 k1  hb1 hb2
    go_wp2_with fail
    refine (show Calls Try.prog 23 #[.string (Ty.list a).str] w2 (Gives (.int .u8 108) w2) from Head_any _ hs _).mono ?_
    rintro e w' ⟨rfl, rfl⟩
    go_wp2_with fail
    refine wp_region_plan (S := fun w' => w'.cell? ⟨w.heap.size, 0, none⟩ = some (.func (.func 16) #[] #[]) ∧ w'.cell? ⟨w.heap.size, 1, none⟩ = some (.func (.func 17) #[] #[]) ∧ w'.cell? ⟨g1, 0, none⟩ = some (.string a.str) ∧ w'.cell? ⟨g2, 0, none⟩ = some (.string c.str) ∧ Below w.heap.size w w')
      [(0, true), (1, true), (2, true), (3, true), (4, true), (5, true), (6, true), (7, true), (8, false), (9, true)] (by kernel_rfl) (by kernel_rfl) (by kernel_rfl) (fun _ _ _ _ _ h => h) ⟨f0, f1, k1', k3, hB.drew⟩ ?_
    intro HS
    repeat (first | (apply wpPlan_look; rfl; rfl; (intro wq hq; (try dsimp only at hq); go_split_ands; go_simp; try with_reducible rfl); simp only [Act.put, List.setIfInBounds_toArray, List.set_cons_zero, List.set_cons_succ]) | (apply wpPlan_skip; rfl; rfl; simp only [Act.put, List.setIfInBounds_toArray, List.set_cons_zero, List.set_cons_succ]) | (apply wpPlan_pass; rfl; rfl; assumption; simp only [Act.put, List.setIfInBounds_toArray, List.set_cons_zero, List.set_cons_succ]))
    apply wpPlan_call; rfl; rfl; rfl; rfl; kernel_rfl; exact hP a c _ ha hc (by omega); rfl; rintro e w4 ⟨rfl, hb4⟩
    obtain ⟨q1, q2, q3, q4, q5⟩ := HS
    refine ⟨_, rfl, as_S ⟨cell_later hb4 q1, cell_later hb4 q2, cell_later hb4 q3, cell_later hb4 q4, below_later hb4 q5⟩ ?_⟩
    clear q1 q2 q3 q4 q5 hb4; intro HS; simp only [Act.put, List.setIfInBounds_toArray, List.set_cons_zero, List.set_cons_succ]
    repeat (first | (apply wpPlan_look; rfl; rfl; (intro wq hq; (try dsimp only at hq); go_split_ands; go_simp; try with_reducible rfl); simp only [Act.put, List.setIfInBounds_toArray, List.set_cons_zero, List.set_cons_succ]) | (apply wpPlan_skip; rfl; rfl; simp only [Act.put, List.setIfInBounds_toArray, List.set_cons_zero, List.set_cons_succ]) | (apply wpPlan_pass; rfl; rfl; assumption; simp only [Act.put, List.setIfInBounds_toArray, List.set_cons_zero, List.set_cons_succ]))
    apply wpPlan_done
    have hB' := HS.2.2.2.2
    clear HS
    go_wp2
    go_ret
    exact Makes.mk (bool_congr (by rw [X.out])) hB'
set_option maxHeartbeats 800000 in
theorem parts_plus_box {n : Nat} (hP : CP n) (hM : CM n) (a c : Ty) (hs : (Ty.box a).fits) (ht : (Ty.box c).fits) (hn : a.sz + c.sz ≤ n) (w : World) :
    Calls Try.prog 24 #[.string (Ty.box a).str, .string (Ty.box c).str, .agg #[.func (.func 16) #[] #[], .func (.func 17) #[] #[]]] w (Makes (.bool (sp (Ty.box a) (Ty.box c))) w) := by
  have ha := fits_sub hs (show a ∈ _ from List.mem_cons_self)
  have hc := fits_sub ht (show c ∈ _ from List.mem_cons_self)
  have X := Lib.hid (sp_box a c)
  have hfld : ∀ w, (Instr.field 37 (.agg #[.func (.func 17) #[] #[], .func (.func 16) #[] #[]]) 0).run Try.prog w = .ok (.func (.func 17) #[] #[]) w := fun _ => by kernel_rfl
  cases hb1 : sp a c <;> cases hb2 : sm c a
  all_goals
    have HB := Lib.hid hb1
    have HB2 := Lib.hid hb2
    clear hb1 hb2
    go_enter Try.func24, Try.ntmps24
    go_wp2_with fail
    refine (Parts_any _ hs _).mono ?_
    rintro e w1 ⟨v1, rfl, ho1, hb1⟩
    go_wp2_with fail
    refine (Parts_any _ ht _).mono ?_
    rintro e w2 ⟨v2, rfl, ho2, hb2⟩
    obtain ⟨g1, c1, rfl, k1⟩ := own_single ho1 rfl
    obtain ⟨g2, c2, rfl, k3⟩ := own_single ho2 rfl
    have k1' := cell_later hb2 k1
    have f0 : w2.cell? ⟨w.heap.size, 0, none⟩ = some (.func (.func 16) #[] #[]) := cell_later hb2 (cell_later hb1 (by go_simp))
    have f1 : w2.cell? ⟨w.heap.size, 1, none⟩ = some (.func (.func 17) #[] #[]) := cell_later hb2 (cell_later hb1 (by go_simp))
    have hB : Below w.heap.size w w2 := ((Below.refl _ _).alloc (Nat.le_refl _) _).trans ((hb1.mono (by simp)).trans (hb2.mono (by have := hb1.size; simp at this; omega)))
    clear ho1 ho2 k1  hb1 hb2
    go_wp2_with fail
    refine (show Calls Try.prog 23 #[.string (Ty.box a).str] w2 (Gives (.int .u8 120) w2) from Head_any _ hs _).mono ?_
    rintro e w' ⟨rfl, rfl⟩
    go_wp2_with fail
    refine wp_region_plan (S := fun w' => w'.cell? ⟨w.heap.size, 0, none⟩ = some (.func (.func 16) #[] #[]) ∧ w'.cell? ⟨w.heap.size, 1, none⟩ = some (.func (.func 17) #[] #[]) ∧ w'.cell? ⟨g1, 0, none⟩ = some (.string a.str) ∧ w'.cell? ⟨g2, 0, none⟩ = some (.string c.str) ∧ Below w.heap.size w w')
      [(0, true), (1, true), (2, true), (3, true), (4, true), (5, true), (6, true), (7, true), (8, false), (9, true), (10, true), (13, true), (14, true), (15, true), (16, true), (17, true), (18, true), (11, false), (12, true), (19, false), (20, true), (21, true)] (by kernel_rfl) (by kernel_rfl) (by kernel_rfl) (fun _ _ _ _ _ h => h) ⟨f0, f1, k1', k3, hB.drew⟩ ?_
    intro HS
    repeat (first | (apply wpPlan_look; rfl; rfl; (intro wq hq; (try dsimp only at hq); go_split_ands; go_simp; try with_reducible rfl); simp only [Act.put, List.setIfInBounds_toArray, List.set_cons_zero, List.set_cons_succ]) | (apply wpPlan_skip; rfl; rfl; simp only [Act.put, List.setIfInBounds_toArray, List.set_cons_zero, List.set_cons_succ]) | (apply wpPlan_pass; rfl; rfl; assumption; simp only [Act.put, List.setIfInBounds_toArray, List.set_cons_zero, List.set_cons_succ]))
    apply wpPlan_call; rfl; rfl; rfl; rfl; kernel_rfl; exact hP a c _ ha hc (by omega); rfl; rintro e w4 ⟨rfl, hb4⟩
    obtain ⟨q1, q2, q3, q4, q5⟩ := HS
    refine ⟨_, rfl, as_S ⟨cell_later hb4 q1, cell_later hb4 q2, cell_later hb4 q3, cell_later hb4 q4, below_later hb4 q5⟩ ?_⟩
    clear q1 q2 q3 q4 q5 hb4; intro HS; rw [HB.out]; simp only [Act.put, List.setIfInBounds_toArray, List.set_cons_zero, List.set_cons_succ]
    repeat (first | (apply wpPlan_look; rfl; rfl; (intro wq hq; (try dsimp only at hq); go_split_ands; go_simp; try with_reducible rfl); simp only [Act.put, List.setIfInBounds_toArray, List.set_cons_zero, List.set_cons_succ]) | (apply wpPlan_skip; rfl; rfl; simp only [Act.put, List.setIfInBounds_toArray, List.set_cons_zero, List.set_cons_succ]) | (apply wpPlan_pass; rfl; rfl; assumption; simp only [Act.put, List.setIfInBounds_toArray, List.set_cons_zero, List.set_cons_succ]))
    try (
      apply wpPlan_call; rfl; rfl; rfl; rfl; kernel_rfl; exact walk_turned 16 17 _; rfl; rintro e w6 ⟨rfl, hb6⟩
      obtain ⟨q1, q2, q3, q4, q5⟩ := HS
      refine ⟨_, rfl, as_S ⟨cell_later hb6 q1, cell_later hb6 q2, cell_later hb6 q3, cell_later hb6 q4, below_later hb6 q5⟩ ?_⟩
      clear q1 q2 q3 q4 q5 hb6; intro HS; simp only [Act.put, List.setIfInBounds_toArray, List.set_cons_zero, List.set_cons_succ]
      repeat (first | (apply wpPlan_look; rfl; rfl; (intro wq hq; (try dsimp only at hq); go_split_ands; go_simp; try with_reducible rfl); simp only [Act.put, List.setIfInBounds_toArray, List.set_cons_zero, List.set_cons_succ]) | (apply wpPlan_skip; rfl; rfl; simp only [Act.put, List.setIfInBounds_toArray, List.set_cons_zero, List.set_cons_succ]) | (apply wpPlan_pass; rfl; rfl; assumption; simp only [Act.put, List.setIfInBounds_toArray, List.set_cons_zero, List.set_cons_succ]))
      apply wpPlan_call; rfl; rfl; rfl; rfl; kernel_rfl; exact hM c a _ hc ha (by omega); rfl; rintro e w5 ⟨rfl, hb5⟩
      obtain ⟨q1, q2, q3, q4, q5⟩ := HS
      refine ⟨_, rfl, as_S ⟨cell_later hb5 q1, cell_later hb5 q2, cell_later hb5 q3, cell_later hb5 q4, below_later hb5 q5⟩ ?_⟩
      clear q1 q2 q3 q4 q5 hb5; intro HS; rw [HB2.out]; simp only [Act.put, List.setIfInBounds_toArray, List.set_cons_zero, List.set_cons_succ]
      repeat (first | (apply wpPlan_look; rfl; rfl; (intro wq hq; (try dsimp only at hq); go_split_ands; go_simp; try with_reducible rfl); simp only [Act.put, List.setIfInBounds_toArray, List.set_cons_zero, List.set_cons_succ]) | (apply wpPlan_skip; rfl; rfl; simp only [Act.put, List.setIfInBounds_toArray, List.set_cons_zero, List.set_cons_succ]) | (apply wpPlan_pass; rfl; rfl; assumption; simp only [Act.put, List.setIfInBounds_toArray, List.set_cons_zero, List.set_cons_succ])))
    apply wpPlan_done
    have hB' := HS.2.2.2.2
    clear HS
    go_wp2
    go_ret
    exact Makes.mk (bool_congr (by rw [X.out, HB.out, HB2.out]; rfl)) hB'
set_option maxHeartbeats 800000 in
theorem parts_plus_base (s t : Ty) (hs : s.fits) (ht : t.fits) (hk : s.kids = []) (_ : t.kids = []) (w : World) :
    Calls Try.prog 24 #[.string s.str, .string t.str, .agg #[.func (.func 16) #[] #[], .func (.func 17) #[] #[]]] w (Makes (.bool true) w) := by
  have n1 : (((s.hd.toNat : Nat) : Int) == 62) = false := by cases s <;> first | rfl | simp [Ty.kids] at hk
  have n2 : (((s.hd.toNat : Nat) : Int) == 44) = false := by cases s <;> first | rfl | simp [Ty.kids] at hk
  have n3 : (((s.hd.toNat : Nat) : Int) == 108) = false := by cases s <;> first | rfl | simp [Ty.kids] at hk
  have n4 : (((s.hd.toNat : Nat) : Int) == 120) = false := by cases s <;> first | rfl | simp [Ty.kids] at hk
  clear hk
  go_enter Try.func24, Try.ntmps24
  go_wp2_with fail
  refine (Parts_any _ hs _).mono ?_
  rintro e w1 ⟨v1, rfl, ho1, hb1⟩
  go_wp2_with fail
  refine (Parts_any _ ht _).mono ?_
  rintro e w2 ⟨v2, rfl, ho2, hb2⟩
  have hB : Below w.heap.size w w2 := ((Below.refl _ _).alloc (Nat.le_refl _) _).trans ((hb1.mono (by simp)).trans (hb2.mono (by have := hb1.size; simp at this; omega)))
  clear ho1 ho2 hb1 hb2
  go_wp2_with fail
  refine (Head_any _ hs _).mono ?_
  rintro e w' ⟨rfl, rfl⟩
  go_wp2
  go_ret
  exact Makes.mk rfl hB
set_option maxHeartbeats 800000 in
theorem parts_minus_fn {n : Nat} (hP : CP n) (hM : CM n) (a b c d : Ty) (hs : (Ty.fn a b).fits) (ht : (Ty.fn c d).fits) (hn : a.sz + c.sz ≤ n ∧ b.sz + d.sz ≤ n) (w : World) :
    Calls Try.prog 24 #[.string (Ty.fn a b).str, .string (Ty.fn c d).str, .agg #[.func (.func 17) #[] #[], .func (.func 16) #[] #[]]] w (Makes (.bool (sm (.fn a b) (.fn c d))) w) := by
  have ha := fits_sub hs (show a ∈ _ from List.mem_cons_self)
  have hbf := fits_sub hs (show b ∈ [a, b] from List.mem_cons_of_mem _ List.mem_cons_self)
  have hc := fits_sub ht (show c ∈ _ from List.mem_cons_self)
  have hd := fits_sub ht (show d ∈ [c, d] from List.mem_cons_of_mem _ List.mem_cons_self)
  have X := Lib.hid (sm_fn a b c d)
  have hfld : ∀ w, (Instr.field 37 (.agg #[.func (.func 16) #[] #[], .func (.func 17) #[] #[]]) 0).run Try.prog w = .ok (.func (.func 16) #[] #[]) w := fun _ => by kernel_rfl
  cases hb1 : sp c a <;> cases hb2 : sm b d
  all_goals
    have HB := Lib.hid hb1
    have HB2 := Lib.hid hb2
    clear hb1 hb2
    go_enter Try.func24, Try.ntmps24
    go_wp2_with fail
    refine (Parts_any _ hs _).mono ?_
    rintro e w1 ⟨v1, rfl, ho1, hb1⟩
    go_wp2_with fail
    refine (Parts_any _ ht _).mono ?_
    rintro e w2 ⟨v2, rfl, ho2, hb2⟩
    obtain ⟨g1, c1, rfl, k1, k2⟩ := own_two ho1 rfl
    obtain ⟨g2, c2, rfl, k3, k4⟩ := own_two ho2 rfl
    have k1' := cell_later hb2 k1
    have k2' := cell_later hb2 k2
    have f0 : w2.cell? ⟨w.heap.size, 0, none⟩ = some (.func (.func 17) #[] #[]) := cell_later hb2 (cell_later hb1 (by go_simp))
    have f1 : w2.cell? ⟨w.heap.size, 1, none⟩ = some (.func (.func 16) #[] #[]) := cell_later hb2 (cell_later hb1 (by go_simp))
    have hB : Below w.heap.size w w2 := ((Below.refl _ _).alloc (Nat.le_refl _) _).trans ((hb1.mono (by simp)).trans (hb2.mono (by have := hb1.size; simp at this; omega)))
    clear ho1 ho2 k1 k2 hb1 hb2
    go_wp2_with fail
    refine (show Calls Try.prog 23 #[.string (Ty.fn a b).str] w2 (Gives (.int .u8 62) w2) from Head_any _ hs _).mono ?_
    rintro e w' ⟨rfl, rfl⟩
    go_wp2_with fail
    refine wp_region_plan (S := fun w' => w'.cell? ⟨w.heap.size, 0, none⟩ = some (.func (.func 17) #[] #[]) ∧ w'.cell? ⟨w.heap.size, 1, none⟩ = some (.func (.func 16) #[] #[]) ∧ w'.cell? ⟨g1, 0, none⟩ = some (.string a.str) ∧ w'.cell? ⟨g1, 1, none⟩ = some (.string b.str) ∧ w'.cell? ⟨g2, 0, none⟩ = some (.string c.str) ∧ w'.cell? ⟨g2, 1, none⟩ = some (.string d.str) ∧ Below w.heap.size w w')
      [(0, true), (3, true), (4, true), (5, true), (6, true), (7, true), (8, true), (1, false), (2, true), (9, false), (10, true), (11, true), (12, true), (13, true), (14, true), (15, true), (16, true), (17, true), (18, true), (19, false), (20, true), (21, true)] (by kernel_rfl) (by kernel_rfl) (by kernel_rfl) (fun _ _ _ _ _ h => h) ⟨f0, f1, k1', k2', k3, k4, hB.drew⟩ ?_
    intro HS
    repeat (first | (apply wpPlan_look; rfl; rfl; (intro wq hq; (try dsimp only at hq); go_split_ands; go_simp; try with_reducible rfl); simp only [Act.put, List.setIfInBounds_toArray, List.set_cons_zero, List.set_cons_succ]) | (apply wpPlan_skip; rfl; rfl; simp only [Act.put, List.setIfInBounds_toArray, List.set_cons_zero, List.set_cons_succ]) | (apply wpPlan_pass; rfl; rfl; assumption; simp only [Act.put, List.setIfInBounds_toArray, List.set_cons_zero, List.set_cons_succ]))
    apply wpPlan_call; rfl; rfl; rfl; rfl; kernel_rfl; exact walk_turned 17 16 _; rfl; rintro e w3 ⟨rfl, hb3⟩
    obtain ⟨q1, q2, q3, q4, q5, q6, q7⟩ := HS
    refine ⟨_, rfl, as_S ⟨cell_later hb3 q1, cell_later hb3 q2, cell_later hb3 q3, cell_later hb3 q4, cell_later hb3 q5, cell_later hb3 q6, below_later hb3 q7⟩ ?_⟩
    clear q1 q2 q3 q4 q5 q6 q7 hb3; intro HS; simp only [Act.put, List.setIfInBounds_toArray, List.set_cons_zero, List.set_cons_succ]
    repeat (first | (apply wpPlan_look; rfl; rfl; (intro wq hq; (try dsimp only at hq); go_split_ands; go_simp; try with_reducible rfl); simp only [Act.put, List.setIfInBounds_toArray, List.set_cons_zero, List.set_cons_succ]) | (apply wpPlan_skip; rfl; rfl; simp only [Act.put, List.setIfInBounds_toArray, List.set_cons_zero, List.set_cons_succ]) | (apply wpPlan_pass; rfl; rfl; assumption; simp only [Act.put, List.setIfInBounds_toArray, List.set_cons_zero, List.set_cons_succ]))
    apply wpPlan_call; rfl; rfl; rfl; rfl; kernel_rfl; exact hP c a _ hc ha (by omega); rfl; rintro e w4 ⟨rfl, hb4⟩
    obtain ⟨q1, q2, q3, q4, q5, q6, q7⟩ := HS
    refine ⟨_, rfl, as_S ⟨cell_later hb4 q1, cell_later hb4 q2, cell_later hb4 q3, cell_later hb4 q4, cell_later hb4 q5, cell_later hb4 q6, below_later hb4 q7⟩ ?_⟩
    clear q1 q2 q3 q4 q5 q6 q7 hb4; intro HS; rw [HB.out]; simp only [Act.put, List.setIfInBounds_toArray, List.set_cons_zero, List.set_cons_succ]
    repeat (first | (apply wpPlan_look; rfl; rfl; (intro wq hq; (try dsimp only at hq); go_split_ands; go_simp; try with_reducible rfl); simp only [Act.put, List.setIfInBounds_toArray, List.set_cons_zero, List.set_cons_succ]) | (apply wpPlan_skip; rfl; rfl; simp only [Act.put, List.setIfInBounds_toArray, List.set_cons_zero, List.set_cons_succ]) | (apply wpPlan_pass; rfl; rfl; assumption; simp only [Act.put, List.setIfInBounds_toArray, List.set_cons_zero, List.set_cons_succ]))
    try (
      apply wpPlan_call; rfl; rfl; rfl; rfl; kernel_rfl; exact hM b d _ hbf hd (by omega); rfl; rintro e w5 ⟨rfl, hb5⟩
      obtain ⟨q1, q2, q3, q4, q5, q6, q7⟩ := HS
      refine ⟨_, rfl, as_S ⟨cell_later hb5 q1, cell_later hb5 q2, cell_later hb5 q3, cell_later hb5 q4, cell_later hb5 q5, cell_later hb5 q6, below_later hb5 q7⟩ ?_⟩
      clear q1 q2 q3 q4 q5 q6 q7 hb5; intro HS; rw [HB2.out]; simp only [Act.put, List.setIfInBounds_toArray, List.set_cons_zero, List.set_cons_succ]
      repeat (first | (apply wpPlan_look; rfl; rfl; (intro wq hq; (try dsimp only at hq); go_split_ands; go_simp; try with_reducible rfl); simp only [Act.put, List.setIfInBounds_toArray, List.set_cons_zero, List.set_cons_succ]) | (apply wpPlan_skip; rfl; rfl; simp only [Act.put, List.setIfInBounds_toArray, List.set_cons_zero, List.set_cons_succ]) | (apply wpPlan_pass; rfl; rfl; assumption; simp only [Act.put, List.setIfInBounds_toArray, List.set_cons_zero, List.set_cons_succ])))
    apply wpPlan_done
    have hB' := HS.2.2.2.2.2.2
    clear HS
    go_wp2
    go_ret
    exact Makes.mk (bool_congr (by rw [X.out, HB.out, HB2.out]; rfl)) hB'
set_option maxHeartbeats 800000 in
theorem parts_minus_pair {n : Nat} (hP : CP n) (hM : CM n) (a b c d : Ty) (hs : (Ty.pair a b).fits) (ht : (Ty.pair c d).fits) (hn : a.sz + c.sz ≤ n ∧ b.sz + d.sz ≤ n) (w : World) :
    Calls Try.prog 24 #[.string (Ty.pair a b).str, .string (Ty.pair c d).str, .agg #[.func (.func 17) #[] #[], .func (.func 16) #[] #[]]] w (Makes (.bool (sm (Ty.pair a b) (Ty.pair c d))) w) := by
  have _hp := hP
  have _hm := hM
  have ha := fits_sub hs (show a ∈ _ from List.mem_cons_self)
  have hbf := fits_sub hs (show b ∈ [a, b] from List.mem_cons_of_mem _ List.mem_cons_self)
  have hc := fits_sub ht (show c ∈ _ from List.mem_cons_self)
  have hd := fits_sub ht (show d ∈ [c, d] from List.mem_cons_of_mem _ List.mem_cons_self)
  have X := Lib.hid (sm_pair a b c d)
  cases hb1 : sm a c <;> cases hb2 : sm b d
  all_goals
    have HB := Lib.hid hb1
    have HB2 := Lib.hid hb2
    clear hb1 hb2
    go_enter Try.func24, Try.ntmps24
    go_wp2_with fail
    refine (Parts_any _ hs _).mono ?_
    rintro e w1 ⟨v1, rfl, ho1, hb1⟩
    go_wp2_with fail
    refine (Parts_any _ ht _).mono ?_
    rintro e w2 ⟨v2, rfl, ho2, hb2⟩
    obtain ⟨g1, c1, rfl, k1, k2⟩ := own_two ho1 rfl
    obtain ⟨g2, c2, rfl, k3, k4⟩ := own_two ho2 rfl
    have k1' := cell_later hb2 k1
    have k2' := cell_later hb2 k2
    have f0 : w2.cell? ⟨w.heap.size, 0, none⟩ = some (.func (.func 17) #[] #[]) := cell_later hb2 (cell_later hb1 (by go_simp))
    have f1 : w2.cell? ⟨w.heap.size, 1, none⟩ = some (.func (.func 16) #[] #[]) := cell_later hb2 (cell_later hb1 (by go_simp))
    have hB : Below w.heap.size w w2 := ((Below.refl _ _).alloc (Nat.le_refl _) _).trans ((hb1.mono (by simp)).trans (hb2.mono (by have := hb1.size; simp at this; omega)))
    clear ho1 ho2 k1 k2 hb1 hb2
    go_wp2_with fail
    refine (show Calls Try.prog 23 #[.string (Ty.pair a b).str] w2 (Gives (.int .u8 44) w2) from Head_any _ hs _).mono ?_
    rintro e w' ⟨rfl, rfl⟩
    go_wp2_with fail
    refine wp_region_plan (S := fun w' => w'.cell? ⟨w.heap.size, 0, none⟩ = some (.func (.func 17) #[] #[]) ∧ w'.cell? ⟨w.heap.size, 1, none⟩ = some (.func (.func 16) #[] #[]) ∧ w'.cell? ⟨g1, 0, none⟩ = some (.string a.str) ∧ w'.cell? ⟨g1, 1, none⟩ = some (.string b.str) ∧ w'.cell? ⟨g2, 0, none⟩ = some (.string c.str) ∧ w'.cell? ⟨g2, 1, none⟩ = some (.string d.str) ∧ Below w.heap.size w w')
      [(0, true), (1, true), (2, true), (3, true), (4, true), (5, true), (6, true), (7, true), (8, false), (9, true), (10, true), (11, true), (12, true), (13, true), (14, true), (15, true), (16, true), (17, true), (18, false), (19, true), (20, true)] (by kernel_rfl) (by kernel_rfl) (by kernel_rfl) (fun _ _ _ _ _ h => h) ⟨f0, f1, k1', k2', k3, k4, hB.drew⟩ ?_
    intro HS
    repeat (first | (apply wpPlan_look; rfl; rfl; (intro wq hq; (try dsimp only at hq); go_split_ands; go_simp; try with_reducible rfl); simp only [Act.put, List.setIfInBounds_toArray, List.set_cons_zero, List.set_cons_succ]) | (apply wpPlan_skip; rfl; rfl; simp only [Act.put, List.setIfInBounds_toArray, List.set_cons_zero, List.set_cons_succ]) | (apply wpPlan_pass; rfl; rfl; assumption; simp only [Act.put, List.setIfInBounds_toArray, List.set_cons_zero, List.set_cons_succ]))
    apply wpPlan_call; rfl; rfl; rfl; rfl; kernel_rfl; exact hM a c _ ha hc (by omega); rfl; rintro e w4 ⟨rfl, hb4⟩
    obtain ⟨q1, q2, q3, q4, q5, q6, q7⟩ := HS
    refine ⟨_, rfl, as_S ⟨cell_later hb4 q1, cell_later hb4 q2, cell_later hb4 q3, cell_later hb4 q4, cell_later hb4 q5, cell_later hb4 q6, below_later hb4 q7⟩ ?_⟩
    clear q1 q2 q3 q4 q5 q6 q7 hb4; intro HS; rw [HB.out]; simp only [Act.put, List.setIfInBounds_toArray, List.set_cons_zero, List.set_cons_succ]
    repeat (first | (apply wpPlan_look; rfl; rfl; (intro wq hq; (try dsimp only at hq); go_split_ands; go_simp; try with_reducible rfl); simp only [Act.put, List.setIfInBounds_toArray, List.set_cons_zero, List.set_cons_succ]) | (apply wpPlan_skip; rfl; rfl; simp only [Act.put, List.setIfInBounds_toArray, List.set_cons_zero, List.set_cons_succ]) | (apply wpPlan_pass; rfl; rfl; assumption; simp only [Act.put, List.setIfInBounds_toArray, List.set_cons_zero, List.set_cons_succ]))
    try (
      apply wpPlan_call; rfl; rfl; rfl; rfl; kernel_rfl; exact hM b d _ hbf hd (by omega); rfl; rintro e w5 ⟨rfl, hb5⟩
      obtain ⟨q1, q2, q3, q4, q5, q6, q7⟩ := HS
      refine ⟨_, rfl, as_S ⟨cell_later hb5 q1, cell_later hb5 q2, cell_later hb5 q3, cell_later hb5 q4, cell_later hb5 q5, cell_later hb5 q6, below_later hb5 q7⟩ ?_⟩
      clear q1 q2 q3 q4 q5 q6 q7 hb5; intro HS; rw [HB2.out]; simp only [Act.put, List.setIfInBounds_toArray, List.set_cons_zero, List.set_cons_succ]
      repeat (first | (apply wpPlan_look; rfl; rfl; (intro wq hq; (try dsimp only at hq); go_split_ands; go_simp; try with_reducible rfl); simp only [Act.put, List.setIfInBounds_toArray, List.set_cons_zero, List.set_cons_succ]) | (apply wpPlan_skip; rfl; rfl; simp only [Act.put, List.setIfInBounds_toArray, List.set_cons_zero, List.set_cons_succ]) | (apply wpPlan_pass; rfl; rfl; assumption; simp only [Act.put, List.setIfInBounds_toArray, List.set_cons_zero, List.set_cons_succ])))
    apply wpPlan_done
    have hB' := HS.2.2.2.2.2.2
    clear HS
    go_wp2
    go_ret
    exact Makes.mk (bool_congr (by rw [X.out, HB.out, HB2.out]; rfl)) hB'
set_option maxHeartbeats 800000 in
theorem parts_minus_list {n : Nat} (hP : CP n) (hM : CM n) (a c : Ty) (hs : (Ty.list a).fits) (ht : (Ty.list c).fits) (hn : a.sz + c.sz ≤ n) (w : World) :
    Calls Try.prog 24 #[.string (Ty.list a).str, .string (Ty.list c).str, .agg #[.func (.func 17) #[] #[], .func (.func 16) #[] #[]]] w (Makes (.bool (sm (Ty.list a) (Ty.list c))) w) := by
  have _hp := hP
  have _hm := hM
  have ha := fits_sub hs (show a ∈ _ from List.mem_cons_self)
  have hc := fits_sub ht (show c ∈ _ from List.mem_cons_self)
  have X := Lib.hid (sm_list a c)
  all_goals
    go_enter Try.func24, Try.ntmps24
    go_wp2_with fail
    refine (Parts_any _ hs _).mono ?_
    rintro e w1 ⟨v1, rfl, ho1, hb1⟩
    go_wp2_with fail
    refine (Parts_any _ ht _).mono ?_
    rintro e w2 ⟨v2, rfl, ho2, hb2⟩
    obtain ⟨g1, c1, rfl, k1⟩ := own_single ho1 rfl
    obtain ⟨g2, c2, rfl, k3⟩ := own_single ho2 rfl
    have k1' := cell_later hb2 k1
    have f0 : w2.cell? ⟨w.heap.size, 0, none⟩ = some (.func (.func 17) #[] #[]) := cell_later hb2 (cell_later hb1 (by go_simp))
    have f1 : w2.cell? ⟨w.heap.size, 1, none⟩ = some (.func (.func 16) #[] #[]) := cell_later hb2 (cell_later hb1 (by go_simp))
    have hB : Below w.heap.size w w2 := ((Below.refl _ _).alloc (Nat.le_refl _) _).trans ((hb1.mono (by simp)).trans (hb2.mono (by have := hb1.size; simp at this; omega)))
    clear ho1 ho2 k1  hb1 hb2
    go_wp2_with fail
    refine (show Calls Try.prog 23 #[.string (Ty.list a).str] w2 (Gives (.int .u8 108) w2) from Head_any _ hs _).mono ?_
    rintro e w' ⟨rfl, rfl⟩
    go_wp2_with fail
    refine wp_region_plan (S := fun w' => w'.cell? ⟨w.heap.size, 0, none⟩ = some (.func (.func 17) #[] #[]) ∧ w'.cell? ⟨w.heap.size, 1, none⟩ = some (.func (.func 16) #[] #[]) ∧ w'.cell? ⟨g1, 0, none⟩ = some (.string a.str) ∧ w'.cell? ⟨g2, 0, none⟩ = some (.string c.str) ∧ Below w.heap.size w w')
      [(0, true), (1, true), (2, true), (3, true), (4, true), (5, true), (6, true), (7, true), (8, false), (9, true)] (by kernel_rfl) (by kernel_rfl) (by kernel_rfl) (fun _ _ _ _ _ h => h) ⟨f0, f1, k1', k3, hB.drew⟩ ?_
    intro HS
    repeat (first | (apply wpPlan_look; rfl; rfl; (intro wq hq; (try dsimp only at hq); go_split_ands; go_simp; try with_reducible rfl); simp only [Act.put, List.setIfInBounds_toArray, List.set_cons_zero, List.set_cons_succ]) | (apply wpPlan_skip; rfl; rfl; simp only [Act.put, List.setIfInBounds_toArray, List.set_cons_zero, List.set_cons_succ]) | (apply wpPlan_pass; rfl; rfl; assumption; simp only [Act.put, List.setIfInBounds_toArray, List.set_cons_zero, List.set_cons_succ]))
    apply wpPlan_call; rfl; rfl; rfl; rfl; kernel_rfl; exact hM a c _ ha hc (by omega); rfl; rintro e w4 ⟨rfl, hb4⟩
    obtain ⟨q1, q2, q3, q4, q5⟩ := HS
    refine ⟨_, rfl, as_S ⟨cell_later hb4 q1, cell_later hb4 q2, cell_later hb4 q3, cell_later hb4 q4, below_later hb4 q5⟩ ?_⟩
    clear q1 q2 q3 q4 q5 hb4; intro HS; simp only [Act.put, List.setIfInBounds_toArray, List.set_cons_zero, List.set_cons_succ]
    repeat (first | (apply wpPlan_look; rfl; rfl; (intro wq hq; (try dsimp only at hq); go_split_ands; go_simp; try with_reducible rfl); simp only [Act.put, List.setIfInBounds_toArray, List.set_cons_zero, List.set_cons_succ]) | (apply wpPlan_skip; rfl; rfl; simp only [Act.put, List.setIfInBounds_toArray, List.set_cons_zero, List.set_cons_succ]) | (apply wpPlan_pass; rfl; rfl; assumption; simp only [Act.put, List.setIfInBounds_toArray, List.set_cons_zero, List.set_cons_succ]))
    apply wpPlan_done
    have hB' := HS.2.2.2.2
    clear HS
    go_wp2
    go_ret
    exact Makes.mk (bool_congr (by rw [X.out])) hB'
set_option maxHeartbeats 800000 in
theorem parts_minus_box {n : Nat} (hP : CP n) (hM : CM n) (a c : Ty) (hs : (Ty.box a).fits) (ht : (Ty.box c).fits) (hn : a.sz + c.sz ≤ n) (w : World) :
    Calls Try.prog 24 #[.string (Ty.box a).str, .string (Ty.box c).str, .agg #[.func (.func 17) #[] #[], .func (.func 16) #[] #[]]] w (Makes (.bool (sm (Ty.box a) (Ty.box c))) w) := by
  have ha := fits_sub hs (show a ∈ _ from List.mem_cons_self)
  have hc := fits_sub ht (show c ∈ _ from List.mem_cons_self)
  have X := Lib.hid (sm_box a c)
  have hfld : ∀ w, (Instr.field 37 (.agg #[.func (.func 16) #[] #[], .func (.func 17) #[] #[]]) 0).run Try.prog w = .ok (.func (.func 16) #[] #[]) w := fun _ => by kernel_rfl
  cases hb1 : sm a c <;> cases hb2 : sp c a
  all_goals
    have HB := Lib.hid hb1
    have HB2 := Lib.hid hb2
    clear hb1 hb2
    go_enter Try.func24, Try.ntmps24
    go_wp2_with fail
    refine (Parts_any _ hs _).mono ?_
    rintro e w1 ⟨v1, rfl, ho1, hb1⟩
    go_wp2_with fail
    refine (Parts_any _ ht _).mono ?_
    rintro e w2 ⟨v2, rfl, ho2, hb2⟩
    obtain ⟨g1, c1, rfl, k1⟩ := own_single ho1 rfl
    obtain ⟨g2, c2, rfl, k3⟩ := own_single ho2 rfl
    have k1' := cell_later hb2 k1
    have f0 : w2.cell? ⟨w.heap.size, 0, none⟩ = some (.func (.func 17) #[] #[]) := cell_later hb2 (cell_later hb1 (by go_simp))
    have f1 : w2.cell? ⟨w.heap.size, 1, none⟩ = some (.func (.func 16) #[] #[]) := cell_later hb2 (cell_later hb1 (by go_simp))
    have hB : Below w.heap.size w w2 := ((Below.refl _ _).alloc (Nat.le_refl _) _).trans ((hb1.mono (by simp)).trans (hb2.mono (by have := hb1.size; simp at this; omega)))
    clear ho1 ho2 k1  hb1 hb2
    go_wp2_with fail
    refine (show Calls Try.prog 23 #[.string (Ty.box a).str] w2 (Gives (.int .u8 120) w2) from Head_any _ hs _).mono ?_
    rintro e w' ⟨rfl, rfl⟩
    go_wp2_with fail
    refine wp_region_plan (S := fun w' => w'.cell? ⟨w.heap.size, 0, none⟩ = some (.func (.func 17) #[] #[]) ∧ w'.cell? ⟨w.heap.size, 1, none⟩ = some (.func (.func 16) #[] #[]) ∧ w'.cell? ⟨g1, 0, none⟩ = some (.string a.str) ∧ w'.cell? ⟨g2, 0, none⟩ = some (.string c.str) ∧ Below w.heap.size w w')
      [(0, true), (1, true), (2, true), (3, true), (4, true), (5, true), (6, true), (7, true), (8, false), (9, true), (10, true), (13, true), (14, true), (15, true), (16, true), (17, true), (18, true), (11, false), (12, true), (19, false), (20, true), (21, true)] (by kernel_rfl) (by kernel_rfl) (by kernel_rfl) (fun _ _ _ _ _ h => h) ⟨f0, f1, k1', k3, hB.drew⟩ ?_
    intro HS
    repeat (first | (apply wpPlan_look; rfl; rfl; (intro wq hq; (try dsimp only at hq); go_split_ands; go_simp; try with_reducible rfl); simp only [Act.put, List.setIfInBounds_toArray, List.set_cons_zero, List.set_cons_succ]) | (apply wpPlan_skip; rfl; rfl; simp only [Act.put, List.setIfInBounds_toArray, List.set_cons_zero, List.set_cons_succ]) | (apply wpPlan_pass; rfl; rfl; assumption; simp only [Act.put, List.setIfInBounds_toArray, List.set_cons_zero, List.set_cons_succ]))
    apply wpPlan_call; rfl; rfl; rfl; rfl; kernel_rfl; exact hM a c _ ha hc (by omega); rfl; rintro e w4 ⟨rfl, hb4⟩
    obtain ⟨q1, q2, q3, q4, q5⟩ := HS
    refine ⟨_, rfl, as_S ⟨cell_later hb4 q1, cell_later hb4 q2, cell_later hb4 q3, cell_later hb4 q4, below_later hb4 q5⟩ ?_⟩
    clear q1 q2 q3 q4 q5 hb4; intro HS; rw [HB.out]; simp only [Act.put, List.setIfInBounds_toArray, List.set_cons_zero, List.set_cons_succ]
    repeat (first | (apply wpPlan_look; rfl; rfl; (intro wq hq; (try dsimp only at hq); go_split_ands; go_simp; try with_reducible rfl); simp only [Act.put, List.setIfInBounds_toArray, List.set_cons_zero, List.set_cons_succ]) | (apply wpPlan_skip; rfl; rfl; simp only [Act.put, List.setIfInBounds_toArray, List.set_cons_zero, List.set_cons_succ]) | (apply wpPlan_pass; rfl; rfl; assumption; simp only [Act.put, List.setIfInBounds_toArray, List.set_cons_zero, List.set_cons_succ]))
    try (
      apply wpPlan_call; rfl; rfl; rfl; rfl; kernel_rfl; exact walk_turned 17 16 _; rfl; rintro e w6 ⟨rfl, hb6⟩
      obtain ⟨q1, q2, q3, q4, q5⟩ := HS
      refine ⟨_, rfl, as_S ⟨cell_later hb6 q1, cell_later hb6 q2, cell_later hb6 q3, cell_later hb6 q4, below_later hb6 q5⟩ ?_⟩
      clear q1 q2 q3 q4 q5 hb6; intro HS; simp only [Act.put, List.setIfInBounds_toArray, List.set_cons_zero, List.set_cons_succ]
      repeat (first | (apply wpPlan_look; rfl; rfl; (intro wq hq; (try dsimp only at hq); go_split_ands; go_simp; try with_reducible rfl); simp only [Act.put, List.setIfInBounds_toArray, List.set_cons_zero, List.set_cons_succ]) | (apply wpPlan_skip; rfl; rfl; simp only [Act.put, List.setIfInBounds_toArray, List.set_cons_zero, List.set_cons_succ]) | (apply wpPlan_pass; rfl; rfl; assumption; simp only [Act.put, List.setIfInBounds_toArray, List.set_cons_zero, List.set_cons_succ]))
      apply wpPlan_call; rfl; rfl; rfl; rfl; kernel_rfl; exact hP c a _ hc ha (by omega); rfl; rintro e w5 ⟨rfl, hb5⟩
      obtain ⟨q1, q2, q3, q4, q5⟩ := HS
      refine ⟨_, rfl, as_S ⟨cell_later hb5 q1, cell_later hb5 q2, cell_later hb5 q3, cell_later hb5 q4, below_later hb5 q5⟩ ?_⟩
      clear q1 q2 q3 q4 q5 hb5; intro HS; rw [HB2.out]; simp only [Act.put, List.setIfInBounds_toArray, List.set_cons_zero, List.set_cons_succ]
      repeat (first | (apply wpPlan_look; rfl; rfl; (intro wq hq; (try dsimp only at hq); go_split_ands; go_simp; try with_reducible rfl); simp only [Act.put, List.setIfInBounds_toArray, List.set_cons_zero, List.set_cons_succ]) | (apply wpPlan_skip; rfl; rfl; simp only [Act.put, List.setIfInBounds_toArray, List.set_cons_zero, List.set_cons_succ]) | (apply wpPlan_pass; rfl; rfl; assumption; simp only [Act.put, List.setIfInBounds_toArray, List.set_cons_zero, List.set_cons_succ])))
    apply wpPlan_done
    have hB' := HS.2.2.2.2
    clear HS
    go_wp2
    go_ret
    exact Makes.mk (bool_congr (by rw [X.out, HB.out, HB2.out]; rfl)) hB'
set_option maxHeartbeats 800000 in
theorem parts_minus_base (s t : Ty) (hs : s.fits) (ht : t.fits) (hk : s.kids = []) (_ : t.kids = []) (w : World) :
    Calls Try.prog 24 #[.string s.str, .string t.str, .agg #[.func (.func 17) #[] #[], .func (.func 16) #[] #[]]] w (Makes (.bool true) w) := by
  have n1 : (((s.hd.toNat : Nat) : Int) == 62) = false := by cases s <;> first | rfl | simp [Ty.kids] at hk
  have n2 : (((s.hd.toNat : Nat) : Int) == 44) = false := by cases s <;> first | rfl | simp [Ty.kids] at hk
  have n3 : (((s.hd.toNat : Nat) : Int) == 108) = false := by cases s <;> first | rfl | simp [Ty.kids] at hk
  have n4 : (((s.hd.toNat : Nat) : Int) == 120) = false := by cases s <;> first | rfl | simp [Ty.kids] at hk
  clear hk
  go_enter Try.func24, Try.ntmps24
  go_wp2_with fail
  refine (Parts_any _ hs _).mono ?_
  rintro e w1 ⟨v1, rfl, ho1, hb1⟩
  go_wp2_with fail
  refine (Parts_any _ ht _).mono ?_
  rintro e w2 ⟨v2, rfl, ho2, hb2⟩
  have hB : Below w.heap.size w w2 := ((Below.refl _ _).alloc (Nat.le_refl _) _).trans ((hb1.mono (by simp)).trans (hb2.mono (by have := hb1.size; simp at this; omega)))
  clear ho1 ho2 hb1 hb2
  go_wp2_with fail
  refine (Head_any _ hs _).mono ?_
  rintro e w' ⟨rfl, rfl⟩
  go_wp2
  go_ret
  exact Makes.mk rfl hB
end Go.Proofs.Ytebnlpiadddikaa

/- Walks of package core: the rules, kind by kind, more of them. -/
import Derived.Test.YtnmhiddahfnkoaaCoreR
namespace Go.Proofs.Ytnmhiddahfnkoaa
set_option linter.unusedSimpArgs false
set_option linter.unusedVariables false
open Go.RowKit Culp

set_option maxHeartbeats 800000 in
theorem of_head (cp : Value) (kd n : Int) (s t u : ByteArray) (l c : Int) (a : Ty) (hq : (Ty.list a).fits) (g cap p : Nat) (w : World) (hk : w.cell? ⟨g, 0, none⟩ = some (.string (Ty.list a).str)) :
    Calls Try.prog 39 #[cp, (Nd.mk 22 kd n s t u l c).val, .slice (some ⟨g, 0, none⟩) 1 cap, .int .i64 p] w (RuleRes (.ok a) p w) := by
  unfold Nd.val Nd.cells
  have hk2 : ∀ o, (w.alloc o).cell? ⟨g, 0, none⟩ = some (.string (Ty.list a).str) := fun o => cell_later ((Below.refl _ _).alloc (Nat.le_refl _) o) hk
  have hB0 : ∀ o, Below w.heap.size w (w.alloc o) := fun o => (Below.refl _ _).alloc (Nat.le_refl _) o
  go_enter Try.func39, Try.ntmps39
  go_wp2_with fail
  refine (show Calls Try.prog 52 #[.string (Ty.list a).str] _ (Gives (.int .u8 108) _) from Head_any _ hq _).mono ?_
  rintro e w' ⟨rfl, rfl⟩
  go_wp2_with (first | (go_at_call 27; (with_reducible refine (need_yes _ _ _).mono ?_); rintro e w' ⟨rfl, rfl⟩) | (go_at_call 27; (with_reducible refine (need_no _ _ _).mono ?_); rintro e w' ⟨rfl, rfl⟩))
  first
    | (refine (Parts_any _ hq _).mono ?_
       rintro e w1 ⟨v1, rfl, ho1, hb1⟩
       obtain ⟨g1, c1, rfl, k1⟩ := own_single ho1 rfl
       have hB := below_later hb1 (hB0 _)
       clear ho1 hb1
       go_wp2_with fail
       go_ret
       exact RuleRes.ok_ rfl rfl hB)
    | (go_ret
       exact RuleRes.ok_ rfl rfl (hB0 _))
set_option maxHeartbeats 800000 in
theorem of_tail (cp : Value) (kd n : Int) (s t u : ByteArray) (l c : Int) (a : Ty) (hq : (Ty.list a).fits) (g cap p : Nat) (w : World) (hk : w.cell? ⟨g, 0, none⟩ = some (.string (Ty.list a).str)) :
    Calls Try.prog 39 #[cp, (Nd.mk 23 kd n s t u l c).val, .slice (some ⟨g, 0, none⟩) 1 cap, .int .i64 p] w (RuleRes (.ok (.list a)) p w) := by
  unfold Nd.val Nd.cells
  have hk2 : ∀ o, (w.alloc o).cell? ⟨g, 0, none⟩ = some (.string (Ty.list a).str) := fun o => cell_later ((Below.refl _ _).alloc (Nat.le_refl _) o) hk
  have hB0 : ∀ o, Below w.heap.size w (w.alloc o) := fun o => (Below.refl _ _).alloc (Nat.le_refl _) o
  go_enter Try.func39, Try.ntmps39
  go_wp2_with fail
  refine (show Calls Try.prog 52 #[.string (Ty.list a).str] _ (Gives (.int .u8 108) _) from Head_any _ hq _).mono ?_
  rintro e w' ⟨rfl, rfl⟩
  go_wp2_with (first | (go_at_call 27; (with_reducible refine (need_yes _ _ _).mono ?_); rintro e w' ⟨rfl, rfl⟩) | (go_at_call 27; (with_reducible refine (need_no _ _ _).mono ?_); rintro e w' ⟨rfl, rfl⟩))
  first
    | (refine (Parts_any _ hq _).mono ?_
       rintro e w1 ⟨v1, rfl, ho1, hb1⟩
       obtain ⟨g1, c1, rfl, k1⟩ := own_single ho1 rfl
       have hB := below_later hb1 (hB0 _)
       clear ho1 hb1
       go_wp2_with fail
       go_ret
       exact RuleRes.ok_ rfl rfl hB)
    | (go_ret
       exact RuleRes.ok_ rfl rfl (hB0 _))
set_option maxHeartbeats 800000 in
theorem of_empty (cp : Value) (kd n : Int) (s t u : ByteArray) (l c : Int) (a : Ty) (hq : (Ty.list a).fits) (g cap p : Nat) (w : World) (hk : w.cell? ⟨g, 0, none⟩ = some (.string (Ty.list a).str)) :
    Calls Try.prog 39 #[cp, (Nd.mk 24 kd n s t u l c).val, .slice (some ⟨g, 0, none⟩) 1 cap, .int .i64 p] w (RuleRes (.ok .bool) p w) := by
  unfold Nd.val Nd.cells
  have hk2 : ∀ o, (w.alloc o).cell? ⟨g, 0, none⟩ = some (.string (Ty.list a).str) := fun o => cell_later ((Below.refl _ _).alloc (Nat.le_refl _) o) hk
  have hB0 : ∀ o, Below w.heap.size w (w.alloc o) := fun o => (Below.refl _ _).alloc (Nat.le_refl _) o
  go_enter Try.func39, Try.ntmps39
  go_wp2_with fail
  refine (show Calls Try.prog 52 #[.string (Ty.list a).str] _ (Gives (.int .u8 108) _) from Head_any _ hq _).mono ?_
  rintro e w' ⟨rfl, rfl⟩
  go_wp2_with (first | (go_at_call 27; (with_reducible refine (need_yes _ _ _).mono ?_); rintro e w' ⟨rfl, rfl⟩) | (go_at_call 27; (with_reducible refine (need_no _ _ _).mono ?_); rintro e w' ⟨rfl, rfl⟩))
  first
    | (refine (Parts_any _ hq _).mono ?_
       rintro e w1 ⟨v1, rfl, ho1, hb1⟩
       obtain ⟨g1, c1, rfl, k1⟩ := own_single ho1 rfl
       have hB := below_later hb1 (hB0 _)
       clear ho1 hb1
       go_wp2_with fail
       go_ret
       exact RuleRes.ok_ rfl rfl hB)
    | (go_ret
       exact RuleRes.ok_ rfl rfl (hB0 _))

set_option maxHeartbeats 800000 in
theorem half_no (cp : Value) (k kd n : Int) (s t u : ByteArray) (l c : Int) (q : Ty) (hq : q.fits) (hh : ((q.hd.toNat : Int) == 44) = false) (g cap p : Nat) (w : World) (hk : w.cell? ⟨g, 0, none⟩ = some (.string q.str)) :
    Calls Try.prog 37 #[cp, (Nd.mk k kd n s t u l c).val, .slice (some ⟨g, 0, none⟩) 1 cap, .int .i64 p] w (RuleRes (.error 23) p w) := by
  unfold Nd.val Nd.cells
  have hk2 : ∀ o, (w.alloc o).cell? ⟨g, 0, none⟩ = some (.string q.str) := fun o => cell_later ((Below.refl _ _).alloc (Nat.le_refl _) o) hk
  have hB0 : ∀ o, Below w.heap.size w (w.alloc o) := fun o => (Below.refl _ _).alloc (Nat.le_refl _) o
  go_enter Try.func37, Try.ntmps37
  go_wp2_with (first | (go_at_call 52; refine (Head_any q hq _).mono ?_; rintro e w' ⟨rfl, rfl⟩) | (go_at_call 27; (with_reducible refine (need_yes _ _ _).mono ?_); rintro e w' ⟨rfl, rfl⟩) | (go_at_call 27; (with_reducible refine (need_no _ _ _).mono ?_); rintro e w' ⟨rfl, rfl⟩))
  exact ⟨rfl, RuleRes.bad rfl (hB0 _)⟩

set_option maxHeartbeats 800000 in
theorem half_first (cp : Value) (kd n : Int) (s t u : ByteArray) (l c : Int) (a b : Ty) (hq : (Ty.pair a b).fits) (g cap p : Nat) (w : World) (hk : w.cell? ⟨g, 0, none⟩ = some (.string (Ty.pair a b).str)) :
    Calls Try.prog 37 #[cp, (Nd.mk 19 kd n s t u l c).val, .slice (some ⟨g, 0, none⟩) 1 cap, .int .i64 p] w (RuleRes (.ok a) p w) := by
  unfold Nd.val Nd.cells
  have hk2 : ∀ o, (w.alloc o).cell? ⟨g, 0, none⟩ = some (.string (Ty.pair a b).str) := fun o => cell_later ((Below.refl _ _).alloc (Nat.le_refl _) o) hk
  have hB0 : ∀ o, Below w.heap.size w (w.alloc o) := fun o => (Below.refl _ _).alloc (Nat.le_refl _) o
  go_enter Try.func37, Try.ntmps37
  go_wp2_with fail
  refine (show Calls Try.prog 52 #[.string (Ty.pair a b).str] _ (Gives (.int .u8 44) _) from Head_any _ hq _).mono ?_
  rintro e w' ⟨rfl, rfl⟩
  go_wp2_with (first | (go_at_call 27; (with_reducible refine (need_yes _ _ _).mono ?_); rintro e w' ⟨rfl, rfl⟩) | (go_at_call 27; (with_reducible refine (need_no _ _ _).mono ?_); rintro e w' ⟨rfl, rfl⟩))
  refine wp_region_plan (S := fun w' => w'.cell? ⟨g, 0, none⟩ = some (.string (Ty.pair a b).str) ∧ w'.cell? ⟨w.heap.size, 0, none⟩ = some (.int .i8 19) ∧ Below w.heap.size w w')
    [(0, true), (1, true), (2, true), (4, true), (5, true), (6, true), (3, false), (7, true), (8, true), (9, true)] (by kernel_rfl) (by kernel_rfl) (by kernel_rfl) (fun _ _ _ _ _ h => h) ⟨cell_later (hB0 _).drew hk, by go_simp, (hB0 _).drew⟩ ?_
  intro HS
  repeat (first | (apply wpPlan_look; rfl; rfl; (intro wq hq; (try dsimp only at hq); go_split_ands; go_simp; (try rw [if_neg (by omega)]); try with_reducible rfl); simp only [Act.put, List.setIfInBounds_toArray, List.set_cons_zero, List.set_cons_succ]) | (apply wpPlan_skip; rfl; rfl; simp only [Act.put, List.setIfInBounds_toArray, List.set_cons_zero, List.set_cons_succ]) | (apply wpPlan_pass; rfl; rfl; assumption; simp only [Act.put, List.setIfInBounds_toArray, List.set_cons_zero, List.set_cons_succ]))
  have wr0 : IntKind.i8.wrap 0 = 0 := by decide
  have wr1 : IntKind.i8.wrap 1 = 1 := by decide
  apply wpPlan_callS; rfl; rfl; rfl; rfl; kernel_rfl; exact Parts_any _ hq _; rfl; rintro e w3 ⟨v1, rfl, ho1, hb1⟩
  obtain ⟨g1, c1, rfl, k1, k2⟩ := own_two ho1 rfl
  refine .inl ⟨_, rfl, fun w' => (w'.cell? ⟨g1, 0, none⟩ = some (.string a.str) ∧ w'.cell? ⟨g1, 1, none⟩ = some (.string b.str)) ∧ w'.cell? ⟨g, 0, none⟩ = some (.string (Ty.pair a b).str) ∧ w'.cell? ⟨w.heap.size, 0, none⟩ = some (.int .i8 19) ∧ Below w.heap.size w w', fun _ h => h.2, ⟨⟨k1, k2⟩, cell_later hb1 HS.1, cell_later hb1 HS.2.1, below_later hb1 HS.2.2⟩, ?_⟩
  have hB := below_later hb1 HS.2.2
  clear ho1 hb1 k1 k2 HS
  simp only [Act.put, List.setIfInBounds_toArray, List.set_cons_zero, List.set_cons_succ]
  repeat (first | (apply wpPlan_look; rfl; rfl; (intro wq hq; (try dsimp only at hq); go_split_ands; go_simp; (try rw [if_neg (by omega)]); try with_reducible rfl); simp only [Act.put, List.setIfInBounds_toArray, List.set_cons_zero, List.set_cons_succ]) | (apply wpPlan_skip; rfl; rfl; simp only [Act.put, List.setIfInBounds_toArray, List.set_cons_zero, List.set_cons_succ]) | (apply wpPlan_pass; rfl; rfl; assumption; simp only [Act.put, List.setIfInBounds_toArray, List.set_cons_zero, List.set_cons_succ]))
  apply wpPlan_done
  go_wp2
  go_ret
  exact RuleRes.ok_ rfl rfl hB
set_option maxHeartbeats 800000 in
theorem half_second (cp : Value) (kd n : Int) (s t u : ByteArray) (l c : Int) (a b : Ty) (hq : (Ty.pair a b).fits) (g cap p : Nat) (w : World) (hk : w.cell? ⟨g, 0, none⟩ = some (.string (Ty.pair a b).str)) :
    Calls Try.prog 37 #[cp, (Nd.mk 20 kd n s t u l c).val, .slice (some ⟨g, 0, none⟩) 1 cap, .int .i64 p] w (RuleRes (.ok b) p w) := by
  unfold Nd.val Nd.cells
  have hk2 : ∀ o, (w.alloc o).cell? ⟨g, 0, none⟩ = some (.string (Ty.pair a b).str) := fun o => cell_later ((Below.refl _ _).alloc (Nat.le_refl _) o) hk
  have hB0 : ∀ o, Below w.heap.size w (w.alloc o) := fun o => (Below.refl _ _).alloc (Nat.le_refl _) o
  go_enter Try.func37, Try.ntmps37
  go_wp2_with fail
  refine (show Calls Try.prog 52 #[.string (Ty.pair a b).str] _ (Gives (.int .u8 44) _) from Head_any _ hq _).mono ?_
  rintro e w' ⟨rfl, rfl⟩
  go_wp2_with (first | (go_at_call 27; (with_reducible refine (need_yes _ _ _).mono ?_); rintro e w' ⟨rfl, rfl⟩) | (go_at_call 27; (with_reducible refine (need_no _ _ _).mono ?_); rintro e w' ⟨rfl, rfl⟩))
  refine wp_region_plan (S := fun w' => w'.cell? ⟨g, 0, none⟩ = some (.string (Ty.pair a b).str) ∧ w'.cell? ⟨w.heap.size, 0, none⟩ = some (.int .i8 20) ∧ Below w.heap.size w w')
    [(0, true), (1, true), (2, true), (4, true), (5, true), (6, true), (3, false), (7, true), (8, true), (9, true)] (by kernel_rfl) (by kernel_rfl) (by kernel_rfl) (fun _ _ _ _ _ h => h) ⟨cell_later (hB0 _).drew hk, by go_simp, (hB0 _).drew⟩ ?_
  intro HS
  repeat (first | (apply wpPlan_look; rfl; rfl; (intro wq hq; (try dsimp only at hq); go_split_ands; go_simp; (try rw [if_neg (by omega)]); try with_reducible rfl); simp only [Act.put, List.setIfInBounds_toArray, List.set_cons_zero, List.set_cons_succ]) | (apply wpPlan_skip; rfl; rfl; simp only [Act.put, List.setIfInBounds_toArray, List.set_cons_zero, List.set_cons_succ]) | (apply wpPlan_pass; rfl; rfl; assumption; simp only [Act.put, List.setIfInBounds_toArray, List.set_cons_zero, List.set_cons_succ]))
  have wr0 : IntKind.i8.wrap 0 = 0 := by decide
  have wr1 : IntKind.i8.wrap 1 = 1 := by decide
  apply wpPlan_callS; rfl; rfl; rfl; rfl; kernel_rfl; exact Parts_any _ hq _; rfl; rintro e w3 ⟨v1, rfl, ho1, hb1⟩
  obtain ⟨g1, c1, rfl, k1, k2⟩ := own_two ho1 rfl
  refine .inl ⟨_, rfl, fun w' => (w'.cell? ⟨g1, 0, none⟩ = some (.string a.str) ∧ w'.cell? ⟨g1, 1, none⟩ = some (.string b.str)) ∧ w'.cell? ⟨g, 0, none⟩ = some (.string (Ty.pair a b).str) ∧ w'.cell? ⟨w.heap.size, 0, none⟩ = some (.int .i8 20) ∧ Below w.heap.size w w', fun _ h => h.2, ⟨⟨k1, k2⟩, cell_later hb1 HS.1, cell_later hb1 HS.2.1, below_later hb1 HS.2.2⟩, ?_⟩
  have hB := below_later hb1 HS.2.2
  clear ho1 hb1 k1 k2 HS
  simp only [Act.put, List.setIfInBounds_toArray, List.set_cons_zero, List.set_cons_succ]
  repeat (first | (apply wpPlan_look; rfl; rfl; (intro wq hq; (try dsimp only at hq); go_split_ands; go_simp; (try rw [if_neg (by omega)]); try with_reducible rfl); simp only [Act.put, List.setIfInBounds_toArray, List.set_cons_zero, List.set_cons_succ]) | (apply wpPlan_skip; rfl; rfl; simp only [Act.put, List.setIfInBounds_toArray, List.set_cons_zero, List.set_cons_succ]) | (apply wpPlan_pass; rfl; rfl; assumption; simp only [Act.put, List.setIfInBounds_toArray, List.set_cons_zero, List.set_cons_succ]))
  apply wpPlan_done
  go_wp2
  go_ret
  exact RuleRes.ok_ rfl rfl hB

set_option maxHeartbeats 800000 in
theorem call_no (cp : Value) (k kd n : Int) (s t u : ByteArray) (l c : Int) (q : Ty) (hq : q.fits) (hh : ((q.hd.toNat : Int) == 62) = false) (g m cap p : Nat) (hm : 0 < m) (w : World) (hk : w.cell? ⟨g, 0, none⟩ = some (.string q.str)) :
    Calls Try.prog 34 #[cp, (Nd.mk k kd n s t u l c).val, .slice (some ⟨g, 0, none⟩) m cap, .int .i64 p] w (RuleRes (.error 23) p w) := by
  unfold Nd.val Nd.cells
  have hk2 : ∀ o, (w.alloc o).cell? ⟨g, 0, none⟩ = some (.string q.str) := fun o => cell_later ((Below.refl _ _).alloc (Nat.le_refl _) o) hk
  have hB0 : ∀ o, Below w.heap.size w (w.alloc o) := fun o => (Below.refl _ _).alloc (Nat.le_refl _) o
  go_enter Try.func34, Try.ntmps34
  go_wp2_with (first | (go_at_call 52; refine (Head_any q hq _).mono ?_; rintro e w' ⟨rfl, rfl⟩) | (go_at_call 27; (with_reducible refine (need_yes _ _ _).mono ?_); rintro e w' ⟨rfl, rfl⟩) | (go_at_call 27; (with_reducible refine (need_no _ _ _).mono ?_); rintro e w' ⟨rfl, rfl⟩))
  exact ⟨rfl, RuleRes.bad rfl (hB0 _)⟩

set_option maxHeartbeats 1600000 in
theorem call_yes (cp : Value) (k kd n : Int) (s t u : ByteArray) (l c : Int) (a b q : Ty) (hq : (Ty.fn a b).fits) (g cap p : Nat) (w : World) (hk : w.cell? ⟨g, 0, none⟩ = some (.string (Ty.fn a b).str)) (hk1 : w.cell? ⟨g, 1, none⟩ = some (.string q.str)) :
    Calls Try.prog 34 #[cp, (Nd.mk k kd n s t u l c).val, .slice (some ⟨g, 0, none⟩) 2 cap, .int .i64 p] w (RuleRes (needM (a == q) 23 b) p w) := by
  unfold Nd.val Nd.cells
  have hk2 : ∀ o, (w.alloc o).cell? ⟨g, 0, none⟩ = some (.string (Ty.fn a b).str) := fun o => cell_later ((Below.refl _ _).alloc (Nat.le_refl _) o) hk
  have hk3 : ∀ o, (w.alloc o).cell? ⟨g, 1, none⟩ = some (.string q.str) := fun o => cell_later ((Below.refl _ _).alloc (Nat.le_refl _) o) hk1
  have hB0 : ∀ o, Below w.heap.size w (w.alloc o) := fun o => (Below.refl _ _).alloc (Nat.le_refl _) o
  have he := str_eqv a q
  by_cases h : a = q
  all_goals
    first
      | rw [decide_eq_true h] at he
      | rw [decide_eq_false h] at he
    have H := Lib.hid h
    clear h
    go_enter Try.func34, Try.ntmps34
    go_wp2_with fail
    refine (show Calls Try.prog 52 #[.string (Ty.fn a b).str] _ (Gives (.int .u8 62) _) from Head_any _ hq _).mono ?_
    rintro e w' ⟨rfl, rfl⟩
    go_wp2_with (first | (go_at_call 27; (with_reducible refine (need_yes _ _ _).mono ?_); rintro e w' ⟨rfl, rfl⟩) | (go_at_call 27; (with_reducible refine (need_no _ _ _).mono ?_); rintro e w' ⟨rfl, rfl⟩))
    refine (Parts_any _ hq _).mono ?_
    rintro e w1 ⟨v1, rfl, ho1, hb1⟩
    obtain ⟨g1, c1, rfl, k1, k2⟩ := own_two ho1 rfl
    have hB := below_later hb1 (hB0 _)
    have hq1 := cell_later hb1 (hk3 _)
    clear ho1 hb1
    go_wp2_with fail
    refine wp_region_plan (S := fun w' => w'.cell? ⟨g1, 0, none⟩ = some (.string a.str) ∧ w'.cell? ⟨g1, 1, none⟩ = some (.string b.str) ∧ w'.cell? ⟨g, 1, none⟩ = some (.string q.str) ∧ Below w.heap.size w w')
      [(0, true), (1, true), (2, true), (3, true), (4, true), (5, true), (6, true), (7, true), (8, false)] (by kernel_rfl) (by kernel_rfl) (by kernel_rfl) (fun _ _ _ _ _ h => h) ⟨k1, k2, hq1, hB.drew⟩ ?_
    intro HS
    repeat (first | (apply wpPlan_look; rfl; rfl; (intro wq hq; (try dsimp only at hq); go_split_ands; go_simp; (try rw [if_neg (by omega)]); try with_reducible rfl); simp only [Act.put, List.setIfInBounds_toArray, List.set_cons_zero, List.set_cons_succ]) | (apply wpPlan_skip; rfl; rfl; simp only [Act.put, List.setIfInBounds_toArray, List.set_cons_zero, List.set_cons_succ]) | (apply wpPlan_pass; rfl; rfl; assumption; simp only [Act.put, List.setIfInBounds_toArray, List.set_cons_zero, List.set_cons_succ]))
    replace hB := hB.drew
    first
      | (apply wpPlan_call2; rfl; rfl; rfl; rfl; kernel_rfl; exact need_yes 23 p _; rfl; rintro e w' ⟨rfl, rfl⟩
         refine .inl ⟨_, rfl, HS, ?_⟩
         simp only [Act.put, List.setIfInBounds_toArray, List.set_cons_zero, List.set_cons_succ]
         apply wpPlan_done
         go_wp2
         go_ret
         exact RuleRes.ok_ (by rw [H.out]; simp [needM]) rfl hB)
      | (apply wpPlan_call2; rfl; rfl; rfl; rfl; kernel_rfl; exact need_no 23 p _; rfl; rintro e w' ⟨rfl, rfl⟩
         refine .inr ⟨_, rfl, ?_⟩
         exact ⟨rfl, RuleRes.bad (by simp [needM, H.out]) hB⟩)
    
set_option maxHeartbeats 1600000 in
theorem cons_any (cp : Value) (k kd n : Int) (s t u : ByteArray) (l c : Int) (x y : Ty) (hy : y.fits) (g cap p : Nat) (w : World) (hkx : w.cell? ⟨g, 1, none⟩ = some (.string x.str)) (hky : w.cell? ⟨g, 0, none⟩ = some (.string y.str)):
    Calls Try.prog 40 #[cp, (Nd.mk k kd n s t u l c).val, .slice (some ⟨g, 0, none⟩) 2 cap, .int .i64 p] w (RuleRes (needM (x == Ty.list y) 23 x) p w) := by
  unfold Nd.val Nd.cells
  have hB0 : ∀ o, Below w.heap.size w (w.alloc o) := fun o => (Below.refl _ _).alloc (Nat.le_refl _) o
  have hs := str_size_le hy
  have hl := str_list1 y
  have hs3 : (Ty.list y).str.size ≤ 65 := by rw [str_size]; have := hy; unfold Ty.fits at this; simp [Ty.enc]; omega
  have he := str_eqv x (Ty.list y)
  by_cases h : x = Ty.list y
  all_goals
    first
      | rw [decide_eq_true h] at he
      | rw [decide_eq_false h] at he
    have H := Lib.hid h
    clear h
    go_enter Try.func40, Try.ntmps40
    go_wp2_with fail
    refine wp_region_plan (S := fun w' => w'.cell? ⟨g, 1, none⟩ = some (.string x.str) ∧ w'.cell? ⟨g, 0, none⟩ = some (.string y.str) ∧ Below w.heap.size w w')
      [(0, true), (1, true), (2, true), (3, true), (4, true), (5, true), (6, true), (7, true), (8, true), (9, false)] (by kernel_rfl) (by kernel_rfl) (by kernel_rfl) (fun _ _ _ _ _ h => h) ⟨cell_later (hB0 _).drew hkx, cell_later (hB0 _).drew hky, (hB0 _).drew⟩ ?_
    intro HS
    have hB := HS.2.2
    have hr2 := HS.1
    have hr3 := HS.2.1
    clear hkx hky
    repeat (first | (apply wpPlan_look; rfl; rfl; (intro wq hq; (try dsimp only at hq); go_split_ands; go_simp; (try rw [if_neg (by omega)]); try with_reducible rfl); simp only [Act.put, List.setIfInBounds_toArray, List.set_cons_zero, List.set_cons_succ]) | (apply wpPlan_skip; rfl; rfl; simp only [Act.put, List.setIfInBounds_toArray, List.set_cons_zero, List.set_cons_succ]) | (apply wpPlan_pass; rfl; rfl; assumption; simp only [Act.put, List.setIfInBounds_toArray, List.set_cons_zero, List.set_cons_succ]))
    first
      | (apply wpPlan_call2; rfl; rfl; rfl; rfl; kernel_rfl; exact need_yes 23 p _; rfl; rintro e w' ⟨rfl, rfl⟩
         refine .inl ⟨_, rfl, HS, ?_⟩
         simp only [Act.put, List.setIfInBounds_toArray, List.set_cons_zero, List.set_cons_succ]
         apply wpPlan_done
         go_wp2
         go_ret
         exact RuleRes.ok_ (by rw [H.out]; simp [needM]) rfl hB)
      | (apply wpPlan_call2; rfl; rfl; rfl; rfl; kernel_rfl; exact need_no 23 p _; rfl; rintro e w' ⟨rfl, rfl⟩
         refine .inr ⟨_, rfl, ?_⟩
         exact ⟨rfl, RuleRes.bad (by simp [needM, H.out]) hB⟩)
set_option maxHeartbeats 1600000 in
theorem set_any (cp : Value) (k kd n : Int) (s t u : ByteArray) (l c : Int) (x y : Ty) (hy : y.fits) (g cap p : Nat) (w : World) (hkx : w.cell? ⟨g, 0, none⟩ = some (.string x.str)) (hky : w.cell? ⟨g, 1, none⟩ = some (.string y.str)):
    Calls Try.prog 43 #[cp, (Nd.mk k kd n s t u l c).val, .slice (some ⟨g, 0, none⟩) 2 cap, .int .i64 p] w (RuleRes (needM (x == Ty.box y) 23 y) p w) := by
  unfold Nd.val Nd.cells
  have hB0 : ∀ o, Below w.heap.size w (w.alloc o) := fun o => (Below.refl _ _).alloc (Nat.le_refl _) o
  have hs := str_size_le hy
  have hl := str_box1 y
  have hs3 : (Ty.box y).str.size ≤ 65 := by rw [str_size]; have := hy; unfold Ty.fits at this; simp [Ty.enc]; omega
  have he := str_eqv x (Ty.box y)
  by_cases h : x = Ty.box y
  all_goals
    first
      | rw [decide_eq_true h] at he
      | rw [decide_eq_false h] at he
    have H := Lib.hid h
    clear h
    go_enter Try.func43, Try.ntmps43
    go_wp2_with fail
    refine wp_region_plan (S := fun w' => w'.cell? ⟨g, 0, none⟩ = some (.string x.str) ∧ w'.cell? ⟨g, 1, none⟩ = some (.string y.str) ∧ Below w.heap.size w w')
      [(0, true), (1, true), (2, true), (3, true), (4, true), (5, true), (6, true), (7, true), (8, true), (9, false)] (by kernel_rfl) (by kernel_rfl) (by kernel_rfl) (fun _ _ _ _ _ h => h) ⟨cell_later (hB0 _).drew hkx, cell_later (hB0 _).drew hky, (hB0 _).drew⟩ ?_
    intro HS
    have hB := HS.2.2
    have hr2 := HS.1
    have hr3 := HS.2.1
    clear hkx hky
    repeat (first | (apply wpPlan_look; rfl; rfl; (intro wq hq; (try dsimp only at hq); go_split_ands; go_simp; (try rw [if_neg (by omega)]); try with_reducible rfl); simp only [Act.put, List.setIfInBounds_toArray, List.set_cons_zero, List.set_cons_succ]) | (apply wpPlan_skip; rfl; rfl; simp only [Act.put, List.setIfInBounds_toArray, List.set_cons_zero, List.set_cons_succ]) | (apply wpPlan_pass; rfl; rfl; assumption; simp only [Act.put, List.setIfInBounds_toArray, List.set_cons_zero, List.set_cons_succ]))
    first
      | (apply wpPlan_call2; rfl; rfl; rfl; rfl; kernel_rfl; exact need_yes 23 p _; rfl; rintro e w' ⟨rfl, rfl⟩
         refine .inl ⟨_, rfl, HS, ?_⟩
         simp only [Act.put, List.setIfInBounds_toArray, List.set_cons_zero, List.set_cons_succ]
         apply wpPlan_done
         go_wp2
         go_ret
         exact RuleRes.ok_ (by rw [H.out]; simp [needM]) rfl hB)
      | (apply wpPlan_call2; rfl; rfl; rfl; rfl; kernel_rfl; exact need_no 23 p _; rfl; rintro e w' ⟨rfl, rfl⟩
         refine .inr ⟨_, rfl, ?_⟩
         exact ⟨rfl, RuleRes.bad (by simp [needM, H.out]) hB⟩)

set_option maxHeartbeats 1600000 in
theorem pair_any (cp : Value) (k kd n : Int) (s t u : ByteArray) (l c : Int) (x y : Ty) (hx : x.fits) (hy : y.fits) (g cap p : Nat) (w : World) (hkx : w.cell? ⟨g, 0, none⟩ = some (.string x.str)) (hky : w.cell? ⟨g, 1, none⟩ = some (.string y.str)) :
    Calls Try.prog 36 #[cp, (Nd.mk k kd n s t u l c).val, .slice (some ⟨g, 0, none⟩) 2 cap, .int .i64 p] w (RuleRes (madeM (.pair x y)) p w) := by
  unfold Nd.val Nd.cells
  have hB0 : ∀ o, Below w.heap.size w (w.alloc o) := fun o => (Below.refl _ _).alloc (Nat.le_refl _) o
  have hs := str_size_le hx
  have hs2 := str_size_le hy
  have hl := str_pair x y
  go_enter Try.func36, Try.ntmps36
  go_wp2_with fail
  refine wp_region_plan (S := fun w' => w'.cell? ⟨g, 0, none⟩ = some (.string x.str) ∧ w'.cell? ⟨g, 1, none⟩ = some (.string y.str) ∧ Below w.heap.size w w')
    [(0, true), (1, true), (2, true), (3, true), (4, true), (5, true), (6, true), (7, true), (8, true), (9, true), (10, false), (11, true)] (by kernel_rfl) (by kernel_rfl) (by kernel_rfl) (fun _ _ _ _ _ h => h) ⟨cell_later (hB0 _).drew hkx, cell_later (hB0 _).drew hky, (hB0 _).drew⟩ ?_
  intro HS
  repeat (first | (apply wpPlan_look; rfl; rfl; (intro wq hq; (try dsimp only at hq); go_split_ands; go_simp; (try rw [if_neg (by omega)]); try with_reducible rfl); simp only [Act.put, List.setIfInBounds_toArray, List.set_cons_zero, List.set_cons_succ]) | (apply wpPlan_skip; rfl; rfl; simp only [Act.put, List.setIfInBounds_toArray, List.set_cons_zero, List.set_cons_succ]) | (apply wpPlan_pass; rfl; rfl; assumption; simp only [Act.put, List.setIfInBounds_toArray, List.set_cons_zero, List.set_cons_succ]))
  apply wpPlan_call2; rfl; rfl; rfl; rfl; kernel_rfl; exact made_any cp (.pair x y) p _; rfl
  cases hm : madeM (.pair x y) with
  | ok t0 =>
    rintro e w' ⟨hb, rfl⟩
    have hB := below_later hb HS.2.2
    refine .inl ⟨_, rfl, as_S ⟨cell_later hb HS.1, cell_later hb HS.2.1, hB⟩ ?_⟩
    clear hb HS
    intro HS
    simp only [Act.put, List.setIfInBounds_toArray, List.set_cons_zero, List.set_cons_succ]
    repeat (first | (apply wpPlan_look; rfl; rfl; (intro wq hq; (try dsimp only at hq); go_split_ands; go_simp; (try rw [if_neg (by omega)]); try with_reducible rfl); simp only [Act.put, List.setIfInBounds_toArray, List.set_cons_zero, List.set_cons_succ]) | (apply wpPlan_skip; rfl; rfl; simp only [Act.put, List.setIfInBounds_toArray, List.set_cons_zero, List.set_cons_succ]) | (apply wpPlan_pass; rfl; rfl; assumption; simp only [Act.put, List.setIfInBounds_toArray, List.set_cons_zero, List.set_cons_succ]))
    apply wpPlan_done
    go_wp2
    go_ret
    exact RuleRes.ok_ hm rfl hB
  | error e0 =>
    rintro e w' ⟨hb, rfl⟩
    have hB := below_later hb HS.2.2
    refine .inr ⟨_, rfl, ?_⟩
    exact ⟨rfl, RuleRes.bad rfl hB⟩
end Go.Proofs.Ytnmhiddahfnkoaa

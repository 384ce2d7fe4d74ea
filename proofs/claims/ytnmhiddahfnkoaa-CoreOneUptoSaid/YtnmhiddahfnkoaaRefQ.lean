/- Walks of the document's answer for layer 10: the rules, more of them. -/
import Derived.Test.YtnmhiddahfnkoaaRefR
namespace Go.Proofs.Ytnmhiddahfnkoaa
set_option linter.unusedSimpArgs false
set_option linter.unusedVariables false
open Go.RowKit Culp

set_option maxRecDepth 100000 in
set_option maxHeartbeats 1600000 in
theorem rr_choice_no (kd n : Int) (s t u : ByteArray) (l c : Int) (a x y : Ty) (b2 : Bool) (h1 : (a.str.toList == [98]) = false) (h2 : (x.str.toList == y.str.toList) = b2) : ∀ (g : Nat) (tv av : Value) (q : Int) (p : Nat) (w : World), WkS g tv q none av w → (∀ s, tv ≠ .string s) → (∀ s, av ≠ .string s) → ∀ gk cap : Nat, w.cell? ⟨gk, 0, none⟩ = some (.string a.str) → w.cell? ⟨gk, 1, none⟩ = some (.string x.str) → w.cell? ⟨gk, 2, none⟩ = some (.string y.str) →
  Calls Try.prog 70 #[.pointer (some ⟨g, 0, none⟩), (Nd.mk 9 kd n s t u l c).val, .slice (some ⟨gk, 0, none⟩) 3 cap, .int .i64 p] w (AskRes g tv q (askS (false) p) av (.string x.str) w) := by
  intro g tv av q p w hw ht ha gk cap hk0 hk1 hk2
  unfold Nd.val Nd.cells
  have hB0 : ∀ o, Below w.heap.size w (w.alloc o) := fun o => (Below.refl _ _).alloc (Nat.le_refl _) o
  have hgk : gk ≠ g := wk_ne (show Wk g tv q 0 0 av w from hw) ht ha hk0
  have j0 : ∀ o, (w.alloc o).cell? ⟨gk, 0, none⟩ = _ := fun o => cell_later (hB0 o) hk0
  have j1 : ∀ o, (w.alloc o).cell? ⟨gk, 1, none⟩ = _ := fun o => cell_later (hB0 o) hk1
  have j2 : ∀ o, (w.alloc o).cell? ⟨gk, 2, none⟩ = _ := fun o => cell_later (hB0 o) hk2
  have HW := Lib.hid (fun o => hw.later (hB0 o))
  clear hw ht ha hk0 hk1 hk2
  go_enter Try.func70, Try.ntmps70
  go_wp2_with fail
  refine wp_region_plan (S := fun w' => w'.cell? ⟨gk, 0, none⟩ = some (.string a.str) ∧ w'.cell? ⟨gk, 1, none⟩ = some (.string x.str) ∧ w'.cell? ⟨gk, 2, none⟩ = some (.string y.str))
    [(0, true), (1, true), (2, true), (3, true), (4, true), (5, true), (6, true), (7, true), (8, true), (9, true), (10, true), (11, true), (12, true), (13, true), (14, true), (15, false)] (by kernel_rfl) (by kernel_rfl) (by kernel_rfl) (fun _ _ _ _ _ h => h) ⟨j0 _, j1 _, j2 _⟩ ?_
  intro HS
  repeat (first | (apply wpPlan_look; rfl; rfl; (intro wq hq; (try dsimp only at hq); go_split_ands; go_simp; (try rw [if_neg (by omega)]); try with_reducible rfl); simp only [Act.put, List.setIfInBounds_toArray, List.set_cons_zero, List.set_cons_succ]) | (apply wpPlan_skip; rfl; rfl; simp only [Act.put, List.setIfInBounds_toArray, List.set_cons_zero, List.set_cons_succ]) | (apply wpPlan_pass; rfl; rfl; assumption; simp only [Act.put, List.setIfInBounds_toArray, List.set_cons_zero, List.set_cons_succ]))
  apply wpPlan_call; rfl; rfl; rfl; rfl; kernel_rfl; exact want_any g tv q none av (false) p _ ((HW.out _).later (Below.refl _ _).drew); rfl; rintro e w' ⟨rfl, hk, hw⟩
  have r0 := hk.cell HS.1 hgk
  have r1 := hk.cell HS.2.1 hgk
  have r2 := hk.cell HS.2.2 hgk
  have HK := Lib.hid ((((Keep.refl g w).alloc _).drew).trans hk)
  have HWn := Lib.hid hw
  refine ⟨_, rfl, ⟨r0, r1, r2⟩, ?_⟩
  clear HS hk hw j0 j1 j2 h1 h2
  simp only [Act.put, List.setIfInBounds_toArray, List.set_cons_zero, List.set_cons_succ]
  apply wpPlan_done
  go_wp2_with fail
  go_ret
  exact ⟨rfl, HK.out, HWn.out⟩
set_option maxRecDepth 100000 in
set_option maxHeartbeats 1600000 in
theorem rr_choice_yes (kd n : Int) (s t u : ByteArray) (l c : Int) (a x y : Ty) (b2 : Bool) (h1 : (a.str.toList == [98]) = true) (h2 : (x.str.toList == y.str.toList) = b2) : ∀ (g : Nat) (tv av : Value) (q : Int) (p : Nat) (w : World), WkS g tv q none av w → (∀ s, tv ≠ .string s) → (∀ s, av ≠ .string s) → ∀ gk cap : Nat, w.cell? ⟨gk, 0, none⟩ = some (.string a.str) → w.cell? ⟨gk, 1, none⟩ = some (.string x.str) → w.cell? ⟨gk, 2, none⟩ = some (.string y.str) →
  Calls Try.prog 70 #[.pointer (some ⟨g, 0, none⟩), (Nd.mk 9 kd n s t u l c).val, .slice (some ⟨gk, 0, none⟩) 3 cap, .int .i64 p] w (AskRes g tv q (askS (b2) p) av (.string x.str) w) := by
  intro g tv av q p w hw ht ha gk cap hk0 hk1 hk2
  unfold Nd.val Nd.cells
  have hB0 : ∀ o, Below w.heap.size w (w.alloc o) := fun o => (Below.refl _ _).alloc (Nat.le_refl _) o
  have hgk : gk ≠ g := wk_ne (show Wk g tv q 0 0 av w from hw) ht ha hk0
  have j0 : ∀ o, (w.alloc o).cell? ⟨gk, 0, none⟩ = _ := fun o => cell_later (hB0 o) hk0
  have j1 : ∀ o, (w.alloc o).cell? ⟨gk, 1, none⟩ = _ := fun o => cell_later (hB0 o) hk1
  have j2 : ∀ o, (w.alloc o).cell? ⟨gk, 2, none⟩ = _ := fun o => cell_later (hB0 o) hk2
  have HW := Lib.hid (fun o => hw.later (hB0 o))
  clear hw ht ha hk0 hk1 hk2
  go_enter Try.func70, Try.ntmps70
  go_wp2_with fail
  refine wp_region_plan (S := fun w' => w'.cell? ⟨gk, 0, none⟩ = some (.string a.str) ∧ w'.cell? ⟨gk, 1, none⟩ = some (.string x.str) ∧ w'.cell? ⟨gk, 2, none⟩ = some (.string y.str))
    [(0, true), (1, true), (2, true), (3, true), (4, true), (5, true), (6, true), (7, true), (8, true), (9, true), (10, true), (11, true), (12, true), (13, true), (14, true), (15, false)] (by kernel_rfl) (by kernel_rfl) (by kernel_rfl) (fun _ _ _ _ _ h => h) ⟨j0 _, j1 _, j2 _⟩ ?_
  intro HS
  repeat (first | (apply wpPlan_look; rfl; rfl; (intro wq hq; (try dsimp only at hq); go_split_ands; go_simp; (try rw [if_neg (by omega)]); try with_reducible rfl); simp only [Act.put, List.setIfInBounds_toArray, List.set_cons_zero, List.set_cons_succ]) | (apply wpPlan_skip; rfl; rfl; simp only [Act.put, List.setIfInBounds_toArray, List.set_cons_zero, List.set_cons_succ]) | (apply wpPlan_pass; rfl; rfl; assumption; simp only [Act.put, List.setIfInBounds_toArray, List.set_cons_zero, List.set_cons_succ]))
  apply wpPlan_call; rfl; rfl; rfl; rfl; kernel_rfl; exact want_any g tv q none av (b2) p _ ((HW.out _).later (Below.refl _ _).drew); rfl; rintro e w' ⟨rfl, hk, hw⟩
  have r0 := hk.cell HS.1 hgk
  have r1 := hk.cell HS.2.1 hgk
  have r2 := hk.cell HS.2.2 hgk
  have HK := Lib.hid ((((Keep.refl g w).alloc _).drew).trans hk)
  have HWn := Lib.hid hw
  refine ⟨_, rfl, ⟨r0, r1, r2⟩, ?_⟩
  clear HS hk hw j0 j1 j2 h1 h2
  simp only [Act.put, List.setIfInBounds_toArray, List.set_cons_zero, List.set_cons_succ]
  apply wpPlan_done
  go_wp2_with fail
  go_ret
  exact ⟨rfl, HK.out, HWn.out⟩

/-- A fault of a type that is made, if it is too long. -/
def madeS (t : Ty) (s : Option Flt) (p : Nat) : Option Flt := if t.enc.length ≤ 64 then s else failS s (21, p)

set_option maxRecDepth 100000 in
set_option maxHeartbeats 1600000 in
theorem rr_box (kd n : Int) (s t u : ByteArray) (l c : Int) (a : Ty) (hq : a.fits) : ∀ (g : Nat) (tv av : Value) (q : Int) (p : Nat) (w : World), WkS g tv q none av w → (∀ s, tv ≠ .string s) → (∀ s, av ≠ .string s) → ∀ gk cap : Nat, w.cell? ⟨gk, 0, none⟩ = some (.string a.str) →
  Calls Try.prog 70 #[.pointer (some ⟨g, 0, none⟩), (Nd.mk 26 kd n s t u l c).val, .slice (some ⟨gk, 0, none⟩) 1 cap, .int .i64 p] w (AskRes g tv q (madeS (.box a) none p) av (.string (Ty.box a).str) w) := by
  intro g tv av q p w hw ht ha gk cap hk0
  unfold Nd.val Nd.cells
  have hB0 : ∀ o, Below w.heap.size w (w.alloc o) := fun o => (Below.refl _ _).alloc (Nat.le_refl _) o
  have hgw : g < w.heap.size := Wk.lt (show Wk g tv q 0 0 av w from hw)
  have hgk : gk ≠ g := wk_ne (show Wk g tv q 0 0 av w from hw) ht ha hk0
  have j0 : ∀ o, (w.alloc o).cell? ⟨gk, 0, none⟩ = _ := fun o => cell_later (hB0 o) hk0
  have HW := Lib.hid (fun o => hw.later (hB0 o))
  clear hw ht ha
  have hs := str_size_le hq
  have hl := str_box1 a
  clear hk0
  go_enter Try.func70, Try.ntmps70
  go_wp2_with fail
  refine (rmade_any g tv q none av (.box a) p _ (HW.out _)).mono ?_
  rintro e w' ⟨rfl, hk, hw⟩
  have HK := Lib.hid (((Keep.refl g w).alloc _).trans hk)
  have HWn := Lib.hid hw
  have r0 := hk.cell (j0 _) hgk
  clear hk hw j0 r0 hl
  go_wp2_with fail
  go_ret
  exact ⟨rfl, HK.out, HWn.out⟩

set_option maxRecDepth 100000 in
set_option maxHeartbeats 1600000 in
theorem rr_pair (kd n : Int) (s t u : ByteArray) (l c : Int) (a d : Ty) (hq : a.fits) (hd : d.fits) : ∀ (g : Nat) (tv av : Value) (q : Int) (p : Nat) (w : World), WkS g tv q none av w → (∀ s, tv ≠ .string s) → (∀ s, av ≠ .string s) → ∀ gk cap : Nat, w.cell? ⟨gk, 0, none⟩ = some (.string a.str) → w.cell? ⟨gk, 1, none⟩ = some (.string d.str) →
  Calls Try.prog 70 #[.pointer (some ⟨g, 0, none⟩), (Nd.mk 18 kd n s t u l c).val, .slice (some ⟨gk, 0, none⟩) 2 cap, .int .i64 p] w (AskRes g tv q (madeS (.pair a d) none p) av (.string (Ty.pair a d).str) w) := by
  intro g tv av q p w hw ht ha gk cap hk0 hk1
  unfold Nd.val Nd.cells
  have hB0 : ∀ o, Below w.heap.size w (w.alloc o) := fun o => (Below.refl _ _).alloc (Nat.le_refl _) o
  have hgw : g < w.heap.size := Wk.lt (show Wk g tv q 0 0 av w from hw)
  have hgk : gk ≠ g := wk_ne (show Wk g tv q 0 0 av w from hw) ht ha hk0
  have j0 : ∀ o, (w.alloc o).cell? ⟨gk, 0, none⟩ = _ := fun o => cell_later (hB0 o) hk0
  have j1 : ∀ o, (w.alloc o).cell? ⟨gk, 1, none⟩ = _ := fun o => cell_later (hB0 o) hk1
  have HW := Lib.hid (fun o => hw.later (hB0 o))
  clear hw ht ha
  have hs := str_size_le hq
  have hs2 := str_size_le hd
  have hl := str_pair a d
  clear hk0 hk1
  go_enter Try.func70, Try.ntmps70
  go_wp2_with fail
  refine wp_region_plan (S := fun w' => w'.cell? ⟨gk, 0, none⟩ = some (.string a.str) ∧ w'.cell? ⟨gk, 1, none⟩ = some (.string d.str))
    [(0, true), (1, true), (2, true), (3, true), (4, true), (5, true), (6, true), (7, true), (8, true), (9, true), (10, false), (11, true)] (by kernel_rfl) (by kernel_rfl) (by kernel_rfl) (fun _ _ _ _ _ h => h) ⟨j0 _, j1 _⟩ ?_
  intro HS
  repeat (first | (apply wpPlan_look; rfl; rfl; (intro wq hq; (try dsimp only at hq); go_split_ands; go_simp; (try rw [if_neg (by omega)]); try with_reducible rfl); simp only [Act.put, List.setIfInBounds_toArray, List.set_cons_zero, List.set_cons_succ]) | (apply wpPlan_skip; rfl; rfl; simp only [Act.put, List.setIfInBounds_toArray, List.set_cons_zero, List.set_cons_succ]) | (apply wpPlan_pass; rfl; rfl; assumption; simp only [Act.put, List.setIfInBounds_toArray, List.set_cons_zero, List.set_cons_succ]))
  apply wpPlan_call; rfl; rfl; rfl; rfl; kernel_rfl; exact rmade_any g tv q none av (.pair a d) p _ ((HW.out _).later (Below.refl _ _).drew); rfl; rintro e w' ⟨rfl, hk, hw⟩
  have r0 := hk.cell HS.1 hgk
  have r1 := hk.cell HS.2 hgk
  have HK := Lib.hid ((((Keep.refl g w).alloc _).drew).trans hk)
  have HWn := Lib.hid hw
  refine ⟨_, rfl, as_S ⟨r0, r1⟩ ?_⟩
  clear HS hk hw j0 j1 hl
  intro HS
  simp only [Act.put, List.setIfInBounds_toArray, List.set_cons_zero, List.set_cons_succ]
  repeat (first | (apply wpPlan_look; rfl; rfl; (intro wq hq; (try dsimp only at hq); go_split_ands; go_simp; (try rw [if_neg (by omega)]); try with_reducible rfl); simp only [Act.put, List.setIfInBounds_toArray, List.set_cons_zero, List.set_cons_succ]) | (apply wpPlan_skip; rfl; rfl; simp only [Act.put, List.setIfInBounds_toArray, List.set_cons_zero, List.set_cons_succ]) | (apply wpPlan_pass; rfl; rfl; assumption; simp only [Act.put, List.setIfInBounds_toArray, List.set_cons_zero, List.set_cons_succ]))
  apply wpPlan_done
  go_wp2_with fail
  go_ret
  exact ⟨rfl, HK.out, HWn.out⟩

theorem all_take (a : Ty) (ks : List Ty) (k : Nat) (h : k < ks.length) : (ks.take (k + 1)).all (· == a) = ((ks.take k).all (· == a) && (ks[k] == a)) := by
  rw [List.take_succ_eq_append_getElem h, List.all_append, List.all_cons, List.all_nil, Bool.and_true]
theorem askS_fail (b1 b2 : Bool) (p : Nat) : (if b2 then askS b1 p else failS (askS b1 p) (23, p)) = askS (b1 && b2) p := by cases b1 <;> cases b2 <;> rfl
set_option maxRecDepth 100000 in
set_option maxHeartbeats 1600000 in
theorem rr_list (kd n : Int) (s u : ByteArray) (l c : Int) (a : Ty) (haf : a.fits) (ks : List Ty) (hlen : ks.length ≤ 100000) : ∀ (g : Nat) (tv av kv : Value) (q : Int) (p : Nat) (w : World), WkS g tv q none av w → (∀ s, tv ≠ .string s) → (∀ s, av ≠ .string s) → Tys w kv ks →
  Calls Try.prog 70 #[.pointer (some ⟨g, 0, none⟩), (Nd.mk 21 kd n s a.str u l c).val, kv, .int .i64 p] w (AskRes g tv q (madeS (.list a) (askS (ks.all (· == a)) p) p) av (.string (Ty.list a).str) w) := by
  intro g tv av kv q p w hw ht ha hks
  unfold Nd.val Nd.cells
  have hgw : g < w.heap.size := Wk.lt (show Wk g tv q 0 0 av w from hw)
  have hB0 : ∀ o, Below w.heap.size w (w.alloc o) := fun o => (Below.refl _ _).alloc (Nat.le_refl _) o
  have HWo := Lib.hid (show Wk g tv q 0 0 av w from hw)
  have HT := Lib.hid ht
  have HA := Lib.hid ha
  have HKS := Lib.hid hks
  obtain ⟨A, cap, rfl⟩ := tys_form hks
  have HW := Lib.hid (fun o => hw.later (hB0 o))
  have hs := str_size_le haf
  have hl := str_list1 a
  clear hw ht ha hks
  go_enter Try.func70, Try.ntmps70
  go_wp2_with fail
  go_loopw [10] (fun i wr => ∃ k : Nat, k ≤ ks.length ∧ i = .int .i64 k ∧ Hid (Keep g w wr) ∧ Hid (WkS g tv q (askS ((ks.take k).all (· == a)) p) av wr) ∧ Hid (wr.cell? ⟨w.heap.size, 4, none⟩ = some (.string a.str))) (fun i _ => ks.length - (intOf i).toNat)
  case atStart => exact ⟨0, by omega, rfl, Lib.hid ((Keep.refl g w).alloc _), Lib.hid (HW.out _), Lib.hid (by rw [World.cell?_alloc_at _ _ _ _ rfl]; rfl)⟩
  case round =>
    obtain ⟨k, hk, rfl, HK, HS, HM⟩ := hrel
    have m4 := HM.out
    by_cases hlt : k < ks.length
    · have hcell : ∃ gk, A = some ⟨gk, 0, none⟩ ∧ gk ≠ g ∧ wr.cell? ⟨gk, k, none⟩ = some (.string (ks[k]).str) := by
        rcases HKS.out with ⟨h1, _⟩ | ⟨gk, _, h1, h2⟩
        · rw [h1] at hlt; simp at hlt
        · simp only [Value.slice.injEq] at h1
          have hne := wk_ne HWo.out HT.out HA.out (h2 k hlt)
          exact ⟨gk, h1.1, hne, HK.out.cell (h2 k hlt) hne⟩
      obtain ⟨gk, rfl, hgk, hc⟩ := hcell
      have hat := all_take a ks k hlt
      generalize ks[k] = x at hc hat
      have he := str_eqv x a
      have hxe : (x == a) = decide (x = a) := by rw [Bool.eq_iff_iff]; simp
      rw [← hxe] at he
      have HAT := Lib.hid hat
      have hgn : w.heap.size ≠ g := by omega
      clear hat hxe
      go_wp2_with fail
      refine wp_region_plan (S := fun w' => w'.cell? ⟨gk, k, none⟩ = some (.string x.str) ∧ w'.cell? ⟨w.heap.size, 4, none⟩ = some (.string a.str))
        [(0, true), (1, true), (2, true), (3, true), (4, true), (5, true), (6, true), (7, true), (8, true), (9, false)] (by kernel_rfl) (by kernel_rfl) (by kernel_rfl) (fun _ _ _ _ _ h => h) ⟨hc, m4⟩ ?_
      intro HSt
      repeat (first | (apply wpPlan_look; rfl; rfl; (intro wq hq; (try dsimp only at hq); go_split_ands; go_simp; (try rw [if_neg (by omega)]); try with_reducible rfl); simp only [Act.put, List.setIfInBounds_toArray, List.set_cons_zero, List.set_cons_succ]) | (apply wpPlan_skip; rfl; rfl; simp only [Act.put, List.setIfInBounds_toArray, List.set_cons_zero, List.set_cons_succ]) | (apply wpPlan_pass; rfl; rfl; assumption; simp only [Act.put, List.setIfInBounds_toArray, List.set_cons_zero, List.set_cons_succ]))
      apply wpPlan_call; rfl; rfl; rfl; rfl; kernel_rfl; exact want_any g tv q _ av (x == a) p _ (HS.out.later (Below.refl _ _).drew); rfl; rintro e w' ⟨rfl, hk2, hw2⟩
      rw [askS_fail, ← HAT.out] at hw2
      have r0 := hk2.cell HSt.1 hgk
      have r1 := hk2.cell HSt.2 hgn
      have HK2 := Lib.hid ((HK.out.drew).trans hk2)
      have HW2 := Lib.hid hw2
      have HM2 := Lib.hid r1
      refine ⟨_, rfl, ⟨r0, r1⟩, ?_⟩
      clear HSt hk2 hw2 hc m4 r0 r1 he
      simp only [Act.put, List.setIfInBounds_toArray, List.set_cons_zero, List.set_cons_succ]
      apply wpPlan_done
      go_wp2_with fail
      go_roundw
      case rel => exact ⟨k + 1, by omega, by go_num, HK2, HW2, HM2⟩
      case measure => simp [intOf]; omega
    · have Y : Hid ((ks.take k).all (· == a) = ks.all (· == a)) := by rw [Hid, List.take_of_length_le (by omega)]
      have HS2 : Hid (WkS g tv q (askS (ks.all (· == a)) p) av wr) := by rw [Hid, ← Y.out]; exact HS.out
      go_wp2_with fail
      refine (rmade_any g tv q _ av (.list a) p _ HS2.out).mono ?_
      rintro e w' ⟨rfl, hk2, hw2⟩
      have HK2 := Lib.hid (HK.out.trans hk2)
      have HW2 := Lib.hid hw2
      clear hk2 hw2 m4 hl
      go_wp2_with fail
      go_ret
      exact ⟨rfl, HK2.out, HW2.out⟩
end Go.Proofs.Ytnmhiddahfnkoaa

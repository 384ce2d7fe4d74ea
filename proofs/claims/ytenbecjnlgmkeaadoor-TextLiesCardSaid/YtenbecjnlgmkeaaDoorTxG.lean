/- Walks of package text: the reader's place. -/
import Derived.Test.YtenbecjnlgmkeaaDoorTxF
namespace Go.Proofs.YtenbecjnlgmkeaaDoor
set_option linter.unusedSimpArgs false
set_option linter.unusedVariables false
open Go.RowKit Culp

set_option maxHeartbeats 800000 in
theorem place_any (r : Nat) (v m : Value) (at_ line beg : Int) (w : World) (hr : Rd r v at_ line beg m w) (h1 : 0 ≤ at_ ∧ at_ ≤ 1000000000000000) (h2 : 0 ≤ beg ∧ beg ≤ at_) :
    Calls Tryd.prog 32 #[.pointer (some ⟨r, 0, none⟩)] w (Makes (.agg #[.int .i64 line, .int .i64 (at_ - beg + 1)]) w) := by
  obtain ⟨h10, h11⟩ := h1
  obtain ⟨h20, h21⟩ := h2
  have HR := Lib.hid hr
  clear hr
  go_enter Tryd.func32, Tryd.ntmps32
  go_wp2_with fail
  have hr2 := HR.out.later ((Below.refl _ _).alloc (Nat.le_refl _) (.cells #[.int .i64 0, .int .i64 0] 29))
  have w1 : IntKind.i64.wrap (at_ - beg) = at_ - beg := IntWalk.i64_in _ (by omega)
  have w2 : IntKind.i64.wrap (at_ - beg + 1) = at_ - beg + 1 := IntWalk.i64_in _ (by omega)
  refine wp_region_plan (S := fun w' => w'.cell? ⟨r, 1, none⟩ = some (.int .i64 at_) ∧ w'.cell? ⟨r, 2, none⟩ = some (.int .i64 line) ∧ w'.cell? ⟨r, 3, none⟩ = some (.int .i64 beg))
    [(0, true), (1, true), (2, true), (3, true), (4, true), (5, true), (6, true), (7, true), (8, true), (9, true), (10, true), (11, true), (12, true), (13, true), (14, true), (15, false)] (by kernel_rfl) (by kernel_rfl) (by kernel_rfl) (fun _ _ _ _ _ h => h) ⟨hr2.c1, hr2.c2, hr2.c3⟩ ?_
  intro HS
  repeat (first | (apply wpPlan_look; rfl; rfl; (intro wq hq; (try dsimp only at hq); go_split_ands; go_simp; (try rw [if_neg (by omega)]); (try rw [if_pos (by omega)]); try with_reducible rfl); simp only [Act.put, List.setIfInBounds_toArray, List.set_cons_zero, List.set_cons_succ]) | (apply wpPlan_skip; rfl; rfl; simp only [Act.put, List.setIfInBounds_toArray, List.set_cons_zero, List.set_cons_succ]) | (apply wpPlan_pass; rfl; rfl; assumption; simp only [Act.put, List.setIfInBounds_toArray, List.set_cons_zero, List.set_cons_succ]))
  refine wpPlan_run0 rfl rfl (by simp [execOp, go_sem]; rfl) _ (fun _ h => h) ?_ ?_
  · have hr3 := HR.out.later (((Below.refl _ _).alloc (Nat.le_refl _) (.cells #[.int .i64 line, .int .i64 (at_ - beg + 1)] 29)).drew)
    exact ⟨hr3.c1, hr3.c2, hr3.c3⟩
  simp only [Act.put, List.setIfInBounds_toArray, List.set_cons_zero, List.set_cons_succ]
  apply wpPlan_done
  clear w1 w2 hr2
  go_wp2_with fail
  exact bodyPost_ret (v := .agg #[.int .i64 line, .int .i64 (at_ - beg + 1)]) (by simp [results, Tryd.results32, go_sem]) rfl (Makes.mk rfl (((Below.refl _ _).alloc (Nat.le_refl _) _).drew))
end Go.Proofs.YtenbecjnlgmkeaaDoor


/- Walks of trees: which nodes may be. -/
import Derived.Test.YtebameiaeldfiaaGreatDoorTrB
import Derived.Test.YtebameiaeldfiaaGreatDoorNode
import Derived.Deep.Light
namespace Culp
set_option linter.unusedSimpArgs false
set_option linter.unusedVariables false
open Go Go.RowKit
/-- What a call left as it was: two blocks that were made ahead of it. -/
theorem two_blocks {w w' : World} {X R : Array Value} {t : TypeId} (hb : Below ((w.alloc (.cells X t)).alloc (.cells R t)).heap.size ((w.alloc (.cells X t)).alloc (.cells R t)) w') :
    (∀ i u, X[i]? = some u → w'.cell? ⟨w.heap.size, i, none⟩ = some u) ∧ (∀ i u, R[i]? = some u → w'.cell? ⟨w.heap.size + 1, i, none⟩ = some u) ∧ (∀ i, w'.frozen? ⟨w.heap.size + 1, i, none⟩ = false) ∧ Below w.heap.size w w' := by
  have h0 : Below w.heap.size w ((w.alloc (.cells X t)).alloc (.cells R t)) := ((Below.refl _ _).alloc (Nat.le_refl _) _).alloc (by simp) _
  have hs : (w.alloc (.cells X t)).heap.size = w.heap.size + 1 := by simp
  have hX : ((w.alloc (.cells X t)).alloc (.cells R t)).heap[w.heap.size]? = some (.cells X t (0, 0)) := by
    rw [Below.heap_alloc _ _ _ (by rw [hs]; omega)]
    exact (MapKept.heap_alloc w _).1
  have hR : ((w.alloc (.cells X t)).alloc (.cells R t)).heap[w.heap.size + 1]? = some (.cells R t (0, 0)) := by
    rw [← hs]; exact (MapKept.heap_alloc _ _).1
  refine ⟨fun i u hu => cell_later hb ?_, fun i u hu => cell_later hb ?_, fun i => ?_, below_later hb h0⟩
  · simp only [World.cell?, hX]; exact hu
  · simp only [World.cell?, hR]; exact hu
  · have : w'.heap[w.heap.size + 1]? = some (.cells R t (0, 0)) := by rw [hb.block _ (Array.getElem?_eq_some_iff.1 hR).1]; exact hR
    simp [World.frozen?, this]
end Culp
namespace Go.Proofs.YtebameiaeldfiaaGreatDoor
open Go.RowKit Go.Maps Culp

section
variable (kd n : Int) (s t u : ByteArray) (l c : Int) (w : World)
set_option maxRecDepth 100000 in
set_option maxHeartbeats 1600000 in
theorem may_num (hS : Sp w) : Calls Tryz.prog 60 #[.agg #[.int .i8 1, .int .i64 kd, .int .i64 n, .string s, .string t, .string u, .int .i64 l, .int .i64 c]] w (Makes (.bool (Tr.may ⟨1, kd, n, s, t, u, l, c⟩)) w) := by
  skip
  have HS := Lib.hid hS
  clear hS
  go_enter Tryz.func60, Tryz.ntmps60
  go_wp2_with fail
  refine (arities_any 1 _).mono ?_
  rintro e w1 ⟨rfl, rfl⟩
  rw [show Tr.arit 1 = 0 from rfl]
  go_wp2_with fail
  all_goals
    go_ret
    refine Makes.mk ?_ ?_
    · go_light
      simp only [Tr.may, Tr.kOk, Tr.nOk, Tr.sOk, Tr.tOk, Tr.uOk, show Tr.arit 1 = 0 from rfl]
      simp_all [toL'] <;> omega
    · first
        | exact ((Below.refl _ _).alloc (Nat.le_refl _) _).alloc (by simp) _
        | exact (HB.out).setCell (Nat.le_succ _) _
        | exact (((HB.out).setCell (Nat.le_succ _) _).setCell (Nat.le_succ _) _).setCell (Nat.le_succ _) _
set_option maxRecDepth 100000 in
set_option maxHeartbeats 1600000 in
theorem may_truth (hS : Sp w) : Calls Tryz.prog 60 #[.agg #[.int .i8 3, .int .i64 kd, .int .i64 n, .string s, .string t, .string u, .int .i64 l, .int .i64 c]] w (Makes (.bool (Tr.may ⟨3, kd, n, s, t, u, l, c⟩)) w) := by
  have hsh : Op.shift BinOp.shr IntKind.i64 n IntKind.u64 1 = pure (.int .i64 (n / 2 ^ (1 : Int).toNat)) := shift_shr .i64 .u64 n 1 (by decide) (by decide)
  have HS := Lib.hid hS
  clear hS
  go_enter Tryz.func60, Tryz.ntmps60
  go_wp2_with fail
  refine (arities_any 3 _).mono ?_
  rintro e w1 ⟨rfl, rfl⟩
  rw [show Tr.arit 3 = 0 from rfl]
  go_wp2_with fail
  all_goals
    go_ret
    refine Makes.mk ?_ ?_
    · go_light
      simp only [Tr.may, Tr.kOk, Tr.nOk, Tr.sOk, Tr.tOk, Tr.uOk, show Tr.arit 3 = 0 from rfl]
      simp_all [toL'] <;> omega
    · first
        | exact ((Below.refl _ _).alloc (Nat.le_refl _) _).alloc (by simp) _
        | exact (HB.out).setCell (Nat.le_succ _) _
        | exact (((HB.out).setCell (Nat.le_succ _) _).setCell (Nat.le_succ _) _).setCell (Nat.le_succ _) _
set_option maxRecDepth 100000 in
set_option maxHeartbeats 1600000 in
theorem may_as (hS : Sp w) : Calls Tryz.prog 60 #[.agg #[.int .i8 29, .int .i64 kd, .int .i64 n, .string s, .string t, .string u, .int .i64 l, .int .i64 c]] w (Makes (.bool (Tr.may ⟨29, kd, n, s, t, u, l, c⟩)) w) := by
  have HS := Lib.hid hS
  clear hS
  go_enter Tryz.func60, Tryz.ntmps60
  go_wp2_with fail
  refine (arities_any 29 _).mono ?_
  rintro e w1 ⟨rfl, rfl⟩
  rw [show Tr.arit 29 = 1 from rfl]
  go_wp2_with (go_at_call 84; refine (isType_any _ _).mono ?_; rintro e w' ⟨rfl, rfl⟩)
  all_goals
    go_ret
    refine Makes.mk ?_ ?_
    · go_light
      simp only [Tr.may, Tr.kOk, Tr.nOk, Tr.sOk, Tr.tOk, Tr.uOk, show Tr.arit 29 = 1 from rfl]
      simp_all [toL'] <;> omega
    · first
        | exact ((Below.refl _ _).alloc (Nat.le_refl _) _).alloc (by simp) _
        | exact (HB.out).setCell (Nat.le_succ _) _
        | exact (((HB.out).setCell (Nat.le_succ _) _).setCell (Nat.le_succ _) _).setCell (Nat.le_succ _) _
end
end Go.Proofs.YtebameiaeldfiaaGreatDoor

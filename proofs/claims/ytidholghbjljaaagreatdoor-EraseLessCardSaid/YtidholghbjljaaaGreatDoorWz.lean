
/- Texts that were merged. -/
import Derived.Test.YtidholghbjljaaaGreatDoorWe
namespace Go.Proofs.YtidholghbjljaaaGreatDoor
set_option linter.unusedSimpArgs false
set_option linter.unusedVariables false
open Go.RowKit Culp Culp.Er
attribute [local go_sem] Oper.semAt_some
set_option maxRecDepth 100000 in
set_option maxHeartbeats 6400000 in
/-- Where tree.Modules has a word against them, each hands it on. -/
theorem each_bad (L : List Md) (v : Value) (hv : ∃ A n c, v = .slice A n c) (g : Nat) (cap : Array Value) (w : World) (hm : Mods w v L) (hS : Sp w) (hl : L.length ≤ 1000000000000000) (hz : ∀ m ∈ L, MdSz m) (h0 : Mo.mods L ≠ 0) :
    Calls Tryz.prog 37 #[v, .func (.func g) #[] cap] w fun e w' => e = .returned (.int .i64 (Mo.mods L : Nat)) ∧ Below w.heap.size w w' := by
  have HTM : Hid (∀ o, Calls Tryz.prog 88 #[v] (w.alloc o) (Makes (.int .i64 (Mo.mods L : Nat)) (w.alloc o))) := Lib.hid fun o =>
    tModules_any L v (w.alloc o) (hm.later ((Below.refl _ _).alloc (Nat.le_refl _) o)) (hS.later ((Below.refl _ _).alloc (Nat.le_refl _) o)) hl hz
  obtain ⟨A, n, c, rfl⟩ := hv
  have hn : ((Mo.mods L : Nat) : Int) ≠ 0 := by omega
  generalize ((Mo.mods L : Nat) : Int) = z at *
  clear hm hS hl hz h0
  refine (callsIn_wide (n := 9)).1 ?_
  refine callsIn_of_wp_marks Tryz.func37 rfl trivial ?_ rfl
  simp only [Tryz.ntmps37, List.size_toArray, List.length_cons, List.length_nil, Nat.reduceAdd, Nat.reduceSub, Array.replicate_succ, Array.replicate_zero, List.push_toArray, List.append_toArray, List.nil_append, List.cons_append]
  gi_wp2
  refine ⟨trivial, ?_⟩
  refine (callsIn_wide.2 (HTM.out _)).mono ?_
  rintro e w1 ⟨rfl, hb1⟩
  gi_wp2
  exact ⟨_, results_tmp rfl _ _ _, rfl, ((Below.refl _ _).alloc (Nat.le_refl _) _).trans (hb1.mono (by rw [World.size_alloc]; omega))⟩
end Go.Proofs.YtidholghbjljaaaGreatDoor

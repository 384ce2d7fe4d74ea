
/- Walks of trees: which nodes may be: the other kinds, all kinds. -/
import Derived.Test.YtebameiaeldfiaaGreatDoorTrCa
import Derived.Test.YtebameiaeldfiaaGreatDoorTrCb
import Derived.Test.YtebameiaeldfiaaGreatDoorTrCc
namespace Go.Proofs.YtebameiaeldfiaaGreatDoor
set_option linter.unusedSimpArgs false
set_option linter.unusedVariables false
open Go.RowKit Go.Maps Culp

set_option maxRecDepth 100000 in
set_option maxHeartbeats 3200000 in
theorem may_other (k kd n : Int) (s t u : ByteArray) (l c : Int) (w : World) (hS : Sp w) (e1 : (k == 1) = false) (e2 : (k == 2) = false) (e3 : (k == 3) = false) (e4 : (k == 4) = false) (e5 : (k == 5) = false) (e6 : (k == 6) = false) (e8 : (k == 8) = false) (e29 : (k == 29) = false) :
    Calls Tryz.prog 60 #[.agg #[.int .i8 k, .int .i64 kd, .int .i64 n, .string s, .string t, .string u, .int .i64 l, .int .i64 c]] w (Makes (.bool (Tr.may ⟨k, kd, n, s, t, u, l, c⟩)) w) := by
  have HS := Lib.hid hS
  obtain ⟨a, ha⟩ : ∃ a, Tr.arit k = a := ⟨_, rfl⟩
  have HA := Lib.hid ha
  clear hS ha
  go_enter Tryz.func60, Tryz.ntmps60
  go_wp2_with fail
  refine (arities_any k _).mono ?_
  rintro e w1 ⟨rfl, rfl⟩
  rw [HA.out]
  go_wp2_with fail
  all_goals
    go_ret
    refine Makes.mk ?_ (((Below.refl _ _).alloc (Nat.le_refl _) _).alloc (by simp) _)
    go_light
    simp only [Tr.may, Tr.kOk, Tr.nOk, Tr.sOk, Tr.tOk, Tr.uOk, HA.out]
    clear HA
    simp_all [toL'] <;> omega
theorem beq_no {k : Int} {z : Int} (h : k ≠ z) : (k == z) = false := beq_eq_false_iff_ne.2 h
/-- May a node stand in a source's tree, as the program says. -/
theorem may_any (x : Nd) (w : World) (hS : Sp w) (hz : x.s.size ≤ 140737488351232) : Calls Tryz.prog 60 #[x.val] w (Makes (.bool (Tr.may x)) w) := by
  obtain ⟨k, kd, n, s, t, u, l, c⟩ := x
  by_cases h1 : k = 1
  · subst h1; exact may_num kd n s t u l c w hS
  by_cases h2 : k = 2
  · subst h2; exact may_str kd n s t u l c w hS hz
  by_cases h3 : k = 3
  · subst h3; exact may_truth kd n s t u l c w hS
  by_cases h4 : k = 4
  · subst h4; exact may_var kd n s t u l c w hS hz
  by_cases h5 : k = 5
  · subst h5; exact may_fn kd n s t u l c w hS hz
  by_cases h6 : k = 6
  · subst h6; exact may_rec kd n s t u l c w hS hz
  by_cases h8 : k = 8
  · subst h8; exact may_let kd n s t u l c w hS hz
  by_cases h29 : k = 29
  · subst h29; exact may_as kd n s t u l c w hS
  exact may_other k kd n s t u l c w hS (beq_no h1) (beq_no h2) (beq_no h3) (beq_no h4) (beq_no h5) (beq_no h6) (beq_no h8) (beq_no h29)
end Go.Proofs.YtebameiaeldfiaaGreatDoor

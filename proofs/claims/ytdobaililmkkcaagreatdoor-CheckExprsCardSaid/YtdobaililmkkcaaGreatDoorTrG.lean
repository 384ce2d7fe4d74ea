
/- Walks of trees: which nodes may be. -/
import Derived.Test.YtdobaililmkkcaaGreatDoorTrB
import Derived.Test.YtdobaililmkkcaaGreatDoorNode
import Derived.Deep.Light
namespace Culp
set_option linter.unusedSimpArgs false
set_option linter.unusedVariables false
open Go Go.RowKit
/-- What a call left as it was: two blocks that were made ahead of it. -/
theorem two_blocks {w w' : World} {X R : Array Value} {t : TypeId} (hb : Below ((w.alloc (.cells X t)).alloc (.cells R t)).heap.size ((w.alloc (.cells X t)).alloc (.cells R t)) w') :
    (∀ i u, X[i]? = some u → w'.cell? ⟨w.heap.size, i, none⟩ = some u) ∧ (∀ i u, R[i]? = some u → w'.cell? ⟨w.heap.size + 1, i, none⟩ = some u) ∧ (∀ i, w'.frozen? ⟨w.heap.size + 1, i, none⟩ = false) ∧ Below w.heap.size w w' := by
  have h0 : Below w.heap.size w ((w.alloc (.cells X t)).alloc (.cells R t)) := ((Below.refl _ _).alloc (Nat.le_refl _) _).alloc (by simp) _
  have hs : (w.alloc (.cells X t)).heap.size = w.heap.size + 1 := by simp
  have hX : ((w.alloc (.cells X t)).alloc (.cells R t)).heap[w.heap.size]? = some (.cells X t (0, 0)) := by
    rw [Below.heap_alloc _ _ _ (by rw [hs]; omega)]
    exact (MapKept.heap_alloc w _).1
  have hR : ((w.alloc (.cells X t)).alloc (.cells R t)).heap[w.heap.size + 1]? = some (.cells R t (0, 0)) := by
    rw [← hs]; exact (MapKept.heap_alloc _ _).1
  refine ⟨fun i u hu => cell_later hb ?_, fun i u hu => cell_later hb ?_, fun i => ?_, below_later hb h0⟩
  · simp only [World.cell?, hX]; exact hu
  · simp only [World.cell?, hR]; exact hu
  · have : w'.heap[w.heap.size + 1]? = some (.cells R t (0, 0)) := by rw [hb.block _ (Array.getElem?_eq_some_iff.1 hR).1]; exact hR
    simp [World.frozen?, this]
end Culp
namespace Go.Proofs.YtdobaililmkkcaaGreatDoor
set_option linter.unusedSimpArgs false
set_option linter.unusedVariables false
open Go.RowKit Go.Maps Culp

section
variable (kd n : Int) (s t u : ByteArray) (l c : Int) (w : World)
set_option maxRecDepth 100000 in
set_option maxHeartbeats 1600000 in
theorem may_num (hS : Sp w) : Calls Tryz.prog 53 #[.agg #[.int .i8 1, .int .i64 kd, .int .i64 n, .string s, .string t, .string u, .int .i64 l, .int .i64 c]] w (Makes (.bool (Tr.may ⟨1, kd, n, s, t, u, l, c⟩)) w) := by
  skip
  have HS := Lib.hid hS
  clear hS
  go_enter Tryz.func53, Tryz.ntmps53
  go_wp2_with fail
  refine (arities_any 1 _).mono ?_
  rintro e w1 ⟨rfl, rfl⟩
  rw [show Tr.arit 1 = 0 from rfl]
  go_wp2_with fail
  all_goals
    go_ret
    refine Makes.mk ?_ ?_
    · go_light
      simp only [Tr.may, Tr.kOk, Tr.nOk, Tr.sOk, Tr.tOk, Tr.uOk, show Tr.arit 1 = 0 from rfl]
      simp_all [toL'] <;> omega
    · first
        | exact ((Below.refl _ _).alloc (Nat.le_refl _) _).alloc (by simp) _
        | exact (HB.out).setCell (Nat.le_succ _) _
        | exact (((HB.out).setCell (Nat.le_succ _) _).setCell (Nat.le_succ _) _).setCell (Nat.le_succ _) _
set_option maxRecDepth 100000 in
set_option maxHeartbeats 1600000 in
theorem may_truth (hS : Sp w) : Calls Tryz.prog 53 #[.agg #[.int .i8 3, .int .i64 kd, .int .i64 n, .string s, .string t, .string u, .int .i64 l, .int .i64 c]] w (Makes (.bool (Tr.may ⟨3, kd, n, s, t, u, l, c⟩)) w) := by
  have hsh : Op.shift BinOp.shr IntKind.i64 n IntKind.u64 1 = pure (.int .i64 (n / 2 ^ (1 : Int).toNat)) := shift_shr .i64 .u64 n 1 (by decide) (by decide)
  have HS := Lib.hid hS
  clear hS
  go_enter Tryz.func53, Tryz.ntmps53
  go_wp2_with fail
  refine (arities_any 3 _).mono ?_
  rintro e w1 ⟨rfl, rfl⟩
  rw [show Tr.arit 3 = 0 from rfl]
  go_wp2_with fail
  all_goals
    go_ret
    refine Makes.mk ?_ ?_
    · go_light
      simp only [Tr.may, Tr.kOk, Tr.nOk, Tr.sOk, Tr.tOk, Tr.uOk, show Tr.arit 3 = 0 from rfl]
      simp_all [toL'] <;> omega
    · first
        | exact ((Below.refl _ _).alloc (Nat.le_refl _) _).alloc (by simp) _
        | exact (HB.out).setCell (Nat.le_succ _) _
        | exact (((HB.out).setCell (Nat.le_succ _) _).setCell (Nat.le_succ _) _).setCell (Nat.le_succ _) _
set_option maxRecDepth 100000 in
set_option maxHeartbeats 1600000 in
theorem may_as (hS : Sp w) : Calls Tryz.prog 53 #[.agg #[.int .i8 29, .int .i64 kd, .int .i64 n, .string s, .string t, .string u, .int .i64 l, .int .i64 c]] w (Makes (.bool (Tr.may ⟨29, kd, n, s, t, u, l, c⟩)) w) := by
  have HS := Lib.hid hS
  clear hS
  go_enter Tryz.func53, Tryz.ntmps53
  go_wp2_with fail
  refine (arities_any 29 _).mono ?_
  rintro e w1 ⟨rfl, rfl⟩
  rw [show Tr.arit 29 = 1 from rfl]
  go_wp2_with (go_at_call 69; refine (isType_any _ _).mono ?_; rintro e w' ⟨rfl, rfl⟩)
  all_goals
    go_ret
    refine Makes.mk ?_ ?_
    · go_light
      simp only [Tr.may, Tr.kOk, Tr.nOk, Tr.sOk, Tr.tOk, Tr.uOk, show Tr.arit 29 = 1 from rfl]
      simp_all [toL'] <;> omega
    · first
        | exact ((Below.refl _ _).alloc (Nat.le_refl _) _).alloc (by simp) _
        | exact (HB.out).setCell (Nat.le_succ _) _
        | exact (((HB.out).setCell (Nat.le_succ _) _).setCell (Nat.le_succ _) _).setCell (Nat.le_succ _) _
end
end Go.Proofs.YtdobaililmkkcaaGreatDoor

/- Walks of trees: which nodes may be: texts. -/
namespace Go.Proofs.YtdobaililmkkcaaGreatDoor
set_option linter.unusedSimpArgs false
set_option linter.unusedVariables false
open Go.RowKit Go.Maps Culp

section
variable (kd n : Int) (s t u : ByteArray) (l c : Int) (w : World)
set_option maxRecDepth 100000 in
set_option maxHeartbeats 1600000 in
theorem may_str (hS : Sp w) (hz : s.size ≤ 140737488351232) : Calls Tryz.prog 53 #[.agg #[.int .i8 2, .int .i64 kd, .int .i64 n, .string s, .string t, .string u, .int .i64 l, .int .i64 c]] w (Makes (.bool (Tr.may ⟨2, kd, n, s, t, u, l, c⟩)) w) := by
  have HS := Lib.hid hS
  clear hS
  go_enter Tryz.func53, Tryz.ntmps53
  go_wp2_with fail
  refine (arities_any 2 _).mono ?_
  rintro e w1 ⟨rfl, rfl⟩
  rw [show Tr.arit 2 = 0 from rfl]
  go_wp2_with fail
  all_goals
    refine (tQuote_any s _ (Nat.le_trans hz (by decide))).mono ?_
    rintro e w2 ⟨hb, hres⟩
    obtain ⟨hx, hr, hf, hbw⟩ := two_blocks hb
    have HB := Lib.hid hbw
    have r0 := hr 0 _ rfl
    have r1 := hr 1 _ rfl
    have r2 := hr 2 _ rfl
    have r3 := hr 3 _ rfl
    have r4 := hr 4 _ rfl
    have r5 := hr 5 _ rfl
    have r6 := hr 6 _ rfl
    have r7 := hr 7 _ rfl
    have f3 := hf 3
    have f4 := hf 4
    have f5 := hf 5
    have x4 := hx 4 _ rfl
    have x5 := hx 5 _ rfl
    clear hb hx hr hf hbw
    cases hq : Tx.quote s.data.toList with
    | none =>
      rw [hq] at hres
      obtain rfl := hres
      go_wp2_with fail
      all_goals
        go_ret
        refine Makes.mk ?_ ?_
        · go_light
          simp only [Tr.may, Tr.kOk, Tr.nOk, Tr.sOk, Tr.tOk, Tr.uOk, show Tr.arit 2 = 0 from rfl]
          simp_all [toL'] <;> omega
        · first
            | exact ((Below.refl _ _).alloc (Nat.le_refl _) _).alloc (by simp) _
            | exact (HB.out).setCell (Nat.le_succ _) _
            | exact (((HB.out).setCell (Nat.le_succ _) _).setCell (Nat.le_succ _) _).setCell (Nat.le_succ _) _
    | some q =>
      rw [hq] at hres
      obtain rfl := hres
      go_wp2_with fail
      all_goals
        go_ret
        refine Makes.mk ?_ ?_
        · go_light
          simp only [Tr.may, Tr.kOk, Tr.nOk, Tr.sOk, Tr.tOk, Tr.uOk, show Tr.arit 2 = 0 from rfl]
          simp_all [toL'] <;> omega
        · first
            | exact ((Below.refl _ _).alloc (Nat.le_refl _) _).alloc (by simp) _
            | exact (HB.out).setCell (Nat.le_succ _) _
            | exact (((HB.out).setCell (Nat.le_succ _) _).setCell (Nat.le_succ _) _).setCell (Nat.le_succ _) _
end
end Go.Proofs.YtdobaililmkkcaaGreatDoor

/- Walks of trees: which nodes may be: functions that call themselves. -/
namespace Go.Proofs.YtdobaililmkkcaaGreatDoor
set_option linter.unusedSimpArgs false
set_option linter.unusedVariables false
open Go.RowKit Go.Maps Culp

section
variable (kd n : Int) (s t u : ByteArray) (l c : Int) (w : World)
set_option maxRecDepth 100000 in
set_option maxHeartbeats 1600000 in
theorem may_rec (hS : Sp w) (hz : s.size ≤ 140737488351232) : Calls Tryz.prog 53 #[.agg #[.int .i8 6, .int .i64 kd, .int .i64 n, .string s, .string t, .string u, .int .i64 l, .int .i64 c]] w (Makes (.bool (Tr.may ⟨6, kd, n, s, t, u, l, c⟩)) w) := by
  have HS := Lib.hid hS
  clear hS
  go_enter Tryz.func53, Tryz.ntmps53
  go_wp2_with fail
  refine (arities_any 6 _).mono ?_
  rintro e w1 ⟨rfl, rfl⟩
  rw [show Tr.arit 6 = 1 from rfl]
  go_wp2_with fail
  all_goals
    refine (two_any s _ hz (HS.out.later (((Below.refl _ _).alloc (Nat.le_refl _) _).alloc (by simp) _))).mono ?_
    rintro e w2 ⟨n1, n2, rfl, hb⟩
    obtain ⟨hx, hr, hf, hbw⟩ := two_blocks hb
    have HB := Lib.hid hbw
    have r0 := hr 0 _ rfl
    have r1 := hr 1 _ rfl
    have r2 := hr 2 _ rfl
    have r3 := hr 3 _ rfl
    have r4 := hr 4 _ rfl
    have r5 := hr 5 _ rfl
    have r6 := hr 6 _ rfl
    have r7 := hr 7 _ rfl
    have f3 := hf 3
    have f4 := hf 4
    have f5 := hf 5
    have x4 := hx 4 _ rfl
    have x5 := hx 5 _ rfl
    clear hb hx hr hf hbw
    go_wp2_with (go_at_call 68; refine (tNote_any _ _).mono ?_; rintro e w' ⟨rfl, rfl⟩)
    all_goals
      go_ret
      refine Makes.mk ?_ ?_
      · go_light
        simp only [Tr.may, Tr.kOk, Tr.nOk, Tr.sOk, Tr.tOk, Tr.uOk, show Tr.arit 6 = 1 from rfl]
        simp_all [toL'] <;> omega
      · first
          | exact ((Below.refl _ _).alloc (Nat.le_refl _) _).alloc (by simp) _
          | exact (HB.out).setCell (Nat.le_succ _) _
          | exact (((HB.out).setCell (Nat.le_succ _) _).setCell (Nat.le_succ _) _).setCell (Nat.le_succ _) _
end
end Go.Proofs.YtdobaililmkkcaaGreatDoor

/- Walks of trees: which nodes may be: names, functions, bindings. -/
namespace Go.Proofs.YtdobaililmkkcaaGreatDoor
set_option linter.unusedSimpArgs false
set_option linter.unusedVariables false
open Go.RowKit Go.Maps Culp

section
variable (kd n : Int) (s t u : ByteArray) (l c : Int) (w : World)
set_option maxRecDepth 100000 in
set_option maxHeartbeats 3200000 in
theorem may_var (hS : Sp w) (hz : s.size ≤ 140737488351232) : Calls Tryz.prog 53 #[.agg #[.int .i8 4, .int .i64 kd, .int .i64 n, .string s, .string t, .string u, .int .i64 l, .int .i64 c]] w (Makes (.bool (Tr.may ⟨4, kd, n, s, t, u, l, c⟩)) w) := by
  have HS := Lib.hid hS
  clear hS
  go_enter Tryz.func53, Tryz.ntmps53
  go_wp2_with fail
  refine (arities_any 4 _).mono ?_
  rintro e w1 ⟨rfl, rfl⟩
  rw [show Tr.arit 4 = 0 from rfl]
  go_wp2_with (first
    | (go_at_call 68; refine (tNote_any _ _).mono ?_; rintro e w' ⟨rfl, rfl⟩)
    | (go_at_call 22; refine (tIsName_any s _ (Nat.le_trans hz (by decide)) (HS.out.later (((Below.refl _ _).alloc (Nat.le_refl _) _).alloc (by simp) _))).mono ?_; rintro e w2 ⟨rfl, hb⟩; obtain ⟨hx, hr, hf, hbw⟩ := two_blocks hb; have HB := Lib.hid hbw; have r0 := hr 0 _ rfl; have r1 := hr 1 _ rfl; have r2 := hr 2 _ rfl; have r3 := hr 3 _ rfl; have r4 := hr 4 _ rfl; have r5 := hr 5 _ rfl; have r6 := hr 6 _ rfl; have r7 := hr 7 _ rfl; have f3 := hf 3; clear hb hx hr hf hbw))
  all_goals
    go_ret
    refine Makes.mk ?_ ?_
    · go_light
      simp only [Tr.may, Tr.kOk, Tr.nOk, Tr.sOk, Tr.tOk, Tr.uOk, show Tr.arit 4 = 0 from rfl]
      simp_all [toL'] <;> omega
    · first
        | exact ((Below.refl _ _).alloc (Nat.le_refl _) _).alloc (by simp) _
        | exact (HB.out).setCell (Nat.le_succ _) _
        | exact (((HB.out).setCell (Nat.le_succ _) _).setCell (Nat.le_succ _) _).setCell (Nat.le_succ _) _
set_option maxRecDepth 100000 in
set_option maxHeartbeats 3200000 in
theorem may_fn (hS : Sp w) (hz : s.size ≤ 140737488351232) : Calls Tryz.prog 53 #[.agg #[.int .i8 5, .int .i64 kd, .int .i64 n, .string s, .string t, .string u, .int .i64 l, .int .i64 c]] w (Makes (.bool (Tr.may ⟨5, kd, n, s, t, u, l, c⟩)) w) := by
  have HS := Lib.hid hS
  clear hS
  go_enter Tryz.func53, Tryz.ntmps53
  go_wp2_with fail
  refine (arities_any 5 _).mono ?_
  rintro e w1 ⟨rfl, rfl⟩
  rw [show Tr.arit 5 = 1 from rfl]
  go_wp2_with (first
    | (go_at_call 68; refine (tNote_any _ _).mono ?_; rintro e w' ⟨rfl, rfl⟩)
    | (go_at_call 22; refine (tIsName_any s _ (Nat.le_trans hz (by decide)) (HS.out.later (((Below.refl _ _).alloc (Nat.le_refl _) _).alloc (by simp) _))).mono ?_; rintro e w2 ⟨rfl, hb⟩; obtain ⟨hx, hr, hf, hbw⟩ := two_blocks hb; have HB := Lib.hid hbw; have r0 := hr 0 _ rfl; have r1 := hr 1 _ rfl; have r2 := hr 2 _ rfl; have r3 := hr 3 _ rfl; have r4 := hr 4 _ rfl; have r5 := hr 5 _ rfl; have r6 := hr 6 _ rfl; have r7 := hr 7 _ rfl; have f3 := hf 3; clear hb hx hr hf hbw))
  all_goals
    go_ret
    refine Makes.mk ?_ ?_
    · go_light
      simp only [Tr.may, Tr.kOk, Tr.nOk, Tr.sOk, Tr.tOk, Tr.uOk, show Tr.arit 5 = 1 from rfl]
      simp_all [toL'] <;> omega
    · first
        | exact ((Below.refl _ _).alloc (Nat.le_refl _) _).alloc (by simp) _
        | exact (HB.out).setCell (Nat.le_succ _) _
        | exact (((HB.out).setCell (Nat.le_succ _) _).setCell (Nat.le_succ _) _).setCell (Nat.le_succ _) _
set_option maxRecDepth 100000 in
set_option maxHeartbeats 3200000 in
theorem may_let (hS : Sp w) (hz : s.size ≤ 140737488351232) : Calls Tryz.prog 53 #[.agg #[.int .i8 8, .int .i64 kd, .int .i64 n, .string s, .string t, .string u, .int .i64 l, .int .i64 c]] w (Makes (.bool (Tr.may ⟨8, kd, n, s, t, u, l, c⟩)) w) := by
  have HS := Lib.hid hS
  clear hS
  go_enter Tryz.func53, Tryz.ntmps53
  go_wp2_with fail
  refine (arities_any 8 _).mono ?_
  rintro e w1 ⟨rfl, rfl⟩
  rw [show Tr.arit 8 = 2 from rfl]
  go_wp2_with (first
    | (go_at_call 68; refine (tNote_any _ _).mono ?_; rintro e w' ⟨rfl, rfl⟩)
    | (go_at_call 22; refine (tIsName_any s _ (Nat.le_trans hz (by decide)) (HS.out.later (((Below.refl _ _).alloc (Nat.le_refl _) _).alloc (by simp) _))).mono ?_; rintro e w2 ⟨rfl, hb⟩; obtain ⟨hx, hr, hf, hbw⟩ := two_blocks hb; have HB := Lib.hid hbw; have r0 := hr 0 _ rfl; have r1 := hr 1 _ rfl; have r2 := hr 2 _ rfl; have r3 := hr 3 _ rfl; have r4 := hr 4 _ rfl; have r5 := hr 5 _ rfl; have r6 := hr 6 _ rfl; have r7 := hr 7 _ rfl; have f3 := hf 3; clear hb hx hr hf hbw))
  all_goals
    go_ret
    refine Makes.mk ?_ ?_
    · go_light
      simp only [Tr.may, Tr.kOk, Tr.nOk, Tr.sOk, Tr.tOk, Tr.uOk, show Tr.arit 8 = 2 from rfl]
      simp_all [toL'] <;> omega
    · first
        | exact ((Below.refl _ _).alloc (Nat.le_refl _) _).alloc (by simp) _
        | exact (HB.out).setCell (Nat.le_succ _) _
        | exact (((HB.out).setCell (Nat.le_succ _) _).setCell (Nat.le_succ _) _).setCell (Nat.le_succ _) _
end
end Go.Proofs.YtdobaililmkkcaaGreatDoor

/- Walks of trees: which nodes may be: the other kinds, all kinds. -/
namespace Go.Proofs.YtdobaililmkkcaaGreatDoor
set_option linter.unusedSimpArgs false
set_option linter.unusedVariables false
open Go.RowKit Go.Maps Culp

set_option maxRecDepth 100000 in
set_option maxHeartbeats 3200000 in
theorem may_other (k kd n : Int) (s t u : ByteArray) (l c : Int) (w : World) (hS : Sp w) (e1 : (k == 1) = false) (e2 : (k == 2) = false) (e3 : (k == 3) = false) (e4 : (k == 4) = false) (e5 : (k == 5) = false) (e6 : (k == 6) = false) (e8 : (k == 8) = false) (e29 : (k == 29) = false) :
    Calls Tryz.prog 53 #[.agg #[.int .i8 k, .int .i64 kd, .int .i64 n, .string s, .string t, .string u, .int .i64 l, .int .i64 c]] w (Makes (.bool (Tr.may ⟨k, kd, n, s, t, u, l, c⟩)) w) := by
  have HS := Lib.hid hS
  obtain ⟨a, ha⟩ : ∃ a, Tr.arit k = a := ⟨_, rfl⟩
  have HA := Lib.hid ha
  clear hS ha
  go_enter Tryz.func53, Tryz.ntmps53
  go_wp2_with fail
  refine (arities_any k _).mono ?_
  rintro e w1 ⟨rfl, rfl⟩
  rw [HA.out]
  go_wp2_with fail
  all_goals
    go_ret
    refine Makes.mk ?_ (((Below.refl _ _).alloc (Nat.le_refl _) _).alloc (by simp) _)
    go_light
    simp only [Tr.may, Tr.kOk, Tr.nOk, Tr.sOk, Tr.tOk, Tr.uOk, HA.out]
    clear HA
    simp_all [toL'] <;> omega
theorem beq_no {k : Int} {z : Int} (h : k ≠ z) : (k == z) = false := beq_eq_false_iff_ne.2 h
/-- May a node stand in a source's tree, as the program says. -/
theorem may_any (x : Nd) (w : World) (hS : Sp w) (hz : x.s.size ≤ 140737488351232) : Calls Tryz.prog 53 #[x.val] w (Makes (.bool (Tr.may x)) w) := by
  obtain ⟨k, kd, n, s, t, u, l, c⟩ := x
  by_cases h1 : k = 1
  · subst h1; exact may_num kd n s t u l c w hS
  by_cases h2 : k = 2
  · subst h2; exact may_str kd n s t u l c w hS hz
  by_cases h3 : k = 3
  · subst h3; exact may_truth kd n s t u l c w hS
  by_cases h4 : k = 4
  · subst h4; exact may_var kd n s t u l c w hS hz
  by_cases h5 : k = 5
  · subst h5; exact may_fn kd n s t u l c w hS hz
  by_cases h6 : k = 6
  · subst h6; exact may_rec kd n s t u l c w hS hz
  by_cases h8 : k = 8
  · subst h8; exact may_let kd n s t u l c w hS hz
  by_cases h29 : k = 29
  · subst h29; exact may_as kd n s t u l c w hS
  exact may_other k kd n s t u l c w hS (beq_no h1) (beq_no h2) (beq_no h3) (beq_no h4) (beq_no h5) (beq_no h6) (beq_no h8) (beq_no h29)
end Go.Proofs.YtdobaililmkkcaaGreatDoor

/- Walks of trees, the document's: the two names of a function that calls itself. -/
namespace Go.Proofs.YtdobaililmkkcaaGreatDoor
set_option linter.unusedSimpArgs false
set_option linter.unusedVariables false
open Go.RowKit Go.Maps Culp

/-- What twoNames answers, with the names told. -/
def TwoNm (s : ByteArray) (w : World) (e : Ending) (w' : World) : Prop := ∃ a b : ByteArray, e = .returned (.tuple #[.string a, .string b, .bool (Tr.twoOk s.data.toList)]) ∧ (∀ x y, Tr.two s.data.toList = some (x, y) → a = ⟨x.toArray⟩ ∧ b = ⟨y.toArray⟩) ∧ Below w.heap.size w w'
set_option maxRecDepth 100000 in
set_option maxHeartbeats 1600000 in
theorem rTwo_names (s : ByteArray) (w : World) (hs : s.size ≤ 140737488351232) : Calls Tryz.prog 103 #[.string s] w (TwoNm s w) := by
  go_enter Tryz.func103, Tryz.ntmps103
  go_wp2_with fail
  go_loop [5] (fun i => ∃ k : Nat, k ≤ s.size ∧ i = .int .i64 k ∧ Hid (∀ j : Nat, j < k → s.data.toList[j]? ≠ some 32)) (fun i => s.size - (intOf i).toNat)
  case atStart => exact ⟨0, Nat.zero_le _, rfl, Lib.hid (fun j hj => by omega)⟩
  case round =>
    obtain ⟨k, hk, rfl, HN⟩ := hrel
    by_cases hlt : k < s.size
    · have hg := get_byte' s k hlt
      by_cases hc : s[k].toNat = 32
      · have e32 := eq_lit (n := s[k].toNat) (z := 32) (by omega)
        have h32 : s.data.toList[k]? = some 32 := by rw [hg]; congr 1; exact UInt8.toNat_inj.1 hc
        have HT := Lib.hid (Tr.twoOk_some (Tr.two_some _ k h32 HN.out))
        have HNS : Hid (∀ x y, Tr.two s.data.toList = some (x, y) → s.extract 0 k = ⟨x.toArray⟩ ∧ s.extract (k + 1) s.size = ⟨y.toArray⟩) := Lib.hid (by
          intro x y hxy
          rw [Tr.two_some _ k h32 HN.out] at hxy
          simp only [Option.some.injEq, Prod.mk.injEq] at hxy
          obtain ⟨rfl, rfl⟩ := hxy
          exact ⟨take_ext _ _, drop_ext _ _⟩)
        have r1 : IntKind.i64.wrap ((k : Int) + 1) = (k : Int) + 1 := IntWalk.i64_in _ (by omega)
        have HZ1 : Hid ((s.extract 0 k).size ≤ 140737488351232) := Lib.hid (by rw [take_ext, bs_size, List.length_take, size_list]; omega)
        have HZ2 : Hid ((s.extract (k + 1) s.size).size ≤ 140737488351232) := Lib.hid (by rw [drop_ext, bs_size, List.length_drop, size_list]; omega)
        have h1 : (s.extract 0 k).data.toList = s.data.toList.take k := by rw [take_ext, bs_list]
        have h2 : (s.extract (k + 1) s.size).data.toList = s.data.toList.drop (k + 1) := by rw [drop_ext, bs_list]
        clear hg hc h32 HN
        cases ha : Tx.isName (s.data.toList.take k) with
        | false =>
          have HA : Hid (Tx.isName (s.extract 0 k).data.toList = false) := Lib.hid (by rw [h1]; exact ha)
          rw [ha] at HT
          clear h1 h2 ha
          go_wp2_with fail
          refine wp_region_plan (S := fun w' => Below w.heap.size w w') [(0, true), (1, true), (2, true), (3, true), (4, true), (5, true), (6, true), (7, true), (8, true), (9, true), (10, false), (11, true), (12, true), (13, true), (14, true), (15, true), (16, false), (17, true), (18, true), (19, true), (20, true)] (by kernel_rfl) (by kernel_rfl) (by kernel_rfl) (fun _ _ _ _ _ h => h) (Below.refl _ _).drew ?_
          intro HS
          repeat (first | (apply wpPlan_look; rfl; rfl; (intro wq hq; (try dsimp only at hq); go_split_ands; go_simp; (try rw [if_neg (by omega)]); (try rw [if_pos (by omega)]); try with_reducible rfl); simp only [Act.put, List.setIfInBounds_toArray, List.set_cons_zero, List.set_cons_succ]) | (apply wpPlan_skip; rfl; rfl; simp only [Act.put, List.setIfInBounds_toArray, List.set_cons_zero, List.set_cons_succ]) | (apply wpPlan_pass; rfl; rfl; assumption; simp only [Act.put, List.setIfInBounds_toArray, List.set_cons_zero, List.set_cons_succ]))
          apply wpPlan_call; rfl; rfl; rfl; rfl; kernel_rfl; exact rIsName_any (s.extract 0 k) _ HZ1.out; rfl; rintro e w2 ⟨rfl, hb2⟩
          rw [HA.out]
          have HS2 := below_later hb2 HS
          refine ⟨_, rfl, HS2, ?_⟩
          clear HS hb2
          simp only [Act.put, List.setIfInBounds_toArray, List.set_cons_zero, List.set_cons_succ]
          repeat (first | (apply wpPlan_look; rfl; rfl; (intro wq hq; (try dsimp only at hq); go_split_ands; go_simp; (try rw [if_neg (by omega)]); (try rw [if_pos (by omega)]); try with_reducible rfl); simp only [Act.put, List.setIfInBounds_toArray, List.set_cons_zero, List.set_cons_succ]) | (apply wpPlan_skip; rfl; rfl; simp only [Act.put, List.setIfInBounds_toArray, List.set_cons_zero, List.set_cons_succ]) | (apply wpPlan_pass; rfl; rfl; assumption; simp only [Act.put, List.setIfInBounds_toArray, List.set_cons_zero, List.set_cons_succ]))
          apply wpPlan_done
          go_wp2_with fail
          go_ret3
          exact ⟨s.extract 0 k, s.extract (k + 1) s.size, by rw [HT.out]; rfl, HNS.out, HS2⟩
        | true =>
          have HA : Hid (Tx.isName (s.extract 0 k).data.toList = true) := Lib.hid (by rw [h1]; exact ha)
          rw [ha, Bool.true_and, ← h2] at HT
          clear h1 h2 ha
          go_wp2_with fail
          refine wp_region_plan (S := fun w' => Below w.heap.size w w') [(0, true), (1, true), (2, true), (3, true), (4, true), (5, true), (6, true), (7, true), (8, true), (9, true), (10, false), (11, true), (12, true), (13, true), (14, true), (15, true), (16, false), (17, true), (18, true), (19, true), (20, true)] (by kernel_rfl) (by kernel_rfl) (by kernel_rfl) (fun _ _ _ _ _ h => h) (Below.refl _ _).drew ?_
          intro HS
          repeat (first | (apply wpPlan_look; rfl; rfl; (intro wq hq; (try dsimp only at hq); go_split_ands; go_simp; (try rw [if_neg (by omega)]); (try rw [if_pos (by omega)]); try with_reducible rfl); simp only [Act.put, List.setIfInBounds_toArray, List.set_cons_zero, List.set_cons_succ]) | (apply wpPlan_skip; rfl; rfl; simp only [Act.put, List.setIfInBounds_toArray, List.set_cons_zero, List.set_cons_succ]) | (apply wpPlan_pass; rfl; rfl; assumption; simp only [Act.put, List.setIfInBounds_toArray, List.set_cons_zero, List.set_cons_succ]))
          apply wpPlan_call; rfl; rfl; rfl; rfl; kernel_rfl; exact rIsName_any (s.extract 0 k) _ HZ1.out; rfl; rintro e w2 ⟨rfl, hb2⟩
          rw [HA.out]
          have HS2 := below_later hb2 HS
          refine ⟨_, rfl, HS2, ?_⟩
          clear HS hb2
          simp only [Act.put, List.setIfInBounds_toArray, List.set_cons_zero, List.set_cons_succ]
          repeat (first | (apply wpPlan_look; rfl; rfl; (intro wq hq; (try dsimp only at hq); go_split_ands; go_simp; (try rw [if_neg (by omega)]); (try rw [if_pos (by omega)]); try with_reducible rfl); simp only [Act.put, List.setIfInBounds_toArray, List.set_cons_zero, List.set_cons_succ]) | (apply wpPlan_skip; rfl; rfl; simp only [Act.put, List.setIfInBounds_toArray, List.set_cons_zero, List.set_cons_succ]) | (apply wpPlan_pass; rfl; rfl; assumption; simp only [Act.put, List.setIfInBounds_toArray, List.set_cons_zero, List.set_cons_succ]))
          apply wpPlan_call; rfl; rfl; rfl; rfl; kernel_rfl; exact rIsName_any (s.extract (k + 1) s.size) _ HZ2.out; rfl; rintro e w3 ⟨rfl, hb3⟩
          rw [← HT.out]
          have HS3 := below_later hb3 HS2
          refine ⟨_, rfl, HS3, ?_⟩
          clear HS2 hb3
          simp only [Act.put, List.setIfInBounds_toArray, List.set_cons_zero, List.set_cons_succ]
          repeat (first | (apply wpPlan_look; rfl; rfl; (intro wq hq; (try dsimp only at hq); go_split_ands; go_simp; (try rw [if_neg (by omega)]); (try rw [if_pos (by omega)]); try with_reducible rfl); simp only [Act.put, List.setIfInBounds_toArray, List.set_cons_zero, List.set_cons_succ]) | (apply wpPlan_skip; rfl; rfl; simp only [Act.put, List.setIfInBounds_toArray, List.set_cons_zero, List.set_cons_succ]) | (apply wpPlan_pass; rfl; rfl; assumption; simp only [Act.put, List.setIfInBounds_toArray, List.set_cons_zero, List.set_cons_succ]))
          apply wpPlan_done
          go_wp2_with fail
          go_ret3
          exact ⟨s.extract 0 k, s.extract (k + 1) s.size, rfl, HNS.out, HS3⟩
      · have e32 := ne_lit (n := s[k].toNat) (z := 32) (by omega)
        have HN2 : Hid (∀ j : Nat, j < k + 1 → s.data.toList[j]? ≠ some 32) := Lib.hid (fun j hj => by
          rcases Nat.lt_or_ge j k with h | h
          · exact HN.out j h
          · obtain rfl : j = k := by omega
            rw [hg]; intro e
            injection e with e
            exact hc (by rw [e]; rfl))
        clear hg hc HN
        go_wp2_with fail
        go_round
        case rel => exact ⟨k + 1, by omega, by go_num, HN2⟩
        case measure => simp [intOf]; omega
    · have HTN := Lib.hid (Tr.two_none s.data.toList (fun j => by
        rcases Nat.lt_or_ge j k with h | h
        · exact HN.out j h
        · rw [List.getElem?_eq_none (by rw [size_list]; omega)]; simp))
      have HT := Lib.hid (Tr.twoOk_none HTN.out)
      clear HN
      go_wp2_with fail
      go_ret3
      exact ⟨{ data := #[] }, { data := #[] }, by rw [HT.out]; rfl, (fun x y h => by rw [HTN.out] at h; cases h), Below.refl _ _⟩
theorem rTwo_any (s : ByteArray) (w : World) (hs : s.size ≤ 140737488351232) : Calls Tryz.prog 103 #[.string s] w (TwoRes s w) :=
  (rTwo_names s w hs).mono fun _ _ ⟨a, b, h1, _, h2⟩ => ⟨a, b, h1, h2⟩
end Go.Proofs.YtdobaililmkkcaaGreatDoor

/- Walks of trees, the document's: which nodes may be. -/
namespace Go.Proofs.YtdobaililmkkcaaGreatDoor
set_option linter.unusedSimpArgs false
set_option linter.unusedVariables false
open Go.RowKit Go.Maps Culp

section
variable (kd n : Int) (s t u : ByteArray) (l c : Int) (w : World)
set_option maxRecDepth 100000 in
set_option maxHeartbeats 1600000 in
theorem rmay_num : Calls Tryz.prog 81 #[.agg #[.int .i8 1, .int .i64 kd, .int .i64 n, .string s, .string t, .string u, .int .i64 l, .int .i64 c]] w (Makes (.bool (Tr.may ⟨1, kd, n, s, t, u, l, c⟩)) w) := by
  go_enter Tryz.func81, Tryz.ntmps81
  go_wp2_with fail
  refine (rArity_any 1 _).mono ?_
  rintro e w1 ⟨rfl, rfl⟩
  rw [show arV 1 = .tuple #[.int .i64 0, .bool true] from rfl]
  go_wp2_with fail
  all_goals
    go_ret
    refine Makes.mk ?_ ?_
    · go_light
      simp only [Tr.may, Tr.kOk, Tr.nOk, Tr.sOk, Tr.tOk, Tr.uOk, show Tr.arit 1 = 0 from rfl]
      simp_all [toL'] <;> omega
    · first
        | exact HB.out
        | exact ((Below.refl _ _).alloc (Nat.le_refl _) _).alloc (by simp) _
        | exact (Below.refl _ _).alloc (Nat.le_refl _) _
set_option maxRecDepth 100000 in
set_option maxHeartbeats 1600000 in
theorem rmay_truth : Calls Tryz.prog 81 #[.agg #[.int .i8 3, .int .i64 kd, .int .i64 n, .string s, .string t, .string u, .int .i64 l, .int .i64 c]] w (Makes (.bool (Tr.may ⟨3, kd, n, s, t, u, l, c⟩)) w) := by
  go_enter Tryz.func81, Tryz.ntmps81
  go_wp2_with fail
  refine (rArity_any 3 _).mono ?_
  rintro e w1 ⟨rfl, rfl⟩
  rw [show arV 3 = .tuple #[.int .i64 0, .bool true] from rfl]
  go_wp2_with fail
  all_goals
    go_ret
    refine Makes.mk ?_ ?_
    · go_light
      simp only [Tr.may, Tr.kOk, Tr.nOk, Tr.sOk, Tr.tOk, Tr.uOk, show Tr.arit 3 = 0 from rfl]
      simp_all [toL'] <;> omega
    · first
        | exact HB.out
        | exact ((Below.refl _ _).alloc (Nat.le_refl _) _).alloc (by simp) _
        | exact (Below.refl _ _).alloc (Nat.le_refl _) _
set_option maxRecDepth 100000 in
set_option maxHeartbeats 1600000 in
theorem rmay_as : Calls Tryz.prog 81 #[.agg #[.int .i8 29, .int .i64 kd, .int .i64 n, .string s, .string t, .string u, .int .i64 l, .int .i64 c]] w (Makes (.bool (Tr.may ⟨29, kd, n, s, t, u, l, c⟩)) w) := by
  go_enter Tryz.func81, Tryz.ntmps81
  go_wp2_with fail
  refine (rArity_any 29 _).mono ?_
  rintro e w1 ⟨rfl, rfl⟩
  rw [show arV 29 = .tuple #[.int .i64 1, .bool true] from rfl]
  go_wp2_with (go_at_call 57; refine (rType_any _ _).mono ?_; rintro e w' ⟨rfl, rfl⟩)
  all_goals
    go_ret
    refine Makes.mk ?_ ?_
    · go_light
      simp only [Tr.may, Tr.kOk, Tr.nOk, Tr.sOk, Tr.tOk, Tr.uOk, show Tr.arit 29 = 1 from rfl]
      simp_all [toL'] <;> omega
    · first
        | exact HB.out
        | exact ((Below.refl _ _).alloc (Nat.le_refl _) _).alloc (by simp) _
        | exact (Below.refl _ _).alloc (Nat.le_refl _) _
end
end Go.Proofs.YtdobaililmkkcaaGreatDoor

/- Walks of trees, the document's: which nodes may be: texts, functions that call themselves. -/
namespace Go.Proofs.YtdobaililmkkcaaGreatDoor
set_option linter.unusedSimpArgs false
set_option linter.unusedVariables false
open Go.RowKit Go.Maps Culp

section
variable (kd n : Int) (s t u : ByteArray) (l c : Int) (w : World)
set_option maxRecDepth 100000 in
set_option maxHeartbeats 3200000 in
theorem rmay_str (hz : s.size ≤ 140737488351232) : Calls Tryz.prog 81 #[.agg #[.int .i8 2, .int .i64 kd, .int .i64 n, .string s, .string t, .string u, .int .i64 l, .int .i64 c]] w (Makes (.bool (Tr.may ⟨2, kd, n, s, t, u, l, c⟩)) w) := by
  have HZ : Hid (s.size ≤ 140737488351232) := Lib.hid (Nat.le_trans hz (by decide))
  clear hz
  go_enter Tryz.func81, Tryz.ntmps81
  go_wp2_with fail
  refine (rArity_any 2 _).mono ?_
  rintro e w1 ⟨rfl, rfl⟩
  rw [show arV 2 = .tuple #[.int .i64 0, .bool true] from rfl]
  by_cases hk : 0 = kd
  · subst hk
    go_wp2_with fail
    refine (rQuote_any s _ HZ.out).mono ?_
    rintro e w2 ⟨hb, hres⟩
    obtain ⟨hx, hr, hf, hbw⟩ := two_blocks hb
    have HB := Lib.hid hbw
    have r0 := hr 0 _ rfl
    have r1 := hr 1 _ rfl
    have r2 := hr 2 _ rfl
    have r3 := hr 3 _ rfl
    have r4 := hr 4 _ rfl
    have r5 := hr 5 _ rfl
    have r6 := hr 6 _ rfl
    have r7 := hr 7 _ rfl
    have x0 := hx 0 _ rfl
    have x1 := hx 1 _ rfl
    have x2 := hx 2 _ rfl
    have x3 := hx 3 _ rfl
    have x4 := hx 4 _ rfl
    have x5 := hx 5 _ rfl
    have x6 := hx 6 _ rfl
    have x7 := hx 7 _ rfl
    clear hb hx hr hf hbw
    cases hq : Tx.quote s.data.toList with
    | none =>
      rw [hq] at hres
      obtain rfl := hres
      go_wp2_with fail
      all_goals
        go_ret
        refine Makes.mk ?_ ?_
        · go_light
          simp only [Tr.may, Tr.kOk, Tr.nOk, Tr.sOk, Tr.tOk, Tr.uOk, show Tr.arit 2 = 0 from rfl]
          simp_all [toL'] <;> omega
        · first
            | exact HB.out
            | exact ((Below.refl _ _).alloc (Nat.le_refl _) _).alloc (by simp) _
            | exact (Below.refl _ _).alloc (Nat.le_refl _) _
    | some q =>
      rw [hq] at hres
      obtain rfl := hres
      go_wp2_with fail
      all_goals
        go_ret
        refine Makes.mk ?_ ?_
        · go_light
          simp only [Tr.may, Tr.kOk, Tr.nOk, Tr.sOk, Tr.tOk, Tr.uOk, show Tr.arit 2 = 0 from rfl]
          simp_all [toL'] <;> omega
        · first
            | exact HB.out
            | exact ((Below.refl _ _).alloc (Nat.le_refl _) _).alloc (by simp) _
            | exact (Below.refl _ _).alloc (Nat.le_refl _) _
  · go_wp2_with fail
    all_goals
      go_ret
      refine Makes.mk ?_ ?_
      · go_light
        simp only [Tr.may, Tr.kOk, Tr.nOk, Tr.sOk, Tr.tOk, Tr.uOk, show Tr.arit 2 = 0 from rfl]
        simp_all [toL'] <;> omega
      · first
          | exact HB.out
          | exact ((Below.refl _ _).alloc (Nat.le_refl _) _).alloc (by simp) _
          | exact (Below.refl _ _).alloc (Nat.le_refl _) _
set_option maxRecDepth 100000 in
set_option maxHeartbeats 3200000 in
theorem rmay_rec (hz : s.size ≤ 140737488351232) : Calls Tryz.prog 81 #[.agg #[.int .i8 6, .int .i64 kd, .int .i64 n, .string s, .string t, .string u, .int .i64 l, .int .i64 c]] w (Makes (.bool (Tr.may ⟨6, kd, n, s, t, u, l, c⟩)) w) := by
  go_enter Tryz.func81, Tryz.ntmps81
  go_wp2_with fail
  refine (rArity_any 6 _).mono ?_
  rintro e w1 ⟨rfl, rfl⟩
  rw [show arV 6 = .tuple #[.int .i64 1, .bool true] from rfl]
  by_cases hk : 1 = kd
  · subst hk
    go_wp2_with fail
    refine (rTwo_any s _ hz).mono ?_
    rintro e w2 ⟨n1, n2, rfl, hb⟩
    obtain ⟨hx, hr, hf, hbw⟩ := two_blocks hb
    have HB := Lib.hid hbw
    have r0 := hr 0 _ rfl
    have r1 := hr 1 _ rfl
    have r2 := hr 2 _ rfl
    have r3 := hr 3 _ rfl
    have r4 := hr 4 _ rfl
    have r5 := hr 5 _ rfl
    have r6 := hr 6 _ rfl
    have r7 := hr 7 _ rfl
    have x0 := hx 0 _ rfl
    have x1 := hx 1 _ rfl
    have x2 := hx 2 _ rfl
    have x3 := hx 3 _ rfl
    have x4 := hx 4 _ rfl
    have x5 := hx 5 _ rfl
    have x6 := hx 6 _ rfl
    have x7 := hx 7 _ rfl
    clear hb hx hr hf hbw
    go_wp2_with (go_at_call 102; refine (rNote_any _ _).mono ?_; rintro e w' ⟨rfl, rfl⟩)
    all_goals
      go_ret
      refine Makes.mk ?_ ?_
      · go_light
        simp only [Tr.may, Tr.kOk, Tr.nOk, Tr.sOk, Tr.tOk, Tr.uOk, show Tr.arit 6 = 1 from rfl]
        simp_all [toL'] <;> omega
      · first
          | exact HB.out
          | exact ((Below.refl _ _).alloc (Nat.le_refl _) _).alloc (by simp) _
          | exact (Below.refl _ _).alloc (Nat.le_refl _) _
  · go_wp2_with fail
    all_goals
      go_ret
      refine Makes.mk ?_ ?_
      · go_light
        simp only [Tr.may, Tr.kOk, Tr.nOk, Tr.sOk, Tr.tOk, Tr.uOk, show Tr.arit 6 = 1 from rfl]
        simp_all [toL'] <;> omega
      · first
          | exact HB.out
          | exact ((Below.refl _ _).alloc (Nat.le_refl _) _).alloc (by simp) _
          | exact (Below.refl _ _).alloc (Nat.le_refl _) _
end
end Go.Proofs.YtdobaililmkkcaaGreatDoor

/- Walks of trees, the document's: which nodes may be: names, functions, bindings. -/
namespace Go.Proofs.YtdobaililmkkcaaGreatDoor
set_option linter.unusedSimpArgs false
set_option linter.unusedVariables false
open Go.RowKit Go.Maps Culp

section
variable (kd n : Int) (s t u : ByteArray) (l c : Int) (w : World)
set_option maxRecDepth 100000 in
set_option maxHeartbeats 3200000 in
theorem rmay_var (hz : s.size ≤ 140737488351232) : Calls Tryz.prog 81 #[.agg #[.int .i8 4, .int .i64 kd, .int .i64 n, .string s, .string t, .string u, .int .i64 l, .int .i64 c]] w (Makes (.bool (Tr.may ⟨4, kd, n, s, t, u, l, c⟩)) w) := by
  have HZ : Hid (s.size ≤ 140737488351232) := Lib.hid (Nat.le_trans hz (by decide))
  clear hz
  go_enter Tryz.func81, Tryz.ntmps81
  go_wp2_with fail
  refine (rArity_any 4 _).mono ?_
  rintro e w1 ⟨rfl, rfl⟩
  rw [show arV 4 = .tuple #[.int .i64 0, .bool true] from rfl]
  by_cases hk : 0 = kd
  · subst hk
    go_wp2_with fail
    refine (rIsName_any s _ HZ.out).mono ?_
    rintro e w2 ⟨rfl, hb⟩
    obtain ⟨hx, hr, hf, hbw⟩ := two_blocks hb
    have HB := Lib.hid hbw
    have r0 := hr 0 _ rfl
    have r1 := hr 1 _ rfl
    have r2 := hr 2 _ rfl
    have r3 := hr 3 _ rfl
    have r4 := hr 4 _ rfl
    have r5 := hr 5 _ rfl
    have r6 := hr 6 _ rfl
    have r7 := hr 7 _ rfl
    have x0 := hx 0 _ rfl
    have x1 := hx 1 _ rfl
    have x2 := hx 2 _ rfl
    have x3 := hx 3 _ rfl
    have x4 := hx 4 _ rfl
    have x5 := hx 5 _ rfl
    have x6 := hx 6 _ rfl
    have x7 := hx 7 _ rfl
    clear hb hx hr hf hbw
    go_wp2_with (go_at_call 102; refine (rNote_any _ _).mono ?_; rintro e w' ⟨rfl, rfl⟩)
    all_goals
      go_ret
      refine Makes.mk ?_ ?_
      · go_light
        simp only [Tr.may, Tr.kOk, Tr.nOk, Tr.sOk, Tr.tOk, Tr.uOk, show Tr.arit 4 = 0 from rfl]
        simp_all [toL'] <;> omega
      · first
          | exact HB.out
          | exact ((Below.refl _ _).alloc (Nat.le_refl _) _).alloc (by simp) _
          | exact (Below.refl _ _).alloc (Nat.le_refl _) _
  · go_wp2_with fail
    all_goals
      go_ret
      refine Makes.mk ?_ ?_
      · go_light
        simp only [Tr.may, Tr.kOk, Tr.nOk, Tr.sOk, Tr.tOk, Tr.uOk, show Tr.arit 4 = 0 from rfl]
        simp_all [toL'] <;> omega
      · first
          | exact HB.out
          | exact ((Below.refl _ _).alloc (Nat.le_refl _) _).alloc (by simp) _
          | exact (Below.refl _ _).alloc (Nat.le_refl _) _
set_option maxRecDepth 100000 in
set_option maxHeartbeats 3200000 in
theorem rmay_fn (hz : s.size ≤ 140737488351232) : Calls Tryz.prog 81 #[.agg #[.int .i8 5, .int .i64 kd, .int .i64 n, .string s, .string t, .string u, .int .i64 l, .int .i64 c]] w (Makes (.bool (Tr.may ⟨5, kd, n, s, t, u, l, c⟩)) w) := by
  have HZ : Hid (s.size ≤ 140737488351232) := Lib.hid (Nat.le_trans hz (by decide))
  clear hz
  go_enter Tryz.func81, Tryz.ntmps81
  go_wp2_with fail
  refine (rArity_any 5 _).mono ?_
  rintro e w1 ⟨rfl, rfl⟩
  rw [show arV 5 = .tuple #[.int .i64 1, .bool true] from rfl]
  by_cases hk : 1 = kd
  · subst hk
    go_wp2_with fail
    refine (rIsName_any s _ HZ.out).mono ?_
    rintro e w2 ⟨rfl, hb⟩
    obtain ⟨hx, hr, hf, hbw⟩ := two_blocks hb
    have HB := Lib.hid hbw
    have r0 := hr 0 _ rfl
    have r1 := hr 1 _ rfl
    have r2 := hr 2 _ rfl
    have r3 := hr 3 _ rfl
    have r4 := hr 4 _ rfl
    have r5 := hr 5 _ rfl
    have r6 := hr 6 _ rfl
    have r7 := hr 7 _ rfl
    have x0 := hx 0 _ rfl
    have x1 := hx 1 _ rfl
    have x2 := hx 2 _ rfl
    have x3 := hx 3 _ rfl
    have x4 := hx 4 _ rfl
    have x5 := hx 5 _ rfl
    have x6 := hx 6 _ rfl
    have x7 := hx 7 _ rfl
    clear hb hx hr hf hbw
    go_wp2_with (go_at_call 102; refine (rNote_any _ _).mono ?_; rintro e w' ⟨rfl, rfl⟩)
    all_goals
      go_ret
      refine Makes.mk ?_ ?_
      · go_light
        simp only [Tr.may, Tr.kOk, Tr.nOk, Tr.sOk, Tr.tOk, Tr.uOk, show Tr.arit 5 = 1 from rfl]
        simp_all [toL'] <;> omega
      · first
          | exact HB.out
          | exact ((Below.refl _ _).alloc (Nat.le_refl _) _).alloc (by simp) _
          | exact (Below.refl _ _).alloc (Nat.le_refl _) _
  · go_wp2_with fail
    all_goals
      go_ret
      refine Makes.mk ?_ ?_
      · go_light
        simp only [Tr.may, Tr.kOk, Tr.nOk, Tr.sOk, Tr.tOk, Tr.uOk, show Tr.arit 5 = 1 from rfl]
        simp_all [toL'] <;> omega
      · first
          | exact HB.out
          | exact ((Below.refl _ _).alloc (Nat.le_refl _) _).alloc (by simp) _
          | exact (Below.refl _ _).alloc (Nat.le_refl _) _
set_option maxRecDepth 100000 in
set_option maxHeartbeats 3200000 in
theorem rmay_let (hz : s.size ≤ 140737488351232) : Calls Tryz.prog 81 #[.agg #[.int .i8 8, .int .i64 kd, .int .i64 n, .string s, .string t, .string u, .int .i64 l, .int .i64 c]] w (Makes (.bool (Tr.may ⟨8, kd, n, s, t, u, l, c⟩)) w) := by
  have HZ : Hid (s.size ≤ 140737488351232) := Lib.hid (Nat.le_trans hz (by decide))
  clear hz
  go_enter Tryz.func81, Tryz.ntmps81
  go_wp2_with fail
  refine (rArity_any 8 _).mono ?_
  rintro e w1 ⟨rfl, rfl⟩
  rw [show arV 8 = .tuple #[.int .i64 2, .bool true] from rfl]
  by_cases hk : 2 = kd
  · subst hk
    go_wp2_with fail
    refine (rIsName_any s _ HZ.out).mono ?_
    rintro e w2 ⟨rfl, hb⟩
    obtain ⟨hx, hr, hf, hbw⟩ := two_blocks hb
    have HB := Lib.hid hbw
    have r0 := hr 0 _ rfl
    have r1 := hr 1 _ rfl
    have r2 := hr 2 _ rfl
    have r3 := hr 3 _ rfl
    have r4 := hr 4 _ rfl
    have r5 := hr 5 _ rfl
    have r6 := hr 6 _ rfl
    have r7 := hr 7 _ rfl
    have x0 := hx 0 _ rfl
    have x1 := hx 1 _ rfl
    have x2 := hx 2 _ rfl
    have x3 := hx 3 _ rfl
    have x4 := hx 4 _ rfl
    have x5 := hx 5 _ rfl
    have x6 := hx 6 _ rfl
    have x7 := hx 7 _ rfl
    clear hb hx hr hf hbw
    go_wp2_with (go_at_call 102; refine (rNote_any _ _).mono ?_; rintro e w' ⟨rfl, rfl⟩)
    all_goals
      go_ret
      refine Makes.mk ?_ ?_
      · go_light
        simp only [Tr.may, Tr.kOk, Tr.nOk, Tr.sOk, Tr.tOk, Tr.uOk, show Tr.arit 8 = 2 from rfl]
        simp_all [toL'] <;> omega
      · first
          | exact HB.out
          | exact ((Below.refl _ _).alloc (Nat.le_refl _) _).alloc (by simp) _
          | exact (Below.refl _ _).alloc (Nat.le_refl _) _
  · go_wp2_with fail
    all_goals
      go_ret
      refine Makes.mk ?_ ?_
      · go_light
        simp only [Tr.may, Tr.kOk, Tr.nOk, Tr.sOk, Tr.tOk, Tr.uOk, show Tr.arit 8 = 2 from rfl]
        simp_all [toL'] <;> omega
      · first
          | exact HB.out
          | exact ((Below.refl _ _).alloc (Nat.le_refl _) _).alloc (by simp) _
          | exact (Below.refl _ _).alloc (Nat.le_refl _) _
end
end Go.Proofs.YtdobaililmkkcaaGreatDoor

/- Walks of trees, the document's: which nodes may be: the other kinds. -/
namespace Go.Proofs.YtdobaililmkkcaaGreatDoor
set_option linter.unusedSimpArgs false
set_option linter.unusedVariables false
open Go.RowKit Go.Maps Culp

theorem arV_yes {k a : Int} (h : Tr.arit k = a) (h0 : 0 ≤ a) : arV k = .tuple #[.int .i64 a, .bool true] := by unfold arV; rw [h, if_pos h0]
theorem arV_no {k a : Int} (h : Tr.arit k = a) (h0 : ¬ 0 ≤ a) : arV k = .tuple #[.int .i64 0, .bool false] := by unfold arV; rw [h, if_neg h0]
theorem arit_list {k : Int} (h : k ≠ 21) (h0 : ¬ 0 ≤ Tr.arit k) : Tr.arit k = -2 := by
  unfold Tr.arit at h0 ⊢
  split at h0
  · omega
  split at h0
  · omega
  split at h0
  · omega
  split at h0
  · omega
  · rename_i a b c d
    rw [if_neg a, if_neg b, if_neg c, if_neg d, if_neg h]
set_option maxRecDepth 100000 in
set_option maxHeartbeats 3200000 in
theorem rmay_list (kd n : Int) (s t u : ByteArray) (l c : Int) (w : World) :
    Calls Tryz.prog 81 #[.agg #[.int .i8 21, .int .i64 kd, .int .i64 n, .string s, .string t, .string u, .int .i64 l, .int .i64 c]] w (Makes (.bool (Tr.may ⟨21, kd, n, s, t, u, l, c⟩)) w) := by
  go_enter Tryz.func81, Tryz.ntmps81
  go_wp2_with fail
  refine (rArity_any 21 _).mono ?_
  rintro e w1 ⟨rfl, rfl⟩
  rw [show arV 21 = .tuple #[.int .i64 0, .bool false] from rfl]
  go_wp2_with fail
  all_goals
    go_ret
    refine Makes.mk ?_ ?_
    · go_light
      simp only [Tr.may, Tr.kOk, Tr.nOk, Tr.sOk, Tr.tOk, Tr.uOk, show Tr.arit 21 = -1 from rfl]
      simp_all [toL'] <;> omega
    · first
        | exact HB.out
        | exact ((Below.refl _ _).alloc (Nat.le_refl _) _).alloc (by simp) _
        | exact (Below.refl _ _).alloc (Nat.le_refl _) _
set_option maxRecDepth 100000 in
set_option maxHeartbeats 3200000 in
theorem rmay_other (k kd n : Int) (s t u : ByteArray) (l c : Int) (w : World) (e1 : (k == 1) = false) (e2 : (k == 2) = false) (e3 : (k == 3) = false) (e4 : (k == 4) = false) (e5 : (k == 5) = false) (e6 : (k == 6) = false) (e8 : (k == 8) = false) (e29 : (k == 29) = false) (e21 : (k == 21) = false) :
    Calls Tryz.prog 81 #[.agg #[.int .i8 k, .int .i64 kd, .int .i64 n, .string s, .string t, .string u, .int .i64 l, .int .i64 c]] w (Makes (.bool (Tr.may ⟨k, kd, n, s, t, u, l, c⟩)) w) := by
  have e21' : (k != 21) = true := by rw [bne, e21]; rfl
  obtain ⟨a, ha⟩ : ∃ a, Tr.arit k = a := ⟨_, rfl⟩
  have hl : ¬ 0 ≤ a → a = -2 := fun h => by rw [← ha]; exact arit_list (beq_eq_false_iff_ne.1 e21) (by rw [ha]; exact h)
  have HA := Lib.hid ha
  by_cases h0 : 0 ≤ a
  · have HV := Lib.hid (arV_yes ha h0)
    clear ha hl
    go_enter Tryz.func81, Tryz.ntmps81
    go_wp2_with fail
    refine (rArity_any k _).mono ?_
    rintro e w1 ⟨rfl, rfl⟩
    rw [HV.out]
    clear HV
    go_wp2_with fail
    all_goals
      go_ret
      refine Makes.mk ?_ ?_
      · go_light
        simp only [Tr.may, Tr.kOk, Tr.nOk, Tr.sOk, Tr.tOk, Tr.uOk, HA.out]
        clear HA
        simp_all [toL'] <;> omega
      · first
          | exact ((Below.refl _ _).alloc (Nat.le_refl _) _).alloc (by simp) _
          | exact (Below.refl _ _).alloc (Nat.le_refl _) _
  · have HV := Lib.hid (arV_no ha h0)
    have h2 := hl h0
    have HF : Hid (Tr.may ⟨k, kd, n, s, t, u, l, c⟩ = false) := Lib.hid (by
      simp only [Tr.may, Tr.kOk, ha]
      have : decide (a = -1) = false := decide_eq_false (by omega)
      rw [this]
      by_cases hk : 0 ≤ kd
      · have : decide (a = kd) = false := decide_eq_false (by omega)
        rw [this]; simp
      · rw [decide_eq_false hk]; simp)
    clear ha hl h2 h0
    go_enter Tryz.func81, Tryz.ntmps81
    go_wp2_with fail
    refine (rArity_any k _).mono ?_
    rintro e w1 ⟨rfl, rfl⟩
    rw [HV.out]
    clear HV
    go_wp2_with fail
    all_goals
      go_ret
      exact Makes.mk (by rw [HF.out]; rfl) ((Below.refl _ _).alloc (Nat.le_refl _) _)
end Go.Proofs.YtdobaililmkkcaaGreatDoor

/- Walks of trees, the document's: which nodes may be: all kinds. -/
namespace Go.Proofs.YtdobaililmkkcaaGreatDoor
set_option linter.unusedSimpArgs false
set_option linter.unusedVariables false
open Go.RowKit Go.Maps Culp

/-- May a node stand in a source's tree, as the document says. -/
theorem rmay_any (x : Nd) (w : World) (hz : x.s.size ≤ 140737488351232) : Calls Tryz.prog 81 #[x.val] w (Makes (.bool (Tr.may x)) w) := by
  obtain ⟨k, kd, n, s, t, u, l, c⟩ := x
  by_cases h1 : k = 1
  · subst h1; exact rmay_num kd n s t u l c w
  by_cases h2 : k = 2
  · subst h2; exact rmay_str kd n s t u l c w hz
  by_cases h3 : k = 3
  · subst h3; exact rmay_truth kd n s t u l c w
  by_cases h4 : k = 4
  · subst h4; exact rmay_var kd n s t u l c w hz
  by_cases h5 : k = 5
  · subst h5; exact rmay_fn kd n s t u l c w hz
  by_cases h6 : k = 6
  · subst h6; exact rmay_rec kd n s t u l c w hz
  by_cases h8 : k = 8
  · subst h8; exact rmay_let kd n s t u l c w hz
  by_cases h29 : k = 29
  · subst h29; exact rmay_as kd n s t u l c w
  by_cases h21 : k = 21
  · subst h21; exact rmay_list kd n s t u l c w
  exact rmay_other k kd n s t u l c w (beq_no h1) (beq_no h2) (beq_no h3) (beq_no h4) (beq_no h5) (beq_no h6) (beq_no h8) (beq_no h29) (beq_no h21)
end Go.Proofs.YtdobaililmkkcaaGreatDoor

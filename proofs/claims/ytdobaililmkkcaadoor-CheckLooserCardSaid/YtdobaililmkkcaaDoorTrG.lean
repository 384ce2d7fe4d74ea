
/- Walks of trees: which nodes may be. -/
import Derived.Test.YtdobaililmkkcaaDoorTrB
import Derived.Test.YtdobaililmkkcaaDoorNode
import Derived.Deep.Light
namespace Culp
set_option linter.unusedSimpArgs false
set_option linter.unusedVariables false
open Go Go.RowKit
/-- What a call left as it was: two blocks that were made ahead of it. -/
theorem two_blocks {w w' : World} {X R : Array Value} {t : TypeId} (hb : Below ((w.alloc (.cells X t)).alloc (.cells R t)).heap.size ((w.alloc (.cells X t)).alloc (.cells R t)) w') :
    (∀ i u, X[i]? = some u → w'.cell? ⟨w.heap.size, i, none⟩ = some u) ∧ (∀ i u, R[i]? = some u → w'.cell? ⟨w.heap.size + 1, i, none⟩ = some u) ∧ (∀ i, w'.frozen? ⟨w.heap.size + 1, i, none⟩ = false) ∧ Below w.heap.size w w' := by
  have h0 : Below w.heap.size w ((w.alloc (.cells X t)).alloc (.cells R t)) := ((Below.refl _ _).alloc (Nat.le_refl _) _).alloc (by simp) _
  have hs : (w.alloc (.cells X t)).heap.size = w.heap.size + 1 := by simp
  have hX : ((w.alloc (.cells X t)).alloc (.cells R t)).heap[w.heap.size]? = some (.cells X t (0, 0)) := by
    rw [Below.heap_alloc _ _ _ (by rw [hs]; omega)]
    exact (MapKept.heap_alloc w _).1
  have hR : ((w.alloc (.cells X t)).alloc (.cells R t)).heap[w.heap.size + 1]? = some (.cells R t (0, 0)) := by
    rw [← hs]; exact (MapKept.heap_alloc _ _).1
  refine ⟨fun i u hu => cell_later hb ?_, fun i u hu => cell_later hb ?_, fun i => ?_, below_later hb h0⟩
  · simp only [World.cell?, hX]; exact hu
  · simp only [World.cell?, hR]; exact hu
  · have : w'.heap[w.heap.size + 1]? = some (.cells R t (0, 0)) := by rw [hb.block _ (Array.getElem?_eq_some_iff.1 hR).1]; exact hR
    simp [World.frozen?, this]
end Culp
namespace Go.Proofs.YtdobaililmkkcaaDoor
set_option linter.unusedSimpArgs false
set_option linter.unusedVariables false
open Go.RowKit Go.Maps Culp

section
variable (kd n : Int) (s t u : ByteArray) (l c : Int) (w : World)
set_option maxRecDepth 100000 in
set_option maxHeartbeats 1600000 in
theorem may_num (hS : Sp w) : Calls Tryd.prog 24 #[.agg #[.int .i8 1, .int .i64 kd, .int .i64 n, .string s, .string t, .string u, .int .i64 l, .int .i64 c]] w (Makes (.bool (Tr.may ⟨1, kd, n, s, t, u, l, c⟩)) w) := by
  skip
  have HS := Lib.hid hS
  clear hS
  go_enter Tryd.func24, Tryd.ntmps24
  go_wp2_with fail
  refine (arities_any 1 _).mono ?_
  rintro e w1 ⟨rfl, rfl⟩
  rw [show Tr.arit 1 = 0 from rfl]
  go_wp2_with fail
  all_goals
    go_ret
    refine Makes.mk ?_ ?_
    · go_light
      simp only [Tr.may, Tr.kOk, Tr.nOk, Tr.sOk, Tr.tOk, Tr.uOk, show Tr.arit 1 = 0 from rfl]
      simp_all [toL'] <;> omega
    · first
        | exact ((Below.refl _ _).alloc (Nat.le_refl _) _).alloc (by simp) _
        | exact (HB.out).setCell (Nat.le_succ _) _
        | exact (((HB.out).setCell (Nat.le_succ _) _).setCell (Nat.le_succ _) _).setCell (Nat.le_succ _) _
set_option maxRecDepth 100000 in
set_option maxHeartbeats 1600000 in
theorem may_truth (hS : Sp w) : Calls Tryd.prog 24 #[.agg #[.int .i8 3, .int .i64 kd, .int .i64 n, .string s, .string t, .string u, .int .i64 l, .int .i64 c]] w (Makes (.bool (Tr.may ⟨3, kd, n, s, t, u, l, c⟩)) w) := by
  have hsh : Op.shift BinOp.shr IntKind.i64 n IntKind.u64 1 = pure (.int .i64 (n / 2 ^ (1 : Int).toNat)) := shift_shr .i64 .u64 n 1 (by decide) (by decide)
  have HS := Lib.hid hS
  clear hS
  go_enter Tryd.func24, Tryd.ntmps24
  go_wp2_with fail
  refine (arities_any 3 _).mono ?_
  rintro e w1 ⟨rfl, rfl⟩
  rw [show Tr.arit 3 = 0 from rfl]
  go_wp2_with fail
  all_goals
    go_ret
    refine Makes.mk ?_ ?_
    · go_light
      simp only [Tr.may, Tr.kOk, Tr.nOk, Tr.sOk, Tr.tOk, Tr.uOk, show Tr.arit 3 = 0 from rfl]
      simp_all [toL'] <;> omega
    · first
        | exact ((Below.refl _ _).alloc (Nat.le_refl _) _).alloc (by simp) _
        | exact (HB.out).setCell (Nat.le_succ _) _
        | exact (((HB.out).setCell (Nat.le_succ _) _).setCell (Nat.le_succ _) _).setCell (Nat.le_succ _) _
set_option maxRecDepth 100000 in
set_option maxHeartbeats 1600000 in
theorem may_as (hS : Sp w) : Calls Tryd.prog 24 #[.agg #[.int .i8 29, .int .i64 kd, .int .i64 n, .string s, .string t, .string u, .int .i64 l, .int .i64 c]] w (Makes (.bool (Tr.may ⟨29, kd, n, s, t, u, l, c⟩)) w) := by
  have HS := Lib.hid hS
  clear hS
  go_enter Tryd.func24, Tryd.ntmps24
  go_wp2_with fail
  refine (arities_any 29 _).mono ?_
  rintro e w1 ⟨rfl, rfl⟩
  rw [show Tr.arit 29 = 1 from rfl]
  go_wp2_with (go_at_call 42; refine (isType_any _ _).mono ?_; rintro e w' ⟨rfl, rfl⟩)
  all_goals
    go_ret
    refine Makes.mk ?_ ?_
    · go_light
      simp only [Tr.may, Tr.kOk, Tr.nOk, Tr.sOk, Tr.tOk, Tr.uOk, show Tr.arit 29 = 1 from rfl]
      simp_all [toL'] <;> omega
    · first
        | exact ((Below.refl _ _).alloc (Nat.le_refl _) _).alloc (by simp) _
        | exact (HB.out).setCell (Nat.le_succ _) _
        | exact (((HB.out).setCell (Nat.le_succ _) _).setCell (Nat.le_succ _) _).setCell (Nat.le_succ _) _
end
end Go.Proofs.YtdobaililmkkcaaDoor

/- Walks of trees: which nodes may be: texts. -/
namespace Go.Proofs.YtdobaililmkkcaaDoor
set_option linter.unusedSimpArgs false
set_option linter.unusedVariables false
open Go.RowKit Go.Maps Culp

section
variable (kd n : Int) (s t u : ByteArray) (l c : Int) (w : World)
set_option maxRecDepth 100000 in
set_option maxHeartbeats 1600000 in
theorem may_str (hS : Sp w) (hz : s.size ≤ 140737488351232) : Calls Tryd.prog 24 #[.agg #[.int .i8 2, .int .i64 kd, .int .i64 n, .string s, .string t, .string u, .int .i64 l, .int .i64 c]] w (Makes (.bool (Tr.may ⟨2, kd, n, s, t, u, l, c⟩)) w) := by
  have HS := Lib.hid hS
  clear hS
  go_enter Tryd.func24, Tryd.ntmps24
  go_wp2_with fail
  refine (arities_any 2 _).mono ?_
  rintro e w1 ⟨rfl, rfl⟩
  rw [show Tr.arit 2 = 0 from rfl]
  go_wp2_with fail
  all_goals
    refine (tQuote_any s _ (Nat.le_trans hz (by decide))).mono ?_
    rintro e w2 ⟨hb, hres⟩
    obtain ⟨hx, hr, hf, hbw⟩ := two_blocks hb
    have HB := Lib.hid hbw
    have r0 := hr 0 _ rfl
    have r1 := hr 1 _ rfl
    have r2 := hr 2 _ rfl
    have r3 := hr 3 _ rfl
    have r4 := hr 4 _ rfl
    have r5 := hr 5 _ rfl
    have r6 := hr 6 _ rfl
    have r7 := hr 7 _ rfl
    have f3 := hf 3
    have f4 := hf 4
    have f5 := hf 5
    have x4 := hx 4 _ rfl
    have x5 := hx 5 _ rfl
    clear hb hx hr hf hbw
    cases hq : Tx.quote s.data.toList with
    | none =>
      rw [hq] at hres
      obtain rfl := hres
      go_wp2_with fail
      all_goals
        go_ret
        refine Makes.mk ?_ ?_
        · go_light
          simp only [Tr.may, Tr.kOk, Tr.nOk, Tr.sOk, Tr.tOk, Tr.uOk, show Tr.arit 2 = 0 from rfl]
          simp_all [toL'] <;> omega
        · first
            | exact ((Below.refl _ _).alloc (Nat.le_refl _) _).alloc (by simp) _
            | exact (HB.out).setCell (Nat.le_succ _) _
            | exact (((HB.out).setCell (Nat.le_succ _) _).setCell (Nat.le_succ _) _).setCell (Nat.le_succ _) _
    | some q =>
      rw [hq] at hres
      obtain rfl := hres
      go_wp2_with fail
      all_goals
        go_ret
        refine Makes.mk ?_ ?_
        · go_light
          simp only [Tr.may, Tr.kOk, Tr.nOk, Tr.sOk, Tr.tOk, Tr.uOk, show Tr.arit 2 = 0 from rfl]
          simp_all [toL'] <;> omega
        · first
            | exact ((Below.refl _ _).alloc (Nat.le_refl _) _).alloc (by simp) _
            | exact (HB.out).setCell (Nat.le_succ _) _
            | exact (((HB.out).setCell (Nat.le_succ _) _).setCell (Nat.le_succ _) _).setCell (Nat.le_succ _) _
end
end Go.Proofs.YtdobaililmkkcaaDoor

/- Walks of trees: which nodes may be: functions that call themselves. -/
namespace Go.Proofs.YtdobaililmkkcaaDoor
set_option linter.unusedSimpArgs false
set_option linter.unusedVariables false
open Go.RowKit Go.Maps Culp

section
variable (kd n : Int) (s t u : ByteArray) (l c : Int) (w : World)
set_option maxRecDepth 100000 in
set_option maxHeartbeats 1600000 in
theorem may_rec (hS : Sp w) (hz : s.size ≤ 140737488351232) : Calls Tryd.prog 24 #[.agg #[.int .i8 6, .int .i64 kd, .int .i64 n, .string s, .string t, .string u, .int .i64 l, .int .i64 c]] w (Makes (.bool (Tr.may ⟨6, kd, n, s, t, u, l, c⟩)) w) := by
  have HS := Lib.hid hS
  clear hS
  go_enter Tryd.func24, Tryd.ntmps24
  go_wp2_with fail
  refine (arities_any 6 _).mono ?_
  rintro e w1 ⟨rfl, rfl⟩
  rw [show Tr.arit 6 = 1 from rfl]
  go_wp2_with fail
  all_goals
    refine (two_any s _ hz (HS.out.later (((Below.refl _ _).alloc (Nat.le_refl _) _).alloc (by simp) _))).mono ?_
    rintro e w2 ⟨n1, n2, rfl, hb⟩
    obtain ⟨hx, hr, hf, hbw⟩ := two_blocks hb
    have HB := Lib.hid hbw
    have r0 := hr 0 _ rfl
    have r1 := hr 1 _ rfl
    have r2 := hr 2 _ rfl
    have r3 := hr 3 _ rfl
    have r4 := hr 4 _ rfl
    have r5 := hr 5 _ rfl
    have r6 := hr 6 _ rfl
    have r7 := hr 7 _ rfl
    have f3 := hf 3
    have f4 := hf 4
    have f5 := hf 5
    have x4 := hx 4 _ rfl
    have x5 := hx 5 _ rfl
    clear hb hx hr hf hbw
    go_wp2_with (go_at_call 41; refine (tNote_any _ _).mono ?_; rintro e w' ⟨rfl, rfl⟩)
    all_goals
      go_ret
      refine Makes.mk ?_ ?_
      · go_light
        simp only [Tr.may, Tr.kOk, Tr.nOk, Tr.sOk, Tr.tOk, Tr.uOk, show Tr.arit 6 = 1 from rfl]
        simp_all [toL'] <;> omega
      · first
          | exact ((Below.refl _ _).alloc (Nat.le_refl _) _).alloc (by simp) _
          | exact (HB.out).setCell (Nat.le_succ _) _
          | exact (((HB.out).setCell (Nat.le_succ _) _).setCell (Nat.le_succ _) _).setCell (Nat.le_succ _) _
end
end Go.Proofs.YtdobaililmkkcaaDoor

/- Walks of trees: which nodes may be: names, functions, bindings. -/
namespace Go.Proofs.YtdobaililmkkcaaDoor
set_option linter.unusedSimpArgs false
set_option linter.unusedVariables false
open Go.RowKit Go.Maps Culp

section
variable (kd n : Int) (s t u : ByteArray) (l c : Int) (w : World)
set_option maxRecDepth 100000 in
set_option maxHeartbeats 3200000 in
theorem may_var (hS : Sp w) (hz : s.size ≤ 140737488351232) : Calls Tryd.prog 24 #[.agg #[.int .i8 4, .int .i64 kd, .int .i64 n, .string s, .string t, .string u, .int .i64 l, .int .i64 c]] w (Makes (.bool (Tr.may ⟨4, kd, n, s, t, u, l, c⟩)) w) := by
  have HS := Lib.hid hS
  clear hS
  go_enter Tryd.func24, Tryd.ntmps24
  go_wp2_with fail
  refine (arities_any 4 _).mono ?_
  rintro e w1 ⟨rfl, rfl⟩
  rw [show Tr.arit 4 = 0 from rfl]
  go_wp2_with (first
    | (go_at_call 41; refine (tNote_any _ _).mono ?_; rintro e w' ⟨rfl, rfl⟩)
    | (go_at_call 18; refine (tIsName_any s _ (Nat.le_trans hz (by decide)) (HS.out.later (((Below.refl _ _).alloc (Nat.le_refl _) _).alloc (by simp) _))).mono ?_; rintro e w2 ⟨rfl, hb⟩; obtain ⟨hx, hr, hf, hbw⟩ := two_blocks hb; have HB := Lib.hid hbw; have r0 := hr 0 _ rfl; have r1 := hr 1 _ rfl; have r2 := hr 2 _ rfl; have r3 := hr 3 _ rfl; have r4 := hr 4 _ rfl; have r5 := hr 5 _ rfl; have r6 := hr 6 _ rfl; have r7 := hr 7 _ rfl; have f3 := hf 3; clear hb hx hr hf hbw))
  all_goals
    go_ret
    refine Makes.mk ?_ ?_
    · go_light
      simp only [Tr.may, Tr.kOk, Tr.nOk, Tr.sOk, Tr.tOk, Tr.uOk, show Tr.arit 4 = 0 from rfl]
      simp_all [toL'] <;> omega
    · first
        | exact ((Below.refl _ _).alloc (Nat.le_refl _) _).alloc (by simp) _
        | exact (HB.out).setCell (Nat.le_succ _) _
        | exact (((HB.out).setCell (Nat.le_succ _) _).setCell (Nat.le_succ _) _).setCell (Nat.le_succ _) _
set_option maxRecDepth 100000 in
set_option maxHeartbeats 3200000 in
theorem may_fn (hS : Sp w) (hz : s.size ≤ 140737488351232) : Calls Tryd.prog 24 #[.agg #[.int .i8 5, .int .i64 kd, .int .i64 n, .string s, .string t, .string u, .int .i64 l, .int .i64 c]] w (Makes (.bool (Tr.may ⟨5, kd, n, s, t, u, l, c⟩)) w) := by
  have HS := Lib.hid hS
  clear hS
  go_enter Tryd.func24, Tryd.ntmps24
  go_wp2_with fail
  refine (arities_any 5 _).mono ?_
  rintro e w1 ⟨rfl, rfl⟩
  rw [show Tr.arit 5 = 1 from rfl]
  go_wp2_with (first
    | (go_at_call 41; refine (tNote_any _ _).mono ?_; rintro e w' ⟨rfl, rfl⟩)
    | (go_at_call 18; refine (tIsName_any s _ (Nat.le_trans hz (by decide)) (HS.out.later (((Below.refl _ _).alloc (Nat.le_refl _) _).alloc (by simp) _))).mono ?_; rintro e w2 ⟨rfl, hb⟩; obtain ⟨hx, hr, hf, hbw⟩ := two_blocks hb; have HB := Lib.hid hbw; have r0 := hr 0 _ rfl; have r1 := hr 1 _ rfl; have r2 := hr 2 _ rfl; have r3 := hr 3 _ rfl; have r4 := hr 4 _ rfl; have r5 := hr 5 _ rfl; have r6 := hr 6 _ rfl; have r7 := hr 7 _ rfl; have f3 := hf 3; clear hb hx hr hf hbw))
  all_goals
    go_ret
    refine Makes.mk ?_ ?_
    · go_light
      simp only [Tr.may, Tr.kOk, Tr.nOk, Tr.sOk, Tr.tOk, Tr.uOk, show Tr.arit 5 = 1 from rfl]
      simp_all [toL'] <;> omega
    · first
        | exact ((Below.refl _ _).alloc (Nat.le_refl _) _).alloc (by simp) _
        | exact (HB.out).setCell (Nat.le_succ _) _
        | exact (((HB.out).setCell (Nat.le_succ _) _).setCell (Nat.le_succ _) _).setCell (Nat.le_succ _) _
set_option maxRecDepth 100000 in
set_option maxHeartbeats 3200000 in
theorem may_let (hS : Sp w) (hz : s.size ≤ 140737488351232) : Calls Tryd.prog 24 #[.agg #[.int .i8 8, .int .i64 kd, .int .i64 n, .string s, .string t, .string u, .int .i64 l, .int .i64 c]] w (Makes (.bool (Tr.may ⟨8, kd, n, s, t, u, l, c⟩)) w) := by
  have HS := Lib.hid hS
  clear hS
  go_enter Tryd.func24, Tryd.ntmps24
  go_wp2_with fail
  refine (arities_any 8 _).mono ?_
  rintro e w1 ⟨rfl, rfl⟩
  rw [show Tr.arit 8 = 2 from rfl]
  go_wp2_with (first
    | (go_at_call 41; refine (tNote_any _ _).mono ?_; rintro e w' ⟨rfl, rfl⟩)
    | (go_at_call 18; refine (tIsName_any s _ (Nat.le_trans hz (by decide)) (HS.out.later (((Below.refl _ _).alloc (Nat.le_refl _) _).alloc (by simp) _))).mono ?_; rintro e w2 ⟨rfl, hb⟩; obtain ⟨hx, hr, hf, hbw⟩ := two_blocks hb; have HB := Lib.hid hbw; have r0 := hr 0 _ rfl; have r1 := hr 1 _ rfl; have r2 := hr 2 _ rfl; have r3 := hr 3 _ rfl; have r4 := hr 4 _ rfl; have r5 := hr 5 _ rfl; have r6 := hr 6 _ rfl; have r7 := hr 7 _ rfl; have f3 := hf 3; clear hb hx hr hf hbw))
  all_goals
    go_ret
    refine Makes.mk ?_ ?_
    · go_light
      simp only [Tr.may, Tr.kOk, Tr.nOk, Tr.sOk, Tr.tOk, Tr.uOk, show Tr.arit 8 = 2 from rfl]
      simp_all [toL'] <;> omega
    · first
        | exact ((Below.refl _ _).alloc (Nat.le_refl _) _).alloc (by simp) _
        | exact (HB.out).setCell (Nat.le_succ _) _
        | exact (((HB.out).setCell (Nat.le_succ _) _).setCell (Nat.le_succ _) _).setCell (Nat.le_succ _) _
end
end Go.Proofs.YtdobaililmkkcaaDoor

/- Walks of trees: which nodes may be: the other kinds, all kinds. -/
namespace Go.Proofs.YtdobaililmkkcaaDoor
set_option linter.unusedSimpArgs false
set_option linter.unusedVariables false
open Go.RowKit Go.Maps Culp

set_option maxRecDepth 100000 in
set_option maxHeartbeats 3200000 in
theorem may_other (k kd n : Int) (s t u : ByteArray) (l c : Int) (w : World) (hS : Sp w) (e1 : (k == 1) = false) (e2 : (k == 2) = false) (e3 : (k == 3) = false) (e4 : (k == 4) = false) (e5 : (k == 5) = false) (e6 : (k == 6) = false) (e8 : (k == 8) = false) (e29 : (k == 29) = false) :
    Calls Tryd.prog 24 #[.agg #[.int .i8 k, .int .i64 kd, .int .i64 n, .string s, .string t, .string u, .int .i64 l, .int .i64 c]] w (Makes (.bool (Tr.may ⟨k, kd, n, s, t, u, l, c⟩)) w) := by
  have HS := Lib.hid hS
  obtain ⟨a, ha⟩ : ∃ a, Tr.arit k = a := ⟨_, rfl⟩
  have HA := Lib.hid ha
  clear hS ha
  go_enter Tryd.func24, Tryd.ntmps24
  go_wp2_with fail
  refine (arities_any k _).mono ?_
  rintro e w1 ⟨rfl, rfl⟩
  rw [HA.out]
  go_wp2_with fail
  all_goals
    go_ret
    refine Makes.mk ?_ (((Below.refl _ _).alloc (Nat.le_refl _) _).alloc (by simp) _)
    go_light
    simp only [Tr.may, Tr.kOk, Tr.nOk, Tr.sOk, Tr.tOk, Tr.uOk, HA.out]
    clear HA
    simp_all [toL'] <;> omega
theorem beq_no {k : Int} {z : Int} (h : k ≠ z) : (k == z) = false := beq_eq_false_iff_ne.2 h
/-- May a node stand in a source's tree, as the program says. -/
theorem may_any (x : Nd) (w : World) (hS : Sp w) (hz : x.s.size ≤ 140737488351232) : Calls Tryd.prog 24 #[x.val] w (Makes (.bool (Tr.may x)) w) := by
  obtain ⟨k, kd, n, s, t, u, l, c⟩ := x
  by_cases h1 : k = 1
  · subst h1; exact may_num kd n s t u l c w hS
  by_cases h2 : k = 2
  · subst h2; exact may_str kd n s t u l c w hS hz
  by_cases h3 : k = 3
  · subst h3; exact may_truth kd n s t u l c w hS
  by_cases h4 : k = 4
  · subst h4; exact may_var kd n s t u l c w hS hz
  by_cases h5 : k = 5
  · subst h5; exact may_fn kd n s t u l c w hS hz
  by_cases h6 : k = 6
  · subst h6; exact may_rec kd n s t u l c w hS hz
  by_cases h8 : k = 8
  · subst h8; exact may_let kd n s t u l c w hS hz
  by_cases h29 : k = 29
  · subst h29; exact may_as kd n s t u l c w hS
  exact may_other k kd n s t u l c w hS (beq_no h1) (beq_no h2) (beq_no h3) (beq_no h4) (beq_no h5) (beq_no h6) (beq_no h8) (beq_no h29)
end Go.Proofs.YtdobaililmkkcaaDoor

/- Walks of trees, the document's: the two names of a function that calls itself. -/
namespace Go.Proofs.YtdobaililmkkcaaDoor
set_option linter.unusedSimpArgs false
set_option linter.unusedVariables false
open Go.RowKit Go.Maps Culp

/-- What twoNames answers, with the names told. -/
def TwoNm (s : ByteArray) (w : World) (e : Ending) (w' : World) : Prop := ∃ a b : ByteArray, e = .returned (.tuple #[.string a, .string b, .bool (Tr.twoOk s.data.toList)]) ∧ (∀ x y, Tr.two s.data.toList = some (x, y) → a = ⟨x.toArray⟩ ∧ b = ⟨y.toArray⟩) ∧ Below w.heap.size w w'
end Go.Proofs.YtdobaililmkkcaaDoor

/- Walks of trees, the document's: which nodes may be. -/
namespace Go.Proofs.YtdobaililmkkcaaDoor
set_option linter.unusedSimpArgs false
set_option linter.unusedVariables false
open Go.RowKit Go.Maps Culp

section
variable (kd n : Int) (s t u : ByteArray) (l c : Int) (w : World)
end
end Go.Proofs.YtdobaililmkkcaaDoor

/- Walks of trees, the document's: which nodes may be: texts, functions that call themselves. -/
namespace Go.Proofs.YtdobaililmkkcaaDoor
set_option linter.unusedSimpArgs false
set_option linter.unusedVariables false
open Go.RowKit Go.Maps Culp

section
variable (kd n : Int) (s t u : ByteArray) (l c : Int) (w : World)
end
end Go.Proofs.YtdobaililmkkcaaDoor

/- Walks of trees, the document's: which nodes may be: names, functions, bindings. -/
namespace Go.Proofs.YtdobaililmkkcaaDoor
set_option linter.unusedSimpArgs false
set_option linter.unusedVariables false
open Go.RowKit Go.Maps Culp

section
variable (kd n : Int) (s t u : ByteArray) (l c : Int) (w : World)
end
end Go.Proofs.YtdobaililmkkcaaDoor

/- Walks of trees, the document's: which nodes may be: the other kinds. -/
namespace Go.Proofs.YtdobaililmkkcaaDoor
set_option linter.unusedSimpArgs false
set_option linter.unusedVariables false
open Go.RowKit Go.Maps Culp

theorem arV_yes {k a : Int} (h : Tr.arit k = a) (h0 : 0 ≤ a) : arV k = .tuple #[.int .i64 a, .bool true] := by unfold arV; rw [h, if_pos h0]
theorem arV_no {k a : Int} (h : Tr.arit k = a) (h0 : ¬ 0 ≤ a) : arV k = .tuple #[.int .i64 0, .bool false] := by unfold arV; rw [h, if_neg h0]
theorem arit_list {k : Int} (h : k ≠ 21) (h0 : ¬ 0 ≤ Tr.arit k) : Tr.arit k = -2 := by
  unfold Tr.arit at h0 ⊢
  split at h0
  · omega
  split at h0
  · omega
  split at h0
  · omega
  split at h0
  · omega
  · rename_i a b c d
    rw [if_neg a, if_neg b, if_neg c, if_neg d, if_neg h]
end Go.Proofs.YtdobaililmkkcaaDoor

/- Walks of trees, the document's: which nodes may be: all kinds. -/
namespace Go.Proofs.YtdobaililmkkcaaDoor
set_option linter.unusedSimpArgs false
set_option linter.unusedVariables false
open Go.RowKit Go.Maps Culp

end Go.Proofs.YtdobaililmkkcaaDoor


/- Walks of trees, the document's: which nodes may be: names, functions, bindings. -/
import Derived.Test.YtebameiaeldfiaaGreatDoorTrE
import Derived.Test.YtebameiaeldfiaaGreatDoorTrC
namespace Go.Proofs.YtebameiaeldfiaaGreatDoor
set_option linter.unusedSimpArgs false
set_option linter.unusedVariables false
open Go.RowKit Go.Maps Culp

section
variable (kd n : Int) (s t u : ByteArray) (l c : Int) (w : World)
set_option maxRecDepth 100000 in
set_option maxHeartbeats 3200000 in
theorem rmay_var (hz : s.size ≤ 140737488351232) : Calls Tryz.prog 66 #[.agg #[.int .i8 4, .int .i64 kd, .int .i64 n, .string s, .string t, .string u, .int .i64 l, .int .i64 c]] w (Makes (.bool (Tr.may ⟨4, kd, n, s, t, u, l, c⟩)) w) := by
  have HZ : Hid (s.size ≤ 140737488351232) := Lib.hid (Nat.le_trans hz (by decide))
  clear hz
  go_enter Tryz.func66, Tryz.ntmps66
  go_wp2_with fail
  refine (rArity_any 4 _).mono ?_
  rintro e w1 ⟨rfl, rfl⟩
  rw [show arV 4 = .tuple #[.int .i64 0, .bool true] from rfl]
  by_cases hk : 0 = kd
  · subst hk
    go_wp2_with fail
    refine (rIsName_any s _ HZ.out).mono ?_
    rintro e w2 ⟨rfl, hb⟩
    obtain ⟨hx, hr, hf, hbw⟩ := two_blocks hb
    have HB := Lib.hid hbw
    have r0 := hr 0 _ rfl
    have r1 := hr 1 _ rfl
    have r2 := hr 2 _ rfl
    have r3 := hr 3 _ rfl
    have r4 := hr 4 _ rfl
    have r5 := hr 5 _ rfl
    have r6 := hr 6 _ rfl
    have r7 := hr 7 _ rfl
    have x0 := hx 0 _ rfl
    have x1 := hx 1 _ rfl
    have x2 := hx 2 _ rfl
    have x3 := hx 3 _ rfl
    have x4 := hx 4 _ rfl
    have x5 := hx 5 _ rfl
    have x6 := hx 6 _ rfl
    have x7 := hx 7 _ rfl
    clear hb hx hr hf hbw
    go_wp2_with (go_at_call 57; refine (rNote_any _ _).mono ?_; rintro e w' ⟨rfl, rfl⟩)
    all_goals
      go_ret
      refine Makes.mk ?_ ?_
      · go_light
        simp only [Tr.may, Tr.kOk, Tr.nOk, Tr.sOk, Tr.tOk, Tr.uOk, show Tr.arit 4 = 0 from rfl]
        simp_all [toL'] <;> omega
      · first
          | exact HB.out
          | exact ((Below.refl _ _).alloc (Nat.le_refl _) _).alloc (by simp) _
          | exact (Below.refl _ _).alloc (Nat.le_refl _) _
  · go_wp2_with fail
    all_goals
      go_ret
      refine Makes.mk ?_ ?_
      · go_light
        simp only [Tr.may, Tr.kOk, Tr.nOk, Tr.sOk, Tr.tOk, Tr.uOk, show Tr.arit 4 = 0 from rfl]
        simp_all [toL'] <;> omega
      · first
          | exact HB.out
          | exact ((Below.refl _ _).alloc (Nat.le_refl _) _).alloc (by simp) _
          | exact (Below.refl _ _).alloc (Nat.le_refl _) _
set_option maxRecDepth 100000 in
set_option maxHeartbeats 3200000 in
theorem rmay_fn (hz : s.size ≤ 140737488351232) : Calls Tryz.prog 66 #[.agg #[.int .i8 5, .int .i64 kd, .int .i64 n, .string s, .string t, .string u, .int .i64 l, .int .i64 c]] w (Makes (.bool (Tr.may ⟨5, kd, n, s, t, u, l, c⟩)) w) := by
  have HZ : Hid (s.size ≤ 140737488351232) := Lib.hid (Nat.le_trans hz (by decide))
  clear hz
  go_enter Tryz.func66, Tryz.ntmps66
  go_wp2_with fail
  refine (rArity_any 5 _).mono ?_
  rintro e w1 ⟨rfl, rfl⟩
  rw [show arV 5 = .tuple #[.int .i64 1, .bool true] from rfl]
  by_cases hk : 1 = kd
  · subst hk
    go_wp2_with fail
    refine (rIsName_any s _ HZ.out).mono ?_
    rintro e w2 ⟨rfl, hb⟩
    obtain ⟨hx, hr, hf, hbw⟩ := two_blocks hb
    have HB := Lib.hid hbw
    have r0 := hr 0 _ rfl
    have r1 := hr 1 _ rfl
    have r2 := hr 2 _ rfl
    have r3 := hr 3 _ rfl
    have r4 := hr 4 _ rfl
    have r5 := hr 5 _ rfl
    have r6 := hr 6 _ rfl
    have r7 := hr 7 _ rfl
    have x0 := hx 0 _ rfl
    have x1 := hx 1 _ rfl
    have x2 := hx 2 _ rfl
    have x3 := hx 3 _ rfl
    have x4 := hx 4 _ rfl
    have x5 := hx 5 _ rfl
    have x6 := hx 6 _ rfl
    have x7 := hx 7 _ rfl
    clear hb hx hr hf hbw
    go_wp2_with (go_at_call 57; refine (rNote_any _ _).mono ?_; rintro e w' ⟨rfl, rfl⟩)
    all_goals
      go_ret
      refine Makes.mk ?_ ?_
      · go_light
        simp only [Tr.may, Tr.kOk, Tr.nOk, Tr.sOk, Tr.tOk, Tr.uOk, show Tr.arit 5 = 1 from rfl]
        simp_all [toL'] <;> omega
      · first
          | exact HB.out
          | exact ((Below.refl _ _).alloc (Nat.le_refl _) _).alloc (by simp) _
          | exact (Below.refl _ _).alloc (Nat.le_refl _) _
  · go_wp2_with fail
    all_goals
      go_ret
      refine Makes.mk ?_ ?_
      · go_light
        simp only [Tr.may, Tr.kOk, Tr.nOk, Tr.sOk, Tr.tOk, Tr.uOk, show Tr.arit 5 = 1 from rfl]
        simp_all [toL'] <;> omega
      · first
          | exact HB.out
          | exact ((Below.refl _ _).alloc (Nat.le_refl _) _).alloc (by simp) _
          | exact (Below.refl _ _).alloc (Nat.le_refl _) _
set_option maxRecDepth 100000 in
set_option maxHeartbeats 3200000 in
theorem rmay_let (hz : s.size ≤ 140737488351232) : Calls Tryz.prog 66 #[.agg #[.int .i8 8, .int .i64 kd, .int .i64 n, .string s, .string t, .string u, .int .i64 l, .int .i64 c]] w (Makes (.bool (Tr.may ⟨8, kd, n, s, t, u, l, c⟩)) w) := by
  have HZ : Hid (s.size ≤ 140737488351232) := Lib.hid (Nat.le_trans hz (by decide))
  clear hz
  go_enter Tryz.func66, Tryz.ntmps66
  go_wp2_with fail
  refine (rArity_any 8 _).mono ?_
  rintro e w1 ⟨rfl, rfl⟩
  rw [show arV 8 = .tuple #[.int .i64 2, .bool true] from rfl]
  by_cases hk : 2 = kd
  · subst hk
    go_wp2_with fail
    refine (rIsName_any s _ HZ.out).mono ?_
    rintro e w2 ⟨rfl, hb⟩
    obtain ⟨hx, hr, hf, hbw⟩ := two_blocks hb
    have HB := Lib.hid hbw
    have r0 := hr 0 _ rfl
    have r1 := hr 1 _ rfl
    have r2 := hr 2 _ rfl
    have r3 := hr 3 _ rfl
    have r4 := hr 4 _ rfl
    have r5 := hr 5 _ rfl
    have r6 := hr 6 _ rfl
    have r7 := hr 7 _ rfl
    have x0 := hx 0 _ rfl
    have x1 := hx 1 _ rfl
    have x2 := hx 2 _ rfl
    have x3 := hx 3 _ rfl
    have x4 := hx 4 _ rfl
    have x5 := hx 5 _ rfl
    have x6 := hx 6 _ rfl
    have x7 := hx 7 _ rfl
    clear hb hx hr hf hbw
    go_wp2_with (go_at_call 57; refine (rNote_any _ _).mono ?_; rintro e w' ⟨rfl, rfl⟩)
    all_goals
      go_ret
      refine Makes.mk ?_ ?_
      · go_light
        simp only [Tr.may, Tr.kOk, Tr.nOk, Tr.sOk, Tr.tOk, Tr.uOk, show Tr.arit 8 = 2 from rfl]
        simp_all [toL'] <;> omega
      · first
          | exact HB.out
          | exact ((Below.refl _ _).alloc (Nat.le_refl _) _).alloc (by simp) _
          | exact (Below.refl _ _).alloc (Nat.le_refl _) _
  · go_wp2_with fail
    all_goals
      go_ret
      refine Makes.mk ?_ ?_
      · go_light
        simp only [Tr.may, Tr.kOk, Tr.nOk, Tr.sOk, Tr.tOk, Tr.uOk, show Tr.arit 8 = 2 from rfl]
        simp_all [toL'] <;> omega
      · first
          | exact HB.out
          | exact ((Below.refl _ _).alloc (Nat.le_refl _) _).alloc (by simp) _
          | exact (Below.refl _ _).alloc (Nat.le_refl _) _
end
end Go.Proofs.YtebameiaeldfiaaGreatDoor

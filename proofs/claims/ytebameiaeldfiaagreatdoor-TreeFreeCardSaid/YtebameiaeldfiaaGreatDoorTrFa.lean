
/- Walks of trees, the document's: which nodes may be: texts, functions that call themselves. -/
import Derived.Test.YtebameiaeldfiaaGreatDoorTrE
import Derived.Test.YtebameiaeldfiaaGreatDoorTrC
namespace Go.Proofs.YtebameiaeldfiaaGreatDoor
set_option linter.unusedSimpArgs false
set_option linter.unusedVariables false
open Go.RowKit Go.Maps Culp

section
variable (kd n : Int) (s t u : ByteArray) (l c : Int) (w : World)
set_option maxRecDepth 100000 in
set_option maxHeartbeats 3200000 in
theorem rmay_str (hz : s.size ≤ 140737488351232) : Calls Tryz.prog 66 #[.agg #[.int .i8 2, .int .i64 kd, .int .i64 n, .string s, .string t, .string u, .int .i64 l, .int .i64 c]] w (Makes (.bool (Tr.may ⟨2, kd, n, s, t, u, l, c⟩)) w) := by
  have HZ : Hid (s.size ≤ 140737488351232) := Lib.hid (Nat.le_trans hz (by decide))
  clear hz
  go_enter Tryz.func66, Tryz.ntmps66
  go_wp2_with fail
  refine (rArity_any 2 _).mono ?_
  rintro e w1 ⟨rfl, rfl⟩
  rw [show arV 2 = .tuple #[.int .i64 0, .bool true] from rfl]
  by_cases hk : 0 = kd
  · subst hk
    go_wp2_with fail
    refine (rQuote_any s _ HZ.out).mono ?_
    rintro e w2 ⟨hb, hres⟩
    obtain ⟨hx, hr, hf, hbw⟩ := two_blocks hb
    have HB := Lib.hid hbw
    have r0 := hr 0 _ rfl
    have r1 := hr 1 _ rfl
    have r2 := hr 2 _ rfl
    have r3 := hr 3 _ rfl
    have r4 := hr 4 _ rfl
    have r5 := hr 5 _ rfl
    have r6 := hr 6 _ rfl
    have r7 := hr 7 _ rfl
    have x0 := hx 0 _ rfl
    have x1 := hx 1 _ rfl
    have x2 := hx 2 _ rfl
    have x3 := hx 3 _ rfl
    have x4 := hx 4 _ rfl
    have x5 := hx 5 _ rfl
    have x6 := hx 6 _ rfl
    have x7 := hx 7 _ rfl
    clear hb hx hr hf hbw
    cases hq : Tx.quote s.data.toList with
    | none =>
      rw [hq] at hres
      obtain rfl := hres
      go_wp2_with fail
      all_goals
        go_ret
        refine Makes.mk ?_ ?_
        · go_light
          simp only [Tr.may, Tr.kOk, Tr.nOk, Tr.sOk, Tr.tOk, Tr.uOk, show Tr.arit 2 = 0 from rfl]
          simp_all [toL'] <;> omega
        · first
            | exact HB.out
            | exact ((Below.refl _ _).alloc (Nat.le_refl _) _).alloc (by simp) _
            | exact (Below.refl _ _).alloc (Nat.le_refl _) _
    | some q =>
      rw [hq] at hres
      obtain rfl := hres
      go_wp2_with fail
      all_goals
        go_ret
        refine Makes.mk ?_ ?_
        · go_light
          simp only [Tr.may, Tr.kOk, Tr.nOk, Tr.sOk, Tr.tOk, Tr.uOk, show Tr.arit 2 = 0 from rfl]
          simp_all [toL'] <;> omega
        · first
            | exact HB.out
            | exact ((Below.refl _ _).alloc (Nat.le_refl _) _).alloc (by simp) _
            | exact (Below.refl _ _).alloc (Nat.le_refl _) _
  · go_wp2_with fail
    all_goals
      go_ret
      refine Makes.mk ?_ ?_
      · go_light
        simp only [Tr.may, Tr.kOk, Tr.nOk, Tr.sOk, Tr.tOk, Tr.uOk, show Tr.arit 2 = 0 from rfl]
        simp_all [toL'] <;> omega
      · first
          | exact HB.out
          | exact ((Below.refl _ _).alloc (Nat.le_refl _) _).alloc (by simp) _
          | exact (Below.refl _ _).alloc (Nat.le_refl _) _
set_option maxRecDepth 100000 in
set_option maxHeartbeats 3200000 in
theorem rmay_rec (hz : s.size ≤ 140737488351232) : Calls Tryz.prog 66 #[.agg #[.int .i8 6, .int .i64 kd, .int .i64 n, .string s, .string t, .string u, .int .i64 l, .int .i64 c]] w (Makes (.bool (Tr.may ⟨6, kd, n, s, t, u, l, c⟩)) w) := by
  go_enter Tryz.func66, Tryz.ntmps66
  go_wp2_with fail
  refine (rArity_any 6 _).mono ?_
  rintro e w1 ⟨rfl, rfl⟩
  rw [show arV 6 = .tuple #[.int .i64 1, .bool true] from rfl]
  by_cases hk : 1 = kd
  · subst hk
    go_wp2_with fail
    refine (rTwo_any s _ hz).mono ?_
    rintro e w2 ⟨n1, n2, rfl, hb⟩
    obtain ⟨hx, hr, hf, hbw⟩ := two_blocks hb
    have HB := Lib.hid hbw
    have r0 := hr 0 _ rfl
    have r1 := hr 1 _ rfl
    have r2 := hr 2 _ rfl
    have r3 := hr 3 _ rfl
    have r4 := hr 4 _ rfl
    have r5 := hr 5 _ rfl
    have r6 := hr 6 _ rfl
    have r7 := hr 7 _ rfl
    have x0 := hx 0 _ rfl
    have x1 := hx 1 _ rfl
    have x2 := hx 2 _ rfl
    have x3 := hx 3 _ rfl
    have x4 := hx 4 _ rfl
    have x5 := hx 5 _ rfl
    have x6 := hx 6 _ rfl
    have x7 := hx 7 _ rfl
    clear hb hx hr hf hbw
    go_wp2_with (go_at_call 57; refine (rNote_any _ _).mono ?_; rintro e w' ⟨rfl, rfl⟩)
    all_goals
      go_ret
      refine Makes.mk ?_ ?_
      · go_light
        simp only [Tr.may, Tr.kOk, Tr.nOk, Tr.sOk, Tr.tOk, Tr.uOk, show Tr.arit 6 = 1 from rfl]
        simp_all [toL'] <;> omega
      · first
          | exact HB.out
          | exact ((Below.refl _ _).alloc (Nat.le_refl _) _).alloc (by simp) _
          | exact (Below.refl _ _).alloc (Nat.le_refl _) _
  · go_wp2_with fail
    all_goals
      go_ret
      refine Makes.mk ?_ ?_
      · go_light
        simp only [Tr.may, Tr.kOk, Tr.nOk, Tr.sOk, Tr.tOk, Tr.uOk, show Tr.arit 6 = 1 from rfl]
        simp_all [toL'] <;> omega
      · first
          | exact HB.out
          | exact ((Below.refl _ _).alloc (Nat.le_refl _) _).alloc (by simp) _
          | exact (Below.refl _ _).alloc (Nat.le_refl _) _
end
end Go.Proofs.YtebameiaeldfiaaGreatDoor

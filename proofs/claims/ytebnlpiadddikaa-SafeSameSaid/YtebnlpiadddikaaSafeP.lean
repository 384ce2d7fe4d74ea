/- Walks of package safe: plus, minus, at every two types. -/
import Derived.Test.YtebnlpiadddikaaSafeW
namespace Go.Proofs.Ytebnlpiadddikaa
set_option linter.unusedSimpArgs false
set_option linter.unusedVariables false
open Go.RowKit Culp

theorem parts_plus_all {n : Nat} (hP : CP n) (hM : CM n) (s t : Ty) (hs : s.fits) (ht : t.fits) (hh : s.hd = t.hd) (hn : ∀ a ∈ s.kids, ∀ c ∈ t.kids, a.sz + c.sz ≤ n) (w : World) :
    Calls Try.prog 24 #[.string s.str, .string t.str, .agg #[.func (.func 16) #[] #[], .func (.func 17) #[] #[]]] w (Makes (.bool (sp s t)) w) := by
  cases s <;> cases t <;> simp [Ty.hd] at hh
  case fn.fn a b c d => exact parts_plus_fn hP hM a b c d hs ht ⟨hn a (by simp [Ty.kids]) c (by simp [Ty.kids]), hn b (by simp [Ty.kids]) d (by simp [Ty.kids])⟩ w
  case pair.pair a b c d => exact parts_plus_pair hP hM a b c d hs ht ⟨hn a (by simp [Ty.kids]) c (by simp [Ty.kids]), hn b (by simp [Ty.kids]) d (by simp [Ty.kids])⟩ w
  case list.list a c => exact parts_plus_list hP hM a c hs ht (hn a (by simp [Ty.kids]) c (by simp [Ty.kids])) w
  case box.box a c => exact parts_plus_box hP hM a c hs ht (hn a (by simp [Ty.kids]) c (by simp [Ty.kids])) w
  all_goals exact parts_plus_base _ _ hs ht rfl rfl w
theorem parts_minus_all {n : Nat} (hP : CP n) (hM : CM n) (s t : Ty) (hs : s.fits) (ht : t.fits) (hh : s.hd = t.hd) (hn : ∀ a ∈ s.kids, ∀ c ∈ t.kids, a.sz + c.sz ≤ n) (w : World) :
    Calls Try.prog 24 #[.string s.str, .string t.str, .agg #[.func (.func 17) #[] #[], .func (.func 16) #[] #[]]] w (Makes (.bool (sm s t)) w) := by
  cases s <;> cases t <;> simp [Ty.hd] at hh
  case fn.fn a b c d => exact parts_minus_fn hP hM a b c d hs ht ⟨hn a (by simp [Ty.kids]) c (by simp [Ty.kids]), hn b (by simp [Ty.kids]) d (by simp [Ty.kids])⟩ w
  case pair.pair a b c d => exact parts_minus_pair hP hM a b c d hs ht ⟨hn a (by simp [Ty.kids]) c (by simp [Ty.kids]), hn b (by simp [Ty.kids]) d (by simp [Ty.kids])⟩ w
  case list.list a c => exact parts_minus_list hP hM a c hs ht (hn a (by simp [Ty.kids]) c (by simp [Ty.kids])) w
  case box.box a c => exact parts_minus_box hP hM a c hs ht (hn a (by simp [Ty.kids]) c (by simp [Ty.kids])) w
  all_goals exact parts_minus_base _ _ hs ht rfl rfl w

set_option maxHeartbeats 800000 in
theorem plus_step {n : Nat} (hP : CP n) (hM : CM n) : CP (n + 1) := by
  intro s t w hs ht hn
  have hk : ∀ a ∈ s.kids, ∀ c ∈ t.kids, a.sz + c.sz ≤ n := fun a ha c hc => by have := kids_sz ha; have := kids_sz hc; omega
  by_cases hd : t = .dyn
  · subst hd
    have h1 := str_isdyn
    clear hk hn
    go_enter Try.func16, Try.ntmps16
    go_wp2_with fail
    go_ret
    exact Makes.mk (bool_congr (by simp)) (Below.refl _ _)
  · have h1 := str_dyn hd
    have h2 := hd_eq s t
    by_cases hh : s.hd = t.hd
    · rw [decide_eq_true hh] at h2
      have Hh := Lib.hid hh; have Hk := Lib.hid hk
      clear hk hn hh hd
      go_enter Try.func16, Try.ntmps16
      go_wp2_with fail
      refine (Head_any _ hs _).mono ?_
      rintro e w' ⟨rfl, rfl⟩
      go_wp2_with fail
      refine (Head_any _ ht _).mono ?_
      rintro e w' ⟨rfl, rfl⟩
      go_wp2_with fail
      refine (parts_plus_all hP hM s t hs ht Hh.out Hk.out _).mono ?_
      rintro e w' ⟨rfl, hb⟩
      go_wp2_with fail
      go_ret
      exact Makes.mk rfl hb
    · rw [decide_eq_false hh] at h2
      have X := Lib.hid (sp_head hh hd)
      clear hk hn hh hd
      go_enter Try.func16, Try.ntmps16
      go_wp2_with fail
      refine (Head_any _ hs _).mono ?_
      rintro e w' ⟨rfl, rfl⟩
      go_wp2_with fail
      refine (Head_any _ ht _).mono ?_
      rintro e w' ⟨rfl, rfl⟩
      go_wp2_with fail
      go_ret
      exact Makes.mk (bool_congr X.out.symm) (Below.refl _ _)

theorem gnd_fits (s : Ty) : s.gnd.fits := by unfold Ty.fits; cases s <;> simp [Ty.gnd, Ty.enc]
theorem gnd_hd (s : Ty) : s.gnd.hd = s.hd := by cases s <;> rfl
theorem gnd_kids {s c : Ty} (hc : c ∈ s.gnd.kids) : c = .dyn := by cases s <;> simp [Ty.gnd, Ty.kids] at hc <;> exact hc
theorem gnd_dyn {s : Ty} (h : s ≠ .dyn) : s.gnd ≠ .dyn := by cases s <;> first | exact absurd rfl h | simp [Ty.gnd]

set_option maxHeartbeats 800000 in
theorem minus_step {n : Nat} (hP : CP n) (hM : CM n) : CM (n + 1) := by
  intro s t w hs ht hn
  by_cases hd : s = .dyn
  · subst hd
    have h1 := str_isdyn
    clear hn
    go_enter Try.func17, Try.ntmps17
    go_wp2_with fail
    go_ret
    exact Makes.mk (bool_congr (by simp)) (Below.refl _ _)
  · have h0 := str_dyn hd
    by_cases hdt : t = .dyn
    · subst hdt
      have h1 := str_isdyn
      have h2 := hd_ne s s.gnd
      rw [decide_eq_true (gnd_hd s).symm, Bool.not_true] at h2
      have Hk : Hid (∀ a ∈ s.kids, ∀ c ∈ s.gnd.kids, a.sz + c.sz ≤ n) := fun a ha c hc => by
        have := kids_sz ha
        rw [gnd_kids hc]
        simp only [Ty.sz] at *
        omega
      have X := Lib.hid (sm_gnd s)
      have hg := gnd_fits s
      clear hn
      go_enter Try.func17, Try.ntmps17
      go_wp2_with fail
      refine (Ground_any _ hs hd _).mono ?_
      rintro e w1 ⟨rfl, hb1⟩
      go_wp2_with fail
      refine (Head_any _ hs _).mono ?_
      rintro e w' ⟨rfl, rfl⟩
      go_wp2_with fail
      refine (Head_any _ hg _).mono ?_
      rintro e w' ⟨rfl, rfl⟩
      go_wp2_with fail
      refine (parts_minus_all hP hM s s.gnd hs hg (gnd_hd s).symm Hk.out _).mono ?_
      rintro e w' ⟨rfl, hb⟩
      go_wp2_with fail
      go_ret
      exact Makes.mk (bool_congr X.out.symm) (below_later hb hb1)
    · have h1 := str_dyn hdt
      have h2 := hd_ne s t
      have hk : ∀ a ∈ s.kids, ∀ c ∈ t.kids, a.sz + c.sz ≤ n := fun a ha c hc => by have := kids_sz ha; have := kids_sz hc; omega
      by_cases hh : s.hd = t.hd
      · rw [decide_eq_true hh, Bool.not_true] at h2
        have Hh := Lib.hid hh; have Hk := Lib.hid hk
        clear hk hn hh hd
        go_enter Try.func17, Try.ntmps17
        go_wp2_with fail
        refine (Head_any _ hs _).mono ?_
        rintro e w' ⟨rfl, rfl⟩
        go_wp2_with fail
        refine (Head_any _ ht _).mono ?_
        rintro e w' ⟨rfl, rfl⟩
        go_wp2_with fail
        refine (parts_minus_all hP hM s t hs ht Hh.out Hk.out _).mono ?_
        rintro e w' ⟨rfl, hb⟩
        go_wp2_with fail
        go_ret
        exact Makes.mk rfl hb
      · rw [decide_eq_false hh, Bool.not_false] at h2
        have X := Lib.hid (sm_head hh hdt)
        clear hk hn hh hd
        go_enter Try.func17, Try.ntmps17
        go_wp2_with fail
        refine (Head_any _ hs _).mono ?_
        rintro e w' ⟨rfl, rfl⟩
        go_wp2_with fail
        refine (Head_any _ ht _).mono ?_
        rintro e w' ⟨rfl, rfl⟩
        go_wp2_with fail
        go_ret
        exact Makes.mk (bool_congr X.out.symm) (Below.refl _ _)

theorem both_any : ∀ n, CP n ∧ CM n
  | 0 => ⟨fun s _ _ _ _ h => by have := s.sz_pos; omega, fun s _ _ _ _ h => by have := s.sz_pos; omega⟩
  | n + 1 => ⟨plus_step (both_any n).1 (both_any n).2, minus_step (both_any n).1 (both_any n).2⟩

theorem plus_any (s t : Ty) (hs : s.fits) (ht : t.fits) (w : World) : Calls Try.prog 16 #[.string s.str, .string t.str] w (Makes (.bool (sp s t)) w) :=
  (both_any _).1 s t w hs ht (Nat.le_refl _)
set_option maxHeartbeats 800000 in
theorem Plus_any (s t : Ty) (hs : s.fits) (ht : t.fits) (w : World) : Calls Try.prog 8 #[.string s.str, .string t.str] w (Makes (.bool (sp s t)) w) := by
  have S1 : Hid (isTy s.str.data.toList = true) := by rw [Hid, str_list]; exact isTy_enc s hs
  have T1 : Hid (isTy t.str.data.toList = true) := by rw [Hid, str_list]; exact isTy_enc t ht
  go_enter Try.func8, Try.ntmps8
  go_wp2_with fail
  refine (good_any _ _).mono ?_
  rw [S1.out]
  rintro e w' ⟨rfl, rfl⟩
  go_wp2_with fail
  refine (good_any _ _).mono ?_
  rw [T1.out]
  rintro e w' ⟨rfl, rfl⟩
  go_wp2_with fail
  refine (plus_any s t hs ht _).mono ?_
  rintro e w' ⟨rfl, hb⟩
  go_wp2_with fail
  go_ret
  exact Makes.mk rfl hb
theorem minus_any (s t : Ty) (hs : s.fits) (ht : t.fits) (w : World) : Calls Try.prog 17 #[.string s.str, .string t.str] w (Makes (.bool (sm s t)) w) :=
  (both_any _).2 s t w hs ht (Nat.le_refl _)
set_option maxHeartbeats 800000 in
theorem Minus_any (s t : Ty) (hs : s.fits) (ht : t.fits) (w : World) : Calls Try.prog 9 #[.string s.str, .string t.str] w (Makes (.bool (sm s t)) w) := by
  have S1 : Hid (isTy s.str.data.toList = true) := by rw [Hid, str_list]; exact isTy_enc s hs
  have T1 : Hid (isTy t.str.data.toList = true) := by rw [Hid, str_list]; exact isTy_enc t ht
  go_enter Try.func9, Try.ntmps9
  go_wp2_with fail
  refine (good_any _ _).mono ?_
  rw [S1.out]
  rintro e w' ⟨rfl, rfl⟩
  go_wp2_with fail
  refine (good_any _ _).mono ?_
  rw [T1.out]
  rintro e w' ⟨rfl, rfl⟩
  go_wp2_with fail
  refine (minus_any s t hs ht _).mono ?_
  rintro e w' ⟨rfl, hb⟩
  go_wp2_with fail
  go_ret
  exact Makes.mk rfl hb
end Go.Proofs.Ytebnlpiadddikaa

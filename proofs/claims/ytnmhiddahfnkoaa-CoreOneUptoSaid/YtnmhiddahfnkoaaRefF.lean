/- Walks of the document's answer for layer 10: functions. -/
import Derived.Test.YtnmhiddahfnkoaaRefK
namespace Go.Proofs.Ytnmhiddahfnkoaa
set_option linter.unusedSimpArgs false
set_option linter.unusedVariables false
open Go.RowKit Culp

/-- What under hands back, away from what was there. -/
def UnderRes (a : Nat) (l : List Ty) (w : World) (e : Ending) (w' : World) : Prop := ∃ v, e = .returned v ∧ TysX a w' v l ∧ Below w.heap.size w w'
theorem under_x (a : Nat) (ev lv : Value) (ns ts : List Ty) (w : World) (ha : a < w.heap.size) (hl : Tys w lv ns) (he : Tys w ev ts) (hn : ns.length + ts.length ≤ 100000) :
    Calls Try.prog 69 #[ev, lv] w (UnderRes a (ns ++ ts) w) := by
  refine (under_any ev lv ns ts w hl he hn).mono ?_
  rintro e w' ⟨v, rfl, h2, h3⟩
  refine ⟨v, rfl, ⟨Tys.own h2, fun b n c hv => ?_⟩, h3⟩
  subst hv
  have := (h2.lt b rfl).1
  omega
theorem tys_lit1 (w : World) (t : Ty) : Tys (w.alloc (.cells #[.string t.str] 9)) (.slice (some ⟨w.heap.size, 0, none⟩) 1 1) [t] :=
  .inr ⟨_, _, rfl, fun i hi => by
    have : i = 0 := by simp at hi; omega
    subst this
    rw [World.cell?_alloc_at _ _ _ _ rfl]; rfl⟩
theorem tys_lit2 (w : World) (t u : Ty) : Tys (w.alloc (.cells #[.string t.str, .string u.str] 9)) (.slice (some ⟨w.heap.size, 0, none⟩) 2 2) [t, u] :=
  .inr ⟨_, _, rfl, fun i hi => by
    have : i = 0 ∨ i = 1 := by simp at hi; omega
    rcases this with rfl | rfl <;> (rw [World.cell?_alloc_at _ _ _ _ rfl]; rfl)⟩

/-- A binder's type. -/
def fnM (T : List Nd) (f : Nat) (env' : List Ty) (p : Nat) (t u : Ty) : Except Flt (Ty × Nat) := match atM p (madeM (.fn t u)) with | .error e => .error e | .ok g => bodyM p g u (typedM T f env' (p + 1))
theorem fnM_large {T : List Nd} {f : Nat} {env' : List Ty} {p : Nat} {t u : Ty} (h : ¬ (Ty.fn t u).enc.length ≤ 64) : fnM T f env' p t u = .error (21, p) := by unfold fnM madeM; rw [if_neg h]; rfl
theorem fnM_fits {T : List Nd} {f : Nat} {env' : List Ty} {p : Nat} {t u : Ty} (h : (Ty.fn t u).enc.length ≤ 64) : fnM T f env' p t u = bodyM p (.fn t u) u (typedM T f env' (p + 1)) := by unfold fnM madeM; rw [if_pos h]; rfl

set_option maxHeartbeats 1600000 in
theorem rf_fn {T : List Nd} {f : Nat} (ih : KidR T f) (kd n : Int) (s : ByteArray) (t u : Ty) (l c : Int) (ht : t.fits) (hu : u.fits) (g a : Nat) (tv av ev : Value) (env : List Ty) (p q : Nat) (w : World)
    (hI : RInv T g a tv av w) (hw : WkS g tv ((p : Int) + 1) none av w) (he : TysX a w ev env) (hfit : ∀ t ∈ env, t.fits) (hlen : env.length + 2 * (f + 1) ≤ 3000) (hsz : ∀ x ∈ T, szOk x) (hq : shapeM T f (p + 1) = .ok q) :
    Calls Try.prog 66 #[.pointer (some ⟨g, 0, none⟩), (Nd.mk 5 kd n s t.str u.str l c).val, .int .i64 p, ev] w (TyRes T g a tv av w (fnM T f (t :: env) p t u)) := by
  unfold Nd.val Nd.cells
  have hB0 : ∀ o, Below w.heap.size w (w.alloc o) := fun o => (Below.refl _ _).alloc (Nat.le_refl _) o
  have hgw : g < w.heap.size := Wk.lt (show Wk g tv _ 0 0 av w from hw)
  have haw := hI.all.lt
  have hss := str_size_le ht
  have hss2 := str_size_le hu
  have hl := str_fn t u
  have HI := Lib.hid (fun o => hI.later (hB0 o))
  have HW := Lib.hid (fun o => hw.later (hB0 o))
  have HE := Lib.hid (fun o => he.later (hB0 o))
  have HTS := Lib.hid hI.ts
  have HAS := Lib.hid hI.as
  have HNE := Lib.hid hI.ne
  clear hI hw he
  go_enter Try.func66, Try.ntmps66
  go_wp2_with fail
  refine (rmade_any g tv ((p : Int) + 1) none av (.fn t u) p _ (HW.out _)).mono ?_
  rintro e w1 ⟨rfl, hk, hw1⟩
  have HK1 := Lib.hid (((Keep.refl g w).alloc _).trans hk)
  have hgn : w.heap.size ≠ g := by omega
  have han : w.heap.size ≠ a := by omega
  have m0 : w1.cell? ⟨w.heap.size, 0, none⟩ = some (.int .i8 5) := hk.cell (by rw [World.cell?_alloc_at _ _ _ _ rfl]; rfl) hgn
  have m4 : w1.cell? ⟨w.heap.size, 4, none⟩ = some (.string t.str) := hk.cell (by rw [World.cell?_alloc_at _ _ _ _ rfl]; rfl) hgn
  have m5 : w1.cell? ⟨w.heap.size, 5, none⟩ = some (.string u.str) := hk.cell (by rw [World.cell?_alloc_at _ _ _ _ rfl]; rfl) hgn
  have HI1 := Lib.hid ((HI.out _).keep hk)
  have HE1 := Lib.hid ((HE.out _).keep (Keep2.one hk) (HW.out _) HTS.out HAS.out)
  have hsz1 : w.heap.size + 1 ≤ w1.heap.size := by have := hk.size; simpa using this
  clear hk
  by_cases hf : (Ty.fn t u).enc.length ≤ 64
  · rw [if_pos hf] at hw1
    have X := Lib.hid (fnM_fits (T := T) (f := f) (env' := t :: env) (p := p) hf)
    have c2 := Wk.c2 (show Wk g tv _ 0 0 av w1 from hw1)
    have HW1 := Lib.hid hw1
    clear hw1 hl
    go_wp2_with fail
    have hB1 : ∀ o, Below w1.heap.size w1 (w1.alloc o) := fun o => (Below.refl _ _).alloc (Nat.le_refl _) o
    refine (under_x a ev _ [t] env _ (by simp; omega) (tys_lit1 w1 t) ((HE1.out.later (hB1 _)).1) (by simp; omega)).mono ?_
    rintro e w2 ⟨v2, rfl, ht2, hb2⟩
    have hb2' := (hB1 _).trans (hb2.mono (by simp))
    have HB2 := Lib.hid hb2'
    replace m0 := cell_later hb2' m0
    replace m4 := cell_later hb2' m4
    replace m5 := cell_later hb2' m5
    have HW2 := Lib.hid (HW1.out.later hb2')
    have HI2 := Lib.hid (HI1.out.later hb2')
    have HE2 := Lib.hid (HE1.out.later hb2')
    have HK2 := Lib.hid ((Keep2.one (a := a) HK1.out).trans (Keep2.of hb2'))
    have HT2 := Lib.hid ht2
    have hsz2 : w.heap.size + 1 ≤ w2.heap.size := Nat.le_trans hsz1 hb2'.size
    clear hb2 hb2' ht2 c2 HW1 HI1 HE1 hB1
    go_wp2_with fail
    skip
    refine (ih g a tv av _ (t :: env) (p + 1) q _ ⟨HI2.out, HW2.out, HT2.out, fits_cons ht hfit, by simp; omega, hsz, hq⟩).mono ?_
    have he := fun b0 : Ty => str_same b0 u
    unfold TyRes
    cases hr : typedM T f (t :: env) (p + 1) with
    | error fl =>
      rintro e w4 ⟨us, rfl, hk4, ha4, q4, hw4⟩
      have m5' := hk4.cell m5 hgn han
      have HK4 := Lib.hid (HK2.out.trans hk4)
      have HA4 := Lib.hid ha4
      have HW4 := Lib.hid hw4
      have HR := Lib.hid hr
      clear hk4 ha4 hw4 hr m0 m4 m5 he
      go_wp2_with fail
      refine (want_any g tv q4 (some fl) av _ p _ HW4.out).mono ?_
      rintro e w5 ⟨rfl, hk5, hw5⟩
      have HK5 := Lib.hid (HK4.out.trans (Keep2.one hk5))
      have HA5 := Lib.hid (HA4.out.keep hk5 HNE.out)
      have HW5 : Hid (WkS g tv q4 (some fl) av w5) := by
        have : ∀ b : Bool, (if b then some fl else failS (some fl) (23, p)) = some fl := fun b => by cases b <;> rfl
        rw [this] at hw5
        exact hw5
      clear hk5 hw5 m5'
      go_wp2_with fail
      go_ret
      unfold TyRes
      rw [X.out, HR.out]
      exact ⟨_, rfl, HK5.out, HA5.out, _, HW5.out⟩
    | ok bq =>
      obtain ⟨b0, q0⟩ := bq
      rintro e w4 ⟨us, rfl, hk4, ha4, rfl, hw4⟩
      have m5' := hk4.cell m5 hgn han
      have HK4 := Lib.hid (HK2.out.trans hk4)
      have HA4 := Lib.hid ha4
      have HW4 := Lib.hid hw4
      have HR := Lib.hid hr
      clear hk4 ha4 hw4 hr m0 m4 m5
      have heb := he b0
      go_wp2_with fail
      refine (want_any g tv q0 none av (b0 == u) p _ HW4.out).mono ?_
      rintro e w5 ⟨rfl, hk5, hw5⟩
      have HK5 := Lib.hid (HK4.out.trans (Keep2.one hk5))
      have HA5 := Lib.hid (HA4.out.keep hk5 HNE.out)
      have HW5 := Lib.hid hw5
      clear hk5 hw5 m5' he heb
      go_wp2_with fail
      go_ret
      unfold TyRes
      rw [X.out, HR.out]
      by_cases hbu : b0 = u
      · subst hbu
        have : bodyM p (.fn t b0) b0 (.ok (b0, q0)) = .ok (.fn t b0, q0) := by simp [bodyM]
        rw [this]
        have h5 := HW5.out
        rw [beq_self_eq_true, if_pos rfl] at h5
        exact ⟨_, rfl, HK5.out, HA5.out, rfl, h5⟩
      · have : bodyM p (.fn t u) u (.ok (b0, q0)) = .error (23, p) := by simp [bodyM, hbu]
        rw [this]
        have h5 := HW5.out
        rw [beq_eq_false_iff_ne.2 hbu] at h5
        exact ⟨_, rfl, HK5.out, HA5.out, _, h5⟩
  · rw [if_neg hf] at hw1
    have X := Lib.hid (fnM_large (T := T) (f := f) (env' := t :: env) (p := p) hf)
    have c2 := hw1.2.c2
    have HW1 := Lib.hid hw1
    clear hw1 hl
    go_wp2_with fail
    go_ret
    unfold TyRes
    rw [X.out]
    exact ⟨_, rfl, Keep2.one HK1.out, HI1.out.all, _, HW1.out⟩
set_option maxHeartbeats 1600000 in
theorem rf_rec {T : List Nd} {f : Nat} (ih : KidR T f) (kd n : Int) (s : ByteArray) (t u : Ty) (l c : Int) (ht : t.fits) (hu : u.fits) (g a : Nat) (tv av ev : Value) (env : List Ty) (p q : Nat) (w : World)
    (hI : RInv T g a tv av w) (hw : WkS g tv ((p : Int) + 1) none av w) (he : TysX a w ev env) (hfit : ∀ t ∈ env, t.fits) (hlen : env.length + 2 * (f + 1) ≤ 3000) (hsz : ∀ x ∈ T, szOk x) (hq : shapeM T f (p + 1) = .ok q) :
    Calls Try.prog 66 #[.pointer (some ⟨g, 0, none⟩), (Nd.mk 6 kd n s t.str u.str l c).val, .int .i64 p, ev] w (TyRes T g a tv av w (fnM T f (t :: .fn t u :: env) p t u)) := by
  unfold Nd.val Nd.cells
  have hB0 : ∀ o, Below w.heap.size w (w.alloc o) := fun o => (Below.refl _ _).alloc (Nat.le_refl _) o
  have hgw : g < w.heap.size := Wk.lt (show Wk g tv _ 0 0 av w from hw)
  have haw := hI.all.lt
  have hss := str_size_le ht
  have hss2 := str_size_le hu
  have hl := str_fn t u
  have HI := Lib.hid (fun o => hI.later (hB0 o))
  have HW := Lib.hid (fun o => hw.later (hB0 o))
  have HE := Lib.hid (fun o => he.later (hB0 o))
  have HTS := Lib.hid hI.ts
  have HAS := Lib.hid hI.as
  have HNE := Lib.hid hI.ne
  clear hI hw he
  go_enter Try.func66, Try.ntmps66
  go_wp2_with fail
  refine (rmade_any g tv ((p : Int) + 1) none av (.fn t u) p _ (HW.out _)).mono ?_
  rintro e w1 ⟨rfl, hk, hw1⟩
  have HK1 := Lib.hid (((Keep.refl g w).alloc _).trans hk)
  have hgn : w.heap.size ≠ g := by omega
  have han : w.heap.size ≠ a := by omega
  have m0 : w1.cell? ⟨w.heap.size, 0, none⟩ = some (.int .i8 6) := hk.cell (by rw [World.cell?_alloc_at _ _ _ _ rfl]; rfl) hgn
  have m4 : w1.cell? ⟨w.heap.size, 4, none⟩ = some (.string t.str) := hk.cell (by rw [World.cell?_alloc_at _ _ _ _ rfl]; rfl) hgn
  have m5 : w1.cell? ⟨w.heap.size, 5, none⟩ = some (.string u.str) := hk.cell (by rw [World.cell?_alloc_at _ _ _ _ rfl]; rfl) hgn
  have HI1 := Lib.hid ((HI.out _).keep hk)
  have HE1 := Lib.hid ((HE.out _).keep (Keep2.one hk) (HW.out _) HTS.out HAS.out)
  have hsz1 : w.heap.size + 1 ≤ w1.heap.size := by have := hk.size; simpa using this
  clear hk
  by_cases hf : (Ty.fn t u).enc.length ≤ 64
  · rw [if_pos hf] at hw1
    have X := Lib.hid (fnM_fits (T := T) (f := f) (env' := t :: .fn t u :: env) (p := p) hf)
    have c2 := Wk.c2 (show Wk g tv _ 0 0 av w1 from hw1)
    have HW1 := Lib.hid hw1
    clear hw1 hl
    go_wp2_with fail
    have hB1 : ∀ o, Below w1.heap.size w1 (w1.alloc o) := fun o => (Below.refl _ _).alloc (Nat.le_refl _) o
    refine (under_x a ev _ [t] env _ (by simp; omega) (tys_lit1 w1 t) ((HE1.out.later (hB1 _)).1) (by simp; omega)).mono ?_
    rintro e w2 ⟨v2, rfl, ht2, hb2⟩
    have hb2' := (hB1 _).trans (hb2.mono (by simp))
    have HB2 := Lib.hid hb2'
    replace m0 := cell_later hb2' m0
    replace m4 := cell_later hb2' m4
    replace m5 := cell_later hb2' m5
    have HW2 := Lib.hid (HW1.out.later hb2')
    have HI2 := Lib.hid (HI1.out.later hb2')
    have HE2 := Lib.hid (HE1.out.later hb2')
    have HK2 := Lib.hid ((Keep2.one (a := a) HK1.out).trans (Keep2.of hb2'))
    have HT2 := Lib.hid ht2
    have hsz2 : w.heap.size + 1 ≤ w2.heap.size := Nat.le_trans hsz1 hb2'.size
    clear hb2 hb2' ht2 c2 HW1 HI1 HE1 hB1
    go_wp2_with fail
    have hB2 : ∀ o, Below _ _ ((_ : World).alloc o) := fun o => (Below.refl _ w2).alloc (Nat.le_refl _) o
    refine (under_x a ev _ [t, .fn t u] env _ (by simp; omega) (tys_lit2 w2 t (.fn t u)) ((HE2.out.later (hB2 _)).1) (by simp; omega)).mono ?_
    rintro e w3 ⟨v3, rfl, ht3, hb3⟩
    have hb3' := (hB2 _).trans (hb3.mono (by simp))
    replace m0 := cell_later hb3' m0
    replace m4 := cell_later hb3' m4
    replace m5 := cell_later hb3' m5
    replace HW2 := Lib.hid (HW2.out.later hb3')
    replace HI2 := Lib.hid (HI2.out.later hb3')
    replace HK2 := Lib.hid (HK2.out.trans (Keep2.of hb3'))
    replace HT2 := Lib.hid ht3
    clear hb3 hb3' ht3 hB2 HE2 HB2
    go_wp2_with fail
    refine (ih g a tv av _ (t :: .fn t u :: env) (p + 1) q _ ⟨HI2.out, HW2.out, HT2.out, fits_cons ht (fits_cons hf hfit), by simp; omega, hsz, hq⟩).mono ?_
    have he := fun b0 : Ty => str_same b0 u
    unfold TyRes
    cases hr : typedM T f (t :: .fn t u :: env) (p + 1) with
    | error fl =>
      rintro e w4 ⟨us, rfl, hk4, ha4, q4, hw4⟩
      have m5' := hk4.cell m5 hgn han
      have HK4 := Lib.hid (HK2.out.trans hk4)
      have HA4 := Lib.hid ha4
      have HW4 := Lib.hid hw4
      have HR := Lib.hid hr
      clear hk4 ha4 hw4 hr m0 m4 m5 he
      go_wp2_with fail
      refine (want_any g tv q4 (some fl) av _ p _ HW4.out).mono ?_
      rintro e w5 ⟨rfl, hk5, hw5⟩
      have HK5 := Lib.hid (HK4.out.trans (Keep2.one hk5))
      have HA5 := Lib.hid (HA4.out.keep hk5 HNE.out)
      have HW5 : Hid (WkS g tv q4 (some fl) av w5) := by
        have : ∀ b : Bool, (if b then some fl else failS (some fl) (23, p)) = some fl := fun b => by cases b <;> rfl
        rw [this] at hw5
        exact hw5
      clear hk5 hw5 m5'
      go_wp2_with fail
      go_ret
      unfold TyRes
      rw [X.out, HR.out]
      exact ⟨_, rfl, HK5.out, HA5.out, _, HW5.out⟩
    | ok bq =>
      obtain ⟨b0, q0⟩ := bq
      rintro e w4 ⟨us, rfl, hk4, ha4, rfl, hw4⟩
      have m5' := hk4.cell m5 hgn han
      have HK4 := Lib.hid (HK2.out.trans hk4)
      have HA4 := Lib.hid ha4
      have HW4 := Lib.hid hw4
      have HR := Lib.hid hr
      clear hk4 ha4 hw4 hr m0 m4 m5
      have heb := he b0
      go_wp2_with fail
      refine (want_any g tv q0 none av (b0 == u) p _ HW4.out).mono ?_
      rintro e w5 ⟨rfl, hk5, hw5⟩
      have HK5 := Lib.hid (HK4.out.trans (Keep2.one hk5))
      have HA5 := Lib.hid (HA4.out.keep hk5 HNE.out)
      have HW5 := Lib.hid hw5
      clear hk5 hw5 m5' he heb
      go_wp2_with fail
      go_ret
      unfold TyRes
      rw [X.out, HR.out]
      by_cases hbu : b0 = u
      · subst hbu
        have : bodyM p (.fn t b0) b0 (.ok (b0, q0)) = .ok (.fn t b0, q0) := by simp [bodyM]
        rw [this]
        have h5 := HW5.out
        rw [beq_self_eq_true, if_pos rfl] at h5
        exact ⟨_, rfl, HK5.out, HA5.out, rfl, h5⟩
      · have : bodyM p (.fn t u) u (.ok (b0, q0)) = .error (23, p) := by simp [bodyM, hbu]
        rw [this]
        have h5 := HW5.out
        rw [beq_eq_false_iff_ne.2 hbu] at h5
        exact ⟨_, rfl, HK5.out, HA5.out, _, h5⟩
  · rw [if_neg hf] at hw1
    have X := Lib.hid (fnM_large (T := T) (f := f) (env' := t :: .fn t u :: env) (p := p) hf)
    have c2 := hw1.2.c2
    have HW1 := Lib.hid hw1
    clear hw1 hl
    go_wp2_with fail
    go_ret
    unfold TyRes
    rw [X.out]
    exact ⟨_, rfl, Keep2.one HK1.out, HI1.out.all, _, HW1.out⟩
end Go.Proofs.Ytnmhiddahfnkoaa

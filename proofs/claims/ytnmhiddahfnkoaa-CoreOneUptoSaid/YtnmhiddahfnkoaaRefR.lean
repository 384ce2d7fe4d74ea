/- Walks of the document's answer for layer 10: the rules. -/
import Derived.Test.YtnmhiddahfnkoaaRefA
namespace Go.Proofs.Ytnmhiddahfnkoaa
set_option linter.unusedSimpArgs false
set_option linter.unusedVariables false
open Go.RowKit Culp

theorem wk_ne {g : Nat} {tv av : Value} {p e n : Int} {w : World} (h : Wk g tv p e n av w) (ht : ∀ s, tv ≠ .string s) (ha : ∀ s, av ≠ .string s) {b i : Nat} {s : ByteArray} (hu : w.cell? ⟨b, i, none⟩ = some (.string s)) : b ≠ g := by
  rintro rfl
  unfold Wk at h
  simp only [World.cell?, h] at hu
  match i, hu with
  | 0, hu => simp at hu; exact ht _ hu
  | 1, hu => simp at hu
  | 2, hu => simp at hu
  | 3, hu => simp at hu
  | 4, hu => simp at hu; exact ha _ hu
  | i + 5, hu => simp at hu
theorem none_beq (t : Ty) : (noneS.toList == t.str.toList) = false := by
  rw [toL, toL, beq_eq_false_iff_ne]
  intro h
  have h2 : t.str = noneS := by apply ByteArray.ext; apply Array.ext'; exact h.symm
  exact none_ne t h2

/-- A fault of a rule, if its ask fails. -/
def askS (b : Bool) (p : Nat) : Option Flt := if b then none else some (23, p)

/-- One kid. -/
def R1 (x : Nd) (a : Ty) (b : Bool) (u : ByteArray) : Prop := ∀ (g : Nat) (tv av : Value) (q : Int) (p : Nat) (w : World), WkS g tv q none av w → (∀ s, tv ≠ .string s) → (∀ s, av ≠ .string s) → ∀ gk cap : Nat, w.cell? ⟨gk, 0, none⟩ = some (.string a.str) →
  Calls Try.prog 70 #[.pointer (some ⟨g, 0, none⟩), x.val, .slice (some ⟨gk, 0, none⟩) 1 cap, .int .i64 p] w (AskRes g tv q (askS b p) av (.string u) w)
/-- Two kids. -/
def R2 (x : Nd) (a c : Ty) (b : Bool) (u : ByteArray) : Prop := ∀ (g : Nat) (tv av : Value) (q : Int) (p : Nat) (w : World), WkS g tv q none av w → (∀ s, tv ≠ .string s) → (∀ s, av ≠ .string s) → ∀ gk cap : Nat, w.cell? ⟨gk, 0, none⟩ = some (.string a.str) → w.cell? ⟨gk, 1, none⟩ = some (.string c.str) →
  Calls Try.prog 70 #[.pointer (some ⟨g, 0, none⟩), x.val, .slice (some ⟨gk, 0, none⟩) 2 cap, .int .i64 p] w (AskRes g tv q (askS b p) av (.string u) w)

set_option maxRecDepth 100000 in
set_option maxHeartbeats 1600000 in
theorem rr_neg (kd n : Int) (s t u : ByteArray) (l c : Int) (a : Ty) (b : Bool) (hb : (a.str.toList == [105]) = b) : R1 ⟨16, kd, n, s, t, u, l, c⟩ a b Ty.int.str := by
  intro g tv av q p w hw ht ha gk cap hk0
  unfold Nd.val Nd.cells
  have hB0 : ∀ o, Below w.heap.size w (w.alloc o) := fun o => (Below.refl _ _).alloc (Nat.le_refl _) o
  have hgw : g < w.heap.size := Wk.lt (show Wk g tv q 0 0 av w from hw)
  have hgk : gk ≠ g := wk_ne (show Wk g tv q 0 0 av w from hw) ht ha hk0
  have j0 : ∀ o, (w.alloc o).cell? ⟨gk, 0, none⟩ = _ := fun o => cell_later (hB0 o) hk0
  have HW := Lib.hid (fun o => hw.later (hB0 o))
  clear hw ht ha
  have hb' := hb
  clear hk0
  go_enter Try.func70, Try.ntmps70
  go_wp2_with fail
  refine (want_any g tv q none av b p _ (HW.out _)).mono ?_
  rintro e w' ⟨rfl, hk, hw⟩
  have HK := Lib.hid (((Keep.refl g w).alloc _).trans hk)
  have HWn := Lib.hid hw
  have r0 := hk.cell (j0 _) hgk
  clear hk hw r0 j0 hb hb'
  go_wp2_with fail
  go_ret
  exact ⟨rfl, HK.out, HWn.out⟩
set_option maxRecDepth 100000 in
set_option maxHeartbeats 1600000 in
theorem rr_size (kd n : Int) (s t u : ByteArray) (l c : Int) (a : Ty) (b : Bool) (hb : (a.str.toList == [116]) = b) : R1 ⟨17, kd, n, s, t, u, l, c⟩ a b Ty.int.str := by
  intro g tv av q p w hw ht ha gk cap hk0
  unfold Nd.val Nd.cells
  have hB0 : ∀ o, Below w.heap.size w (w.alloc o) := fun o => (Below.refl _ _).alloc (Nat.le_refl _) o
  have hgw : g < w.heap.size := Wk.lt (show Wk g tv q 0 0 av w from hw)
  have hgk : gk ≠ g := wk_ne (show Wk g tv q 0 0 av w from hw) ht ha hk0
  have j0 : ∀ o, (w.alloc o).cell? ⟨gk, 0, none⟩ = _ := fun o => cell_later (hB0 o) hk0
  have HW := Lib.hid (fun o => hw.later (hB0 o))
  clear hw ht ha
  have hb' := hb
  clear hk0
  go_enter Try.func70, Try.ntmps70
  go_wp2_with fail
  refine (want_any g tv q none av b p _ (HW.out _)).mono ?_
  rintro e w' ⟨rfl, hk, hw⟩
  have HK := Lib.hid (((Keep.refl g w).alloc _).trans hk)
  have HWn := Lib.hid hw
  have r0 := hk.cell (j0 _) hgk
  clear hk hw r0 j0 hb hb'
  go_wp2_with fail
  go_ret
  exact ⟨rfl, HK.out, HWn.out⟩

set_option maxRecDepth 100000 in
set_option maxHeartbeats 1600000 in
theorem rr_add (kd n : Int) (s t u : ByteArray) (l c : Int) (a d : Ty) (b1 b2 : Bool) (h1 : (a.str.toList == [105]) = b1) (h2 : (d.str.toList == [105]) = b2) : R2 ⟨10, kd, n, s, t, u, l, c⟩ a d (b1 && b2) Ty.int.str := by
  cases b1
  all_goals
    intro g tv av q p w hw ht ha gk cap hk0 hk1
    unfold Nd.val Nd.cells
    have hB0 : ∀ o, Below w.heap.size w (w.alloc o) := fun o => (Below.refl _ _).alloc (Nat.le_refl _) o
    have hgw : g < w.heap.size := Wk.lt (show Wk g tv q 0 0 av w from hw)
    have hgk : gk ≠ g := wk_ne (show Wk g tv q 0 0 av w from hw) ht ha hk0
    have j0 : ∀ o, (w.alloc o).cell? ⟨gk, 0, none⟩ = _ := fun o => cell_later (hB0 o) hk0
    have j1 : ∀ o, (w.alloc o).cell? ⟨gk, 1, none⟩ = _ := fun o => cell_later (hB0 o) hk1
    have HW := Lib.hid (fun o => hw.later (hB0 o))
    clear hw ht ha
    clear hk0 hk1
    go_enter Try.func70, Try.ntmps70
    go_wp2_with fail
    refine (want_any g tv q none av _ p _ (HW.out _)).mono ?_
    rintro e w' ⟨rfl, hk, hw⟩
    have HK := Lib.hid (((Keep.refl g w).alloc _).trans hk)
    have HWn := Lib.hid hw
    have r0 := hk.cell (j0 _) hgk
    clear hk hw r0 j0 j1 h1 h2
    go_wp2_with fail
    go_ret
    exact ⟨rfl, HK.out, HWn.out⟩
set_option maxRecDepth 100000 in
set_option maxHeartbeats 1600000 in
theorem rr_sub (kd n : Int) (s t u : ByteArray) (l c : Int) (a d : Ty) (b1 b2 : Bool) (h1 : (a.str.toList == [105]) = b1) (h2 : (d.str.toList == [105]) = b2) : R2 ⟨11, kd, n, s, t, u, l, c⟩ a d (b1 && b2) Ty.int.str := by
  cases b1
  all_goals
    intro g tv av q p w hw ht ha gk cap hk0 hk1
    unfold Nd.val Nd.cells
    have hB0 : ∀ o, Below w.heap.size w (w.alloc o) := fun o => (Below.refl _ _).alloc (Nat.le_refl _) o
    have hgw : g < w.heap.size := Wk.lt (show Wk g tv q 0 0 av w from hw)
    have hgk : gk ≠ g := wk_ne (show Wk g tv q 0 0 av w from hw) ht ha hk0
    have j0 : ∀ o, (w.alloc o).cell? ⟨gk, 0, none⟩ = _ := fun o => cell_later (hB0 o) hk0
    have j1 : ∀ o, (w.alloc o).cell? ⟨gk, 1, none⟩ = _ := fun o => cell_later (hB0 o) hk1
    have HW := Lib.hid (fun o => hw.later (hB0 o))
    clear hw ht ha
    clear hk0 hk1
    go_enter Try.func70, Try.ntmps70
    go_wp2_with fail
    refine (want_any g tv q none av _ p _ (HW.out _)).mono ?_
    rintro e w' ⟨rfl, hk, hw⟩
    have HK := Lib.hid (((Keep.refl g w).alloc _).trans hk)
    have HWn := Lib.hid hw
    have r0 := hk.cell (j0 _) hgk
    clear hk hw r0 j0 j1 h1 h2
    go_wp2_with fail
    go_ret
    exact ⟨rfl, HK.out, HWn.out⟩
set_option maxRecDepth 100000 in
set_option maxHeartbeats 1600000 in
theorem rr_mul (kd n : Int) (s t u : ByteArray) (l c : Int) (a d : Ty) (b1 b2 : Bool) (h1 : (a.str.toList == [105]) = b1) (h2 : (d.str.toList == [105]) = b2) : R2 ⟨12, kd, n, s, t, u, l, c⟩ a d (b1 && b2) Ty.int.str := by
  cases b1
  all_goals
    intro g tv av q p w hw ht ha gk cap hk0 hk1
    unfold Nd.val Nd.cells
    have hB0 : ∀ o, Below w.heap.size w (w.alloc o) := fun o => (Below.refl _ _).alloc (Nat.le_refl _) o
    have hgw : g < w.heap.size := Wk.lt (show Wk g tv q 0 0 av w from hw)
    have hgk : gk ≠ g := wk_ne (show Wk g tv q 0 0 av w from hw) ht ha hk0
    have j0 : ∀ o, (w.alloc o).cell? ⟨gk, 0, none⟩ = _ := fun o => cell_later (hB0 o) hk0
    have j1 : ∀ o, (w.alloc o).cell? ⟨gk, 1, none⟩ = _ := fun o => cell_later (hB0 o) hk1
    have HW := Lib.hid (fun o => hw.later (hB0 o))
    clear hw ht ha
    clear hk0 hk1
    go_enter Try.func70, Try.ntmps70
    go_wp2_with fail
    refine (want_any g tv q none av _ p _ (HW.out _)).mono ?_
    rintro e w' ⟨rfl, hk, hw⟩
    have HK := Lib.hid (((Keep.refl g w).alloc _).trans hk)
    have HWn := Lib.hid hw
    have r0 := hk.cell (j0 _) hgk
    clear hk hw r0 j0 j1 h1 h2
    go_wp2_with fail
    go_ret
    exact ⟨rfl, HK.out, HWn.out⟩
set_option maxRecDepth 100000 in
set_option maxHeartbeats 1600000 in
theorem rr_join (kd n : Int) (s t u : ByteArray) (l c : Int) (a d : Ty) (b1 b2 : Bool) (h1 : (a.str.toList == [116]) = b1) (h2 : (d.str.toList == [116]) = b2) : R2 ⟨13, kd, n, s, t, u, l, c⟩ a d (b1 && b2) Ty.text.str := by
  cases b1
  all_goals
    intro g tv av q p w hw ht ha gk cap hk0 hk1
    unfold Nd.val Nd.cells
    have hB0 : ∀ o, Below w.heap.size w (w.alloc o) := fun o => (Below.refl _ _).alloc (Nat.le_refl _) o
    have hgw : g < w.heap.size := Wk.lt (show Wk g tv q 0 0 av w from hw)
    have hgk : gk ≠ g := wk_ne (show Wk g tv q 0 0 av w from hw) ht ha hk0
    have j0 : ∀ o, (w.alloc o).cell? ⟨gk, 0, none⟩ = _ := fun o => cell_later (hB0 o) hk0
    have j1 : ∀ o, (w.alloc o).cell? ⟨gk, 1, none⟩ = _ := fun o => cell_later (hB0 o) hk1
    have HW := Lib.hid (fun o => hw.later (hB0 o))
    clear hw ht ha
    clear hk0 hk1
    go_enter Try.func70, Try.ntmps70
    go_wp2_with fail
    refine (want_any g tv q none av _ p _ (HW.out _)).mono ?_
    rintro e w' ⟨rfl, hk, hw⟩
    have HK := Lib.hid (((Keep.refl g w).alloc _).trans hk)
    have HWn := Lib.hid hw
    have r0 := hk.cell (j0 _) hgk
    clear hk hw r0 j0 j1 h1 h2
    go_wp2_with fail
    go_ret
    exact ⟨rfl, HK.out, HWn.out⟩
set_option maxRecDepth 100000 in
set_option maxHeartbeats 1600000 in
theorem rr_eq (kd n : Int) (s t u : ByteArray) (l c : Int) (a d : Ty) (b1 b2 : Bool) (h1 : (a.str.toList == [105]) = b1) (h2 : (d.str.toList == [105]) = b2) : R2 ⟨14, kd, n, s, t, u, l, c⟩ a d (b1 && b2) Ty.bool.str := by
  cases b1
  all_goals
    intro g tv av q p w hw ht ha gk cap hk0 hk1
    unfold Nd.val Nd.cells
    have hB0 : ∀ o, Below w.heap.size w (w.alloc o) := fun o => (Below.refl _ _).alloc (Nat.le_refl _) o
    have hgw : g < w.heap.size := Wk.lt (show Wk g tv q 0 0 av w from hw)
    have hgk : gk ≠ g := wk_ne (show Wk g tv q 0 0 av w from hw) ht ha hk0
    have j0 : ∀ o, (w.alloc o).cell? ⟨gk, 0, none⟩ = _ := fun o => cell_later (hB0 o) hk0
    have j1 : ∀ o, (w.alloc o).cell? ⟨gk, 1, none⟩ = _ := fun o => cell_later (hB0 o) hk1
    have HW := Lib.hid (fun o => hw.later (hB0 o))
    clear hw ht ha
    clear hk0 hk1
    go_enter Try.func70, Try.ntmps70
    go_wp2_with fail
    refine (want_any g tv q none av _ p _ (HW.out _)).mono ?_
    rintro e w' ⟨rfl, hk, hw⟩
    have HK := Lib.hid (((Keep.refl g w).alloc _).trans hk)
    have HWn := Lib.hid hw
    have r0 := hk.cell (j0 _) hgk
    clear hk hw r0 j0 j1 h1 h2
    go_wp2_with fail
    go_ret
    exact ⟨rfl, HK.out, HWn.out⟩
set_option maxRecDepth 100000 in
set_option maxHeartbeats 1600000 in
theorem rr_less (kd n : Int) (s t u : ByteArray) (l c : Int) (a d : Ty) (b1 b2 : Bool) (h1 : (a.str.toList == [105]) = b1) (h2 : (d.str.toList == [105]) = b2) : R2 ⟨15, kd, n, s, t, u, l, c⟩ a d (b1 && b2) Ty.bool.str := by
  cases b1
  all_goals
    intro g tv av q p w hw ht ha gk cap hk0 hk1
    unfold Nd.val Nd.cells
    have hB0 : ∀ o, Below w.heap.size w (w.alloc o) := fun o => (Below.refl _ _).alloc (Nat.le_refl _) o
    have hgw : g < w.heap.size := Wk.lt (show Wk g tv q 0 0 av w from hw)
    have hgk : gk ≠ g := wk_ne (show Wk g tv q 0 0 av w from hw) ht ha hk0
    have j0 : ∀ o, (w.alloc o).cell? ⟨gk, 0, none⟩ = _ := fun o => cell_later (hB0 o) hk0
    have j1 : ∀ o, (w.alloc o).cell? ⟨gk, 1, none⟩ = _ := fun o => cell_later (hB0 o) hk1
    have HW := Lib.hid (fun o => hw.later (hB0 o))
    clear hw ht ha
    clear hk0 hk1
    go_enter Try.func70, Try.ntmps70
    go_wp2_with fail
    refine (want_any g tv q none av _ p _ (HW.out _)).mono ?_
    rintro e w' ⟨rfl, hk, hw⟩
    have HK := Lib.hid (((Keep.refl g w).alloc _).trans hk)
    have HWn := Lib.hid hw
    have r0 := hk.cell (j0 _) hgk
    clear hk hw r0 j0 j1 h1 h2
    go_wp2_with fail
    go_ret
    exact ⟨rfl, HK.out, HWn.out⟩

set_option maxRecDepth 100000 in
set_option maxHeartbeats 1600000 in
theorem rr_first (kd n : Int) (s t u : ByteArray) (l c : Int) (a : Ty) (b : Bool) (pv : ByteArray) (hb : (((a.hd.toNat : Nat) : Int) == 44) = b) (hp : ∀ w, Calls Try.prog 77 #[.string a.str, .int .u8 44, .int .i64 0] w (Gives (.string pv) w)) : R1 ⟨19, kd, n, s, t, u, l, c⟩ a b pv := by
  intro g tv av q p w hw ht ha gk cap hk0
  unfold Nd.val Nd.cells
  have hB0 : ∀ o, Below w.heap.size w (w.alloc o) := fun o => (Below.refl _ _).alloc (Nat.le_refl _) o
  have hgw : g < w.heap.size := Wk.lt (show Wk g tv q 0 0 av w from hw)
  have hgk : gk ≠ g := wk_ne (show Wk g tv q 0 0 av w from hw) ht ha hk0
  have j0 : ∀ o, (w.alloc o).cell? ⟨gk, 0, none⟩ = _ := fun o => cell_later (hB0 o) hk0
  have HW := Lib.hid (fun o => hw.later (hB0 o))
  clear hw ht ha
  have hps : 0 < a.str.size := by rw [str_size]; exact a.enc_pos
  have i1 : (0 : Int) < (a.str.size : Int) := by omega
  have e1 := str_get a hps
  have wr0 : IntKind.i8.wrap 0 = 0 := by decide
  have wr1 : IntKind.i8.wrap 1 = 1 := by decide
  have hb' := hb
  clear hk0
  have HP := Lib.hid hp
  clear hp
  go_enter Try.func70, Try.ntmps70
  go_wp2_with fail
  refine (want_any g tv q none av b p _ (HW.out _)).mono ?_
  rintro e w' ⟨rfl, hk, hw⟩
  have HK := Lib.hid (((Keep.refl g w).alloc _).trans hk)
  have HWn := Lib.hid hw
  have r0 := hk.cell (j0 _) hgk
  have hbn : w'.cell? ⟨w.heap.size, 0, none⟩ = some (.int .i8 19) := hk.cell (by rw [World.cell?_alloc_at _ _ _ _ rfl]; rfl) (by simp only; omega)
  clear hk hw j0 hb hb'
  go_wp2_with fail
  refine (HP.out _).mono ?_
  rintro e w2 ⟨rfl, rfl⟩
  go_wp2_with fail
  go_ret
  exact ⟨rfl, HK.out, HWn.out⟩
set_option maxRecDepth 100000 in
set_option maxHeartbeats 1600000 in
theorem rr_second (kd n : Int) (s t u : ByteArray) (l c : Int) (a : Ty) (b : Bool) (pv : ByteArray) (hb : (((a.hd.toNat : Nat) : Int) == 44) = b) (hp : ∀ w, Calls Try.prog 77 #[.string a.str, .int .u8 44, .int .i64 1] w (Gives (.string pv) w)) : R1 ⟨20, kd, n, s, t, u, l, c⟩ a b pv := by
  intro g tv av q p w hw ht ha gk cap hk0
  unfold Nd.val Nd.cells
  have hB0 : ∀ o, Below w.heap.size w (w.alloc o) := fun o => (Below.refl _ _).alloc (Nat.le_refl _) o
  have hgw : g < w.heap.size := Wk.lt (show Wk g tv q 0 0 av w from hw)
  have hgk : gk ≠ g := wk_ne (show Wk g tv q 0 0 av w from hw) ht ha hk0
  have j0 : ∀ o, (w.alloc o).cell? ⟨gk, 0, none⟩ = _ := fun o => cell_later (hB0 o) hk0
  have HW := Lib.hid (fun o => hw.later (hB0 o))
  clear hw ht ha
  have hps : 0 < a.str.size := by rw [str_size]; exact a.enc_pos
  have i1 : (0 : Int) < (a.str.size : Int) := by omega
  have e1 := str_get a hps
  have wr0 : IntKind.i8.wrap 0 = 0 := by decide
  have wr1 : IntKind.i8.wrap 1 = 1 := by decide
  have hb' := hb
  clear hk0
  have HP := Lib.hid hp
  clear hp
  go_enter Try.func70, Try.ntmps70
  go_wp2_with fail
  refine (want_any g tv q none av b p _ (HW.out _)).mono ?_
  rintro e w' ⟨rfl, hk, hw⟩
  have HK := Lib.hid (((Keep.refl g w).alloc _).trans hk)
  have HWn := Lib.hid hw
  have r0 := hk.cell (j0 _) hgk
  have hbn : w'.cell? ⟨w.heap.size, 0, none⟩ = some (.int .i8 20) := hk.cell (by rw [World.cell?_alloc_at _ _ _ _ rfl]; rfl) (by simp only; omega)
  clear hk hw j0 hb hb'
  go_wp2_with fail
  refine (HP.out _).mono ?_
  rintro e w2 ⟨rfl, rfl⟩
  go_wp2_with fail
  go_ret
  exact ⟨rfl, HK.out, HWn.out⟩
set_option maxRecDepth 100000 in
set_option maxHeartbeats 1600000 in
theorem rr_head (kd n : Int) (s t u : ByteArray) (l c : Int) (a : Ty) (b : Bool) (pv : ByteArray) (hb : (((a.hd.toNat : Nat) : Int) == 108) = b) (hp : ∀ w, Calls Try.prog 77 #[.string a.str, .int .u8 108, .int .i64 0] w (Gives (.string pv) w)) : R1 ⟨22, kd, n, s, t, u, l, c⟩ a b pv := by
  intro g tv av q p w hw ht ha gk cap hk0
  unfold Nd.val Nd.cells
  have hB0 : ∀ o, Below w.heap.size w (w.alloc o) := fun o => (Below.refl _ _).alloc (Nat.le_refl _) o
  have hgw : g < w.heap.size := Wk.lt (show Wk g tv q 0 0 av w from hw)
  have hgk : gk ≠ g := wk_ne (show Wk g tv q 0 0 av w from hw) ht ha hk0
  have j0 : ∀ o, (w.alloc o).cell? ⟨gk, 0, none⟩ = _ := fun o => cell_later (hB0 o) hk0
  have HW := Lib.hid (fun o => hw.later (hB0 o))
  clear hw ht ha
  have hps : 0 < a.str.size := by rw [str_size]; exact a.enc_pos
  have i1 : (0 : Int) < (a.str.size : Int) := by omega
  have e1 := str_get a hps
  have wr0 : IntKind.i8.wrap 0 = 0 := by decide
  have wr1 : IntKind.i8.wrap 1 = 1 := by decide
  have hb' := hb
  clear hk0
  have HP := Lib.hid hp
  clear hp
  go_enter Try.func70, Try.ntmps70
  go_wp2_with fail
  refine (want_any g tv q none av b p _ (HW.out _)).mono ?_
  rintro e w' ⟨rfl, hk, hw⟩
  have HK := Lib.hid (((Keep.refl g w).alloc _).trans hk)
  have HWn := Lib.hid hw
  have r0 := hk.cell (j0 _) hgk
  have hbn : w'.cell? ⟨w.heap.size, 0, none⟩ = some (.int .i8 22) := hk.cell (by rw [World.cell?_alloc_at _ _ _ _ rfl]; rfl) (by simp only; omega)
  clear hk hw j0 hb hb'
  go_wp2_with fail
  refine (HP.out _).mono ?_
  rintro e w2 ⟨rfl, rfl⟩
  go_wp2_with fail
  go_ret
  exact ⟨rfl, HK.out, HWn.out⟩
set_option maxRecDepth 100000 in
set_option maxHeartbeats 1600000 in
theorem rr_get (kd n : Int) (s t u : ByteArray) (l c : Int) (a : Ty) (b : Bool) (pv : ByteArray) (hb : (((a.hd.toNat : Nat) : Int) == 120) = b) (hp : ∀ w, Calls Try.prog 77 #[.string a.str, .int .u8 120, .int .i64 0] w (Gives (.string pv) w)) : R1 ⟨27, kd, n, s, t, u, l, c⟩ a b pv := by
  intro g tv av q p w hw ht ha gk cap hk0
  unfold Nd.val Nd.cells
  have hB0 : ∀ o, Below w.heap.size w (w.alloc o) := fun o => (Below.refl _ _).alloc (Nat.le_refl _) o
  have hgw : g < w.heap.size := Wk.lt (show Wk g tv q 0 0 av w from hw)
  have hgk : gk ≠ g := wk_ne (show Wk g tv q 0 0 av w from hw) ht ha hk0
  have j0 : ∀ o, (w.alloc o).cell? ⟨gk, 0, none⟩ = _ := fun o => cell_later (hB0 o) hk0
  have HW := Lib.hid (fun o => hw.later (hB0 o))
  clear hw ht ha
  have hps : 0 < a.str.size := by rw [str_size]; exact a.enc_pos
  have i1 : (0 : Int) < (a.str.size : Int) := by omega
  have e1 := str_get a hps
  have wr0 : IntKind.i8.wrap 0 = 0 := by decide
  have wr1 : IntKind.i8.wrap 1 = 1 := by decide
  have hb' := hb
  clear hk0
  have HP := Lib.hid hp
  clear hp
  go_enter Try.func70, Try.ntmps70
  go_wp2_with fail
  refine (want_any g tv q none av b p _ (HW.out _)).mono ?_
  rintro e w' ⟨rfl, hk, hw⟩
  have HK := Lib.hid (((Keep.refl g w).alloc _).trans hk)
  have HWn := Lib.hid hw
  have r0 := hk.cell (j0 _) hgk
  have hbn : w'.cell? ⟨w.heap.size, 0, none⟩ = some (.int .i8 27) := hk.cell (by rw [World.cell?_alloc_at _ _ _ _ rfl]; rfl) (by simp only; omega)
  clear hk hw j0 hb hb'
  go_wp2_with fail
  refine (HP.out _).mono ?_
  rintro e w2 ⟨rfl, rfl⟩
  go_wp2_with fail
  go_ret
  exact ⟨rfl, HK.out, HWn.out⟩

set_option maxRecDepth 100000 in
set_option maxHeartbeats 1600000 in
theorem rr_tail (kd n : Int) (s t u : ByteArray) (l c : Int) (a : Ty) (b : Bool) (hb : (((a.hd.toNat : Nat) : Int) == 108) = b) : R1 ⟨23, kd, n, s, t, u, l, c⟩ a b (a).str := by
  intro g tv av q p w hw ht ha gk cap hk0
  unfold Nd.val Nd.cells
  have hB0 : ∀ o, Below w.heap.size w (w.alloc o) := fun o => (Below.refl _ _).alloc (Nat.le_refl _) o
  have hgw : g < w.heap.size := Wk.lt (show Wk g tv q 0 0 av w from hw)
  have hgk : gk ≠ g := wk_ne (show Wk g tv q 0 0 av w from hw) ht ha hk0
  have j0 : ∀ o, (w.alloc o).cell? ⟨gk, 0, none⟩ = _ := fun o => cell_later (hB0 o) hk0
  have HW := Lib.hid (fun o => hw.later (hB0 o))
  clear hw ht ha
  have hps : 0 < a.str.size := by rw [str_size]; exact a.enc_pos
  have i1 : (0 : Int) < (a.str.size : Int) := by omega
  have e1 := str_get a hps
  have hb' := hb
  clear hk0
  go_enter Try.func70, Try.ntmps70
  go_wp2_with fail
  refine (want_any g tv q none av b p _ (HW.out _)).mono ?_
  rintro e w' ⟨rfl, hk, hw⟩
  have HK := Lib.hid (((Keep.refl g w).alloc _).trans hk)
  have HWn := Lib.hid hw
  have r0 := hk.cell (j0 _) hgk
  clear hk hw j0 hb hb'
  go_wp2_with fail
  go_ret
  exact ⟨rfl, HK.out, HWn.out⟩
set_option maxRecDepth 100000 in
set_option maxHeartbeats 1600000 in
theorem rr_empty (kd n : Int) (s t u : ByteArray) (l c : Int) (a : Ty) (b : Bool) (hb : (((a.hd.toNat : Nat) : Int) == 108) = b) : R1 ⟨24, kd, n, s, t, u, l, c⟩ a b (Ty.bool).str := by
  intro g tv av q p w hw ht ha gk cap hk0
  unfold Nd.val Nd.cells
  have hB0 : ∀ o, Below w.heap.size w (w.alloc o) := fun o => (Below.refl _ _).alloc (Nat.le_refl _) o
  have hgw : g < w.heap.size := Wk.lt (show Wk g tv q 0 0 av w from hw)
  have hgk : gk ≠ g := wk_ne (show Wk g tv q 0 0 av w from hw) ht ha hk0
  have j0 : ∀ o, (w.alloc o).cell? ⟨gk, 0, none⟩ = _ := fun o => cell_later (hB0 o) hk0
  have HW := Lib.hid (fun o => hw.later (hB0 o))
  clear hw ht ha
  have hps : 0 < a.str.size := by rw [str_size]; exact a.enc_pos
  have i1 : (0 : Int) < (a.str.size : Int) := by omega
  have e1 := str_get a hps
  have hb' := hb
  clear hk0
  go_enter Try.func70, Try.ntmps70
  go_wp2_with fail
  refine (want_any g tv q none av b p _ (HW.out _)).mono ?_
  rintro e w' ⟨rfl, hk, hw⟩
  have HK := Lib.hid (((Keep.refl g w).alloc _).trans hk)
  have HWn := Lib.hid hw
  have r0 := hk.cell (j0 _) hgk
  clear hk hw j0 hb hb'
  go_wp2_with fail
  go_ret
  exact ⟨rfl, HK.out, HWn.out⟩

set_option maxRecDepth 100000 in
set_option maxHeartbeats 1600000 in
theorem rr_call (kd n : Int) (s t u : ByteArray) (l c : Int) (a d : Ty) (b : Bool) (pv pw : ByteArray) (hb : (pv.toList == d.str.toList) = b)
    (hp : ∀ w, Calls Try.prog 77 #[.string a.str, .int .u8 62, .int .i64 0] w (Gives (.string pv) w)) (hq : ∀ w, Calls Try.prog 77 #[.string a.str, .int .u8 62, .int .i64 1] w (Gives (.string pw) w)) : R2 ⟨7, kd, n, s, t, u, l, c⟩ a d b pw := by
  intro g tv av q p w hw ht ha gk cap hk0 hk1
  unfold Nd.val Nd.cells
  have hB0 : ∀ o, Below w.heap.size w (w.alloc o) := fun o => (Below.refl _ _).alloc (Nat.le_refl _) o
  have hgw : g < w.heap.size := Wk.lt (show Wk g tv q 0 0 av w from hw)
  have hgk : gk ≠ g := wk_ne (show Wk g tv q 0 0 av w from hw) ht ha hk0
  have j0 : ∀ o, (w.alloc o).cell? ⟨gk, 0, none⟩ = _ := fun o => cell_later (hB0 o) hk0
  have j1 : ∀ o, (w.alloc o).cell? ⟨gk, 1, none⟩ = _ := fun o => cell_later (hB0 o) hk1
  have HW := Lib.hid (fun o => hw.later (hB0 o))
  clear hw ht ha
  have HP := Lib.hid hp
  have HQ := Lib.hid hq
  clear hp hq hk0 hk1
  go_enter Try.func70, Try.ntmps70
  go_wp2_with fail
  refine wp_region_plan (S := fun w' => w'.cell? ⟨gk, 0, none⟩ = some (.string a.str) ∧ w'.cell? ⟨gk, 1, none⟩ = some (.string d.str))
    [(0, true), (1, true), (2, true), (3, true), (5, true), (6, true), (7, true), (9, true), (4, false), (8, true), (10, false)] (by kernel_rfl) (by kernel_rfl) (by kernel_rfl) (fun _ _ _ _ _ h => h) ⟨j0 _, j1 _⟩ ?_
  intro HS
  repeat (first | (apply wpPlan_look; rfl; rfl; (intro wq hq; (try dsimp only at hq); go_split_ands; go_simp; (try rw [if_neg (by omega)]); try with_reducible rfl); simp only [Act.put, List.setIfInBounds_toArray, List.set_cons_zero, List.set_cons_succ]) | (apply wpPlan_skip; rfl; rfl; simp only [Act.put, List.setIfInBounds_toArray, List.set_cons_zero, List.set_cons_succ]) | (apply wpPlan_pass; rfl; rfl; assumption; simp only [Act.put, List.setIfInBounds_toArray, List.set_cons_zero, List.set_cons_succ]))
  apply wpPlan_call; rfl; rfl; rfl; rfl; kernel_rfl; exact HP.out _; rfl; rintro e w' ⟨rfl, rfl⟩
  refine ⟨_, rfl, HS, ?_⟩
  simp only [Act.put, List.setIfInBounds_toArray, List.set_cons_zero, List.set_cons_succ]
  repeat (first | (apply wpPlan_look; rfl; rfl; (intro wq hq; (try dsimp only at hq); go_split_ands; go_simp; (try rw [if_neg (by omega)]); try with_reducible rfl); simp only [Act.put, List.setIfInBounds_toArray, List.set_cons_zero, List.set_cons_succ]) | (apply wpPlan_skip; rfl; rfl; simp only [Act.put, List.setIfInBounds_toArray, List.set_cons_zero, List.set_cons_succ]) | (apply wpPlan_pass; rfl; rfl; assumption; simp only [Act.put, List.setIfInBounds_toArray, List.set_cons_zero, List.set_cons_succ]))
  apply wpPlan_call; rfl; rfl; rfl; rfl; kernel_rfl; exact want_any g tv q none av b p _ ((HW.out _).later (Below.refl _ _).drew); rfl; rintro e w' ⟨rfl, hk, hw⟩
  have r0 := hk.cell HS.1 hgk
  have r1 := hk.cell HS.2 hgk
  have HK := Lib.hid ((((Keep.refl g w).alloc _).drew).trans hk)
  have HWn := Lib.hid hw
  refine ⟨_, rfl, ⟨r0, r1⟩, ?_⟩
  clear HS hk hw j0 j1 hb
  simp only [Act.put, List.setIfInBounds_toArray, List.set_cons_zero, List.set_cons_succ]
  apply wpPlan_done
  go_wp2_with fail
  refine (HQ.out _).mono ?_
  rintro e w2 ⟨rfl, rfl⟩
  go_wp2_with fail
  go_ret
  exact ⟨rfl, HK.out, HWn.out⟩

set_option maxRecDepth 100000 in
set_option maxHeartbeats 1600000 in
theorem rr_cons (kd n : Int) (s t u : ByteArray) (l c : Int) (a d : Ty) (b : Bool) (pv : ByteArray) (hb : (pv.toList == (a).str.toList) = b)
    (hp : ∀ w, Calls Try.prog 77 #[.string (d).str, .int .u8 108, .int .i64 0] w (Gives (.string pv) w)) : R2 ⟨25, kd, n, s, t, u, l, c⟩ a d b d.str := by
  intro g tv av q p w hw ht ha gk cap hk0 hk1
  unfold Nd.val Nd.cells
  have hB0 : ∀ o, Below w.heap.size w (w.alloc o) := fun o => (Below.refl _ _).alloc (Nat.le_refl _) o
  have hgw : g < w.heap.size := Wk.lt (show Wk g tv q 0 0 av w from hw)
  have hgk : gk ≠ g := wk_ne (show Wk g tv q 0 0 av w from hw) ht ha hk0
  have j0 : ∀ o, (w.alloc o).cell? ⟨gk, 0, none⟩ = _ := fun o => cell_later (hB0 o) hk0
  have j1 : ∀ o, (w.alloc o).cell? ⟨gk, 1, none⟩ = _ := fun o => cell_later (hB0 o) hk1
  have HW := Lib.hid (fun o => hw.later (hB0 o))
  clear hw ht ha
  have HP := Lib.hid hp
  clear hp hk0 hk1
  go_enter Try.func70, Try.ntmps70
  go_wp2_with fail
  refine wp_region_plan (S := fun w' => w'.cell? ⟨gk, 0, none⟩ = some (.string a.str) ∧ w'.cell? ⟨gk, 1, none⟩ = some (.string d.str))
    [(0, true), (1, true), (2, true), (3, true), (5, true), (6, true), (7, true), (9, true), (4, false), (8, true), (10, false)] (by kernel_rfl) (by kernel_rfl) (by kernel_rfl) (fun _ _ _ _ _ h => h) ⟨j0 _, j1 _⟩ ?_
  intro HS
  repeat (first | (apply wpPlan_look; rfl; rfl; (intro wq hq; (try dsimp only at hq); go_split_ands; go_simp; (try rw [if_neg (by omega)]); try with_reducible rfl); simp only [Act.put, List.setIfInBounds_toArray, List.set_cons_zero, List.set_cons_succ]) | (apply wpPlan_skip; rfl; rfl; simp only [Act.put, List.setIfInBounds_toArray, List.set_cons_zero, List.set_cons_succ]) | (apply wpPlan_pass; rfl; rfl; assumption; simp only [Act.put, List.setIfInBounds_toArray, List.set_cons_zero, List.set_cons_succ]))
  apply wpPlan_call; rfl; rfl; rfl; rfl; kernel_rfl; exact HP.out _; rfl; rintro e w' ⟨rfl, rfl⟩
  refine ⟨_, rfl, HS, ?_⟩
  simp only [Act.put, List.setIfInBounds_toArray, List.set_cons_zero, List.set_cons_succ]
  repeat (first | (apply wpPlan_look; rfl; rfl; (intro wq hq; (try dsimp only at hq); go_split_ands; go_simp; (try rw [if_neg (by omega)]); try with_reducible rfl); simp only [Act.put, List.setIfInBounds_toArray, List.set_cons_zero, List.set_cons_succ]) | (apply wpPlan_skip; rfl; rfl; simp only [Act.put, List.setIfInBounds_toArray, List.set_cons_zero, List.set_cons_succ]) | (apply wpPlan_pass; rfl; rfl; assumption; simp only [Act.put, List.setIfInBounds_toArray, List.set_cons_zero, List.set_cons_succ]))
  apply wpPlan_call; rfl; rfl; rfl; rfl; kernel_rfl; exact want_any g tv q none av b p _ ((HW.out _).later (Below.refl _ _).drew); rfl; rintro e w' ⟨rfl, hk, hw⟩
  have r0 := hk.cell HS.1 hgk
  have r1 := hk.cell HS.2 hgk
  have HK := Lib.hid ((((Keep.refl g w).alloc _).drew).trans hk)
  have HWn := Lib.hid hw
  refine ⟨_, rfl, ⟨r0, r1⟩, ?_⟩
  clear HS hk hw j0 j1 hb
  simp only [Act.put, List.setIfInBounds_toArray, List.set_cons_zero, List.set_cons_succ]
  apply wpPlan_done
  go_wp2_with fail
  go_ret
  exact ⟨rfl, HK.out, HWn.out⟩
set_option maxRecDepth 100000 in
set_option maxHeartbeats 1600000 in
theorem rr_set (kd n : Int) (s t u : ByteArray) (l c : Int) (a d : Ty) (b : Bool) (pv : ByteArray) (hb : (pv.toList == (d).str.toList) = b)
    (hp : ∀ w, Calls Try.prog 77 #[.string (a).str, .int .u8 120, .int .i64 0] w (Gives (.string pv) w)) : R2 ⟨28, kd, n, s, t, u, l, c⟩ a d b d.str := by
  intro g tv av q p w hw ht ha gk cap hk0 hk1
  unfold Nd.val Nd.cells
  have hB0 : ∀ o, Below w.heap.size w (w.alloc o) := fun o => (Below.refl _ _).alloc (Nat.le_refl _) o
  have hgw : g < w.heap.size := Wk.lt (show Wk g tv q 0 0 av w from hw)
  have hgk : gk ≠ g := wk_ne (show Wk g tv q 0 0 av w from hw) ht ha hk0
  have j0 : ∀ o, (w.alloc o).cell? ⟨gk, 0, none⟩ = _ := fun o => cell_later (hB0 o) hk0
  have j1 : ∀ o, (w.alloc o).cell? ⟨gk, 1, none⟩ = _ := fun o => cell_later (hB0 o) hk1
  have HW := Lib.hid (fun o => hw.later (hB0 o))
  clear hw ht ha
  have HP := Lib.hid hp
  clear hp hk0 hk1
  go_enter Try.func70, Try.ntmps70
  go_wp2_with fail
  refine wp_region_plan (S := fun w' => w'.cell? ⟨gk, 0, none⟩ = some (.string a.str) ∧ w'.cell? ⟨gk, 1, none⟩ = some (.string d.str))
    [(0, true), (1, true), (2, true), (3, true), (5, true), (6, true), (7, true), (9, true), (4, false), (8, true), (10, false)] (by kernel_rfl) (by kernel_rfl) (by kernel_rfl) (fun _ _ _ _ _ h => h) ⟨j0 _, j1 _⟩ ?_
  intro HS
  repeat (first | (apply wpPlan_look; rfl; rfl; (intro wq hq; (try dsimp only at hq); go_split_ands; go_simp; (try rw [if_neg (by omega)]); try with_reducible rfl); simp only [Act.put, List.setIfInBounds_toArray, List.set_cons_zero, List.set_cons_succ]) | (apply wpPlan_skip; rfl; rfl; simp only [Act.put, List.setIfInBounds_toArray, List.set_cons_zero, List.set_cons_succ]) | (apply wpPlan_pass; rfl; rfl; assumption; simp only [Act.put, List.setIfInBounds_toArray, List.set_cons_zero, List.set_cons_succ]))
  apply wpPlan_call; rfl; rfl; rfl; rfl; kernel_rfl; exact HP.out _; rfl; rintro e w' ⟨rfl, rfl⟩
  refine ⟨_, rfl, HS, ?_⟩
  simp only [Act.put, List.setIfInBounds_toArray, List.set_cons_zero, List.set_cons_succ]
  repeat (first | (apply wpPlan_look; rfl; rfl; (intro wq hq; (try dsimp only at hq); go_split_ands; go_simp; (try rw [if_neg (by omega)]); try with_reducible rfl); simp only [Act.put, List.setIfInBounds_toArray, List.set_cons_zero, List.set_cons_succ]) | (apply wpPlan_skip; rfl; rfl; simp only [Act.put, List.setIfInBounds_toArray, List.set_cons_zero, List.set_cons_succ]) | (apply wpPlan_pass; rfl; rfl; assumption; simp only [Act.put, List.setIfInBounds_toArray, List.set_cons_zero, List.set_cons_succ]))
  apply wpPlan_call; rfl; rfl; rfl; rfl; kernel_rfl; exact want_any g tv q none av b p _ ((HW.out _).later (Below.refl _ _).drew); rfl; rintro e w' ⟨rfl, hk, hw⟩
  have r0 := hk.cell HS.1 hgk
  have r1 := hk.cell HS.2 hgk
  have HK := Lib.hid ((((Keep.refl g w).alloc _).drew).trans hk)
  have HWn := Lib.hid hw
  refine ⟨_, rfl, ⟨r0, r1⟩, ?_⟩
  clear HS hk hw j0 j1 hb
  simp only [Act.put, List.setIfInBounds_toArray, List.set_cons_zero, List.set_cons_succ]
  apply wpPlan_done
  go_wp2_with fail
  go_ret
  exact ⟨rfl, HK.out, HWn.out⟩
end Go.Proofs.Ytnmhiddahfnkoaa


/- Walks of parse: types. -/
import Derived.Test.YtnhdbjhdmdefmaaDoorZd
namespace Culp.Gr
set_option linter.unusedSimpArgs false
set_option linter.unusedVariables false
open Go Go.RowKit Culp Culp.Tr Go.Proofs.YtnhdbjhdmdefmaaDoor
theorem ty_len {L : List Tok} : ∀ (n : Nat) (b : Bool) (i : Nat) (r : List UInt8 × Nat), ty L n b i = .ok r → r.1.length + i ≤ r.2 := by
  intro n
  induction n with
  | zero => intro b i r h; cases b <;> cases h
  | succ n ih =>
    intro b i r h
    cases b with
    | true =>
      rw [ty] at h
      obtain ⟨r1, h1, h⟩ := bnd_inv h
      have b1 := ih _ _ _ h1
      split at h
      · obtain ⟨q, h2, h⟩ := bnd_inv h
        have b2 := ih _ _ _ h2
        injection h with h; subst h
        simp only [List.length_cons, List.length_append]; omega
      · injection h with h; subst h; exact b1
    | false =>
      rw [ty] at h
      split at h
      · injection h with h; subst h
        simp only [List.length_take]; omega
      split at h
      · obtain ⟨q, h2, h⟩ := bnd_inv h
        have b2 := ih _ _ _ h2
        injection h with h; subst h
        simp only [List.length_cons]; omega
      split at h
      · injection h with h; subst h
        simp only [List.length_cons, List.length_nil]; omega
      split at h
      · obtain ⟨q, h2, h⟩ := bnd_inv h
        have b2 := ih _ _ _ h2
        obtain ⟨k, h3, h⟩ := bnd_inv h
        obtain ⟨rfl, -⟩ := want_inv h3
        injection h with h; subst h
        simp only [List.length_cons]; omega
      split at h
      · obtain ⟨q, h2, h⟩ := bnd_inv h
        have b2 := ih _ _ _ h2
        split at h
        · obtain ⟨q', h4, h⟩ := bnd_inv h
          have b4 := ih _ _ _ h4
          obtain ⟨k, h3, h⟩ := bnd_inv h
          obtain ⟨rfl, -⟩ := want_inv h3
          injection h with h; subst h
          simp only [List.length_cons, List.length_append]; omega
        · obtain ⟨k, h3, h⟩ := bnd_inv h
          obtain ⟨rfl, -⟩ := want_inv h3
          injection h with h; subst h
          show q.1.length + i ≤ q.2 + 1; omega
      · cases h
def StrR (_ : World) (v : Value) (s : List UInt8) : Prop := v = .string (by_ s)
def tyS (r : Except Nat (List UInt8 × Nat)) (lg : List Nat) : Except Nat (List UInt8 × Nat × List Nat) := bnd r fun q => .ok (q.1, q.2, lg)
theorem by_app (a b : List UInt8) : by_ a ++ by_ b = by_ (a ++ b) := by
  apply ByteArray.ext
  rw [ByteArray.data_append]
  simp [by_]
theorem tokC_lit2 (L : List Tok) (e : Nat × Nat) (i : Nat) : ∃ (b x y : Int), tokC L e i = #[.int .i8 (kd L i : Nat), .int .i64 b, .string (by_ (txt L i)), .int .i64 x, .int .i64 y] := ⟨_, _, _, rfl⟩
theorem no_true {b : Bool} (h : b = false) : ¬ b = true := by rw [h]; decide
theorem by_size (a : List UInt8) : (by_ a).size = a.length := by simp [by_, ByteArray.size]
section
variable {pb B i : Nat} {L : List Tok} {tv lv : Value} {e : Nat × Nat} {lg : List Nat} {w w1 : World}
/-- The parser steps on, and back. -/
theorem PS.back (h : PS pb B L tv e i lg lv w) (u : Value) : PS pb B L tv e i lg lv ((w.setCell ⟨pb, 1, none⟩ u).setCell ⟨pb, 1, none⟩ (.int .i64 i)) := { h with
  blk := by
    have := h.blk
    unfold Blk at this ⊢
    simp [World.setCell, Array.getElem?_modify, this]
  toks := own_apart_keep h.toks (((Keep.refl _ _).setCell _ _).setCell _ _) (own_type_ne h.toks h.blk (by decide))
  lrow := own_apart_keep h.lrow (((Keep.refl _ _).setCell _ _).setCell _ _) (own_type_ne h.lrow h.blk (by decide)) }
theorem Went.at_ (h : Went pb B L tv e lv i lg w w1) : ∃ lv1, PS pb B L tv e i lg lv1 w1 := by
  obtain ⟨lv1, _, h2, _⟩ := h
  exact ⟨lv1, h2⟩
theorem Went.keep (h : Went pb B L tv e lv i lg w w1) : KeepN pb lv.ownBlock w w1 := by
  obtain ⟨lv1, h1, _, _⟩ := h
  exact h1
end
end Culp.Gr
namespace Go.Proofs.YtnhdbjhdmdefmaaDoor
set_option linter.unusedSimpArgs false
set_option linter.unusedVariables false
open Go.RowKit Culp Culp.Gr
section
variable {pb B : Nat} {L : List Tok} {tv : Value} {e : Nat × Nat}
section
variable {i : Nat} {lv : Value} {lg : List Nat} {w w1 : World}
theorem went_takes (h : Went pb B L tv e lv i lg w w1) (s : List UInt8) : Calls Tryd.prog 32 #[.pointer (some ⟨pb, 0, none⟩), .string (by_ s)] w1 (fun E w' => E = .returned (.bool (isM L s i)) ∧ Went pb B L tv e lv (adv L s i) lg w w' ∧ KB w1 w') := by
  obtain ⟨lv1, h1, h2, h3⟩ := h
  refine (takes_any h2 s).mono ?_
  rintro E w2 ⟨rfl, hw⟩
  have hk := hw.keep
  exact ⟨rfl, Went.trans h1 h3 hw, h2.kb hk⟩
end
/-- A contract for types with so much fuel. -/
def TyC (pb B : Nat) (L : List Tok) (tv : Value) (e : Nat × Nat) (n : Nat) (b : Bool) (F : FuncId) : Prop := ∀ (i : Nat) (lg : List Nat) (lv : Value) (w : World), PS pb B L tv e i lg lv w → 2 * (L.length - i) + b.toNat < n → Calls Tryd.prog F #[.pointer (some ⟨pb, 0, none⟩)] w (PRes StrR (tyS (ty L n b i) lg) pb B L tv e lv w)
set_option maxRecDepth 100000 in
set_option maxHeartbeats 1600000 in
theorem arrows_step {n : Nat} (hA : TyC pb B L tv e n false 56) (hR : TyC pb B L tv e n true 38) : TyC pb B L tv e (n + 1) true 38 := by
  intro i lg lv w h hn
  have hsm := h.small
  have hle := h.le
  simp only [Bool.toNat_true] at hn
  have HC1 := Lib.hid (hA i lg lv w h (by simp only [Bool.toNat_false]; omega))
  have HRR := Lib.hid hR
  clear h hA hR
  go_enter Tryd.func38, Tryd.ntmps38
  go_wp2_with fail
  refine HC1.out.mono ?_
  rintro E w1 hr
  clear HC1
  cases hs : ty L n false i with
  | error j =>
    rw [hs] at hr
    obtain ⟨rfl, hk⟩ := hr
    refine ⟨rfl, ?_⟩
    rw [ty, hs]
    exact ⟨rfl, hk⟩
  | ok r =>
    rw [hs] at hr
    obtain ⟨v, rfl, hv, hw⟩ := hr
    obtain rfl : v = _ := hv
    have hb := ty_bound _ _ _ _ hs
    have hl := ty_len _ _ _ _ hs
    have HT := Lib.hid (went_takes hw sArrow)
    have HS := Lib.hid hs
    clear hw hs
    simp only [sArrow, by_] at HT
    go_wp2_with fail
    refine HT.out.mono ?_
    rintro E w2 ⟨rfl, hw2, -⟩
    have HW2 := Lib.hid hw2
    clear hw2 HT
    cases hm : isM L [45, 62] r.2 with
    | false =>
      have HR : Hid (PRes StrR (tyS (ty L (n + 1) true i) lg) pb B L tv e lv w (.returned (.string (by_ r.1))) w2) := Lib.hid (by
        have := HW2.out
        rw [adv_no hm] at this
        rw [ty, HS.out, bnd_ok, if_neg (by rw [show sArrow = [45, 62] from rfl, hm]; simp)]
        exact ⟨_, rfl, rfl, this⟩)
      clear hm HW2 HS
      go_wp2_with fail
      go_ret
      exact HR.out
    | true =>
      have HW3 : Hid (Went pb B L tv e lv (r.2 + 1) lg w w2) := Lib.hid (by have := HW2.out; rwa [adv_yes hm] at this)
      have hlt := isM_lt hm
      have HC := Lib.hid (HW3.out.call (R := StrR) (spec := tyS (ty L n true (r.2 + 1)) lg) (fun lv1 h1 => HRR.out (r.2 + 1) lg lv1 w2 h1 (by simp only [Bool.toNat_true]; omega)))
      have HM := Lib.hid hm
      have hz1 : (by_ r.1).size ≤ 65536 := by rw [by_size]; omega
      clear hm HW2 HW3
      go_wp2_with fail
      refine HC.out.mono ?_
      rintro E w3 ⟨hr3, -⟩
      clear HC
      cases hs3 : ty L n true (r.2 + 1) with
      | error j =>
        rw [hs3] at hr3
        obtain ⟨rfl, hk⟩ := hr3
        refine ⟨rfl, ?_⟩
        rw [ty, HS.out, bnd_ok, if_pos (by exact HM.out), hs3]
        exact ⟨rfl, hk⟩
      | ok q =>
        rw [hs3] at hr3
        obtain ⟨v, rfl, hv, hw⟩ := hr3
        obtain rfl : v = _ := hv
        have hb3 := ty_bound _ _ _ _ hs3
        have hl3 := ty_len _ _ _ _ hs3
        have HR : Hid (PRes StrR (tyS (ty L (n + 1) true i) lg) pb B L tv e lv w (.returned (.string (by_ (62 :: (r.1 ++ q.1))))) w3) := Lib.hid (by
          rw [ty, HS.out, bnd_ok, if_pos (by exact HM.out), hs3, bnd_ok]
          exact ⟨_, rfl, rfl, hw⟩)
        have hz2 : (by_ q.1).size ≤ 65536 := by rw [by_size]; omega
        clear hw HS HM hs3 hb3
        go_wp2_with fail
        go_ret
        rw [show ({ data := #[62] } : ByteArray) = by_ [62] from rfl, by_app, by_app]
        exact HR.out
set_option maxRecDepth 100000 in
set_option maxHeartbeats 6400000 in
theorem arm_step {n : Nat} (hA : TyC pb B L tv e n false 56) (hR : TyC pb B L tv e n true 38) : TyC pb B L tv e (n + 1) false 56 := by
  intro i lg lv w h hn
  have hsm := h.small
  have hle := h.le
  have hfw := h.few
  simp only [Bool.toNat_false] at hn
  have HH := Lib.hid (here_any h)
  have HP := Lib.hid h
  have HAA := Lib.hid hA
  have HRR := Lib.hid hR
  have HK1 := Lib.hid (isK_kd L i (k := 1) (by decide))
  have HK5 := Lib.hid (isK_kd L i (k := 5) (by decide))
  clear h hA hR
  go_enter Tryd.func56, Tryd.ntmps56
  go_wp2_with fail
  refine HH.out.mono ?_
  rintro E w1 ⟨rfl, hb1⟩
  have c1 : ∀ o, (w1.alloc o).cell? ⟨pb, 1, none⟩ = some (.int .i64 i) := fun o => ((HP.out.later hb1).later ((Below.refl _ _).alloc (Nat.le_refl _) o)).blk.cell (i := 1) rfl
  have f1 : ∀ o, (w1.alloc o).frozen? ⟨pb, 1, none⟩ = false := fun o => ((HP.out.later hb1).later ((Below.refl _ _).alloc (Nat.le_refl _) o)).blk.free 1
  have hpb := (HP.out.later hb1).blk.lt
  have c2 : ∀ o, ((w1.setCell ⟨pb, 1, none⟩ (.int .i64 ((i : Int) + 1))).alloc o).cell? ⟨pb, 1, none⟩ = some (.int .i64 ((i : Int) + 1)) := fun o => by
    have h2 : Blk pb #[tv, .int .i64 ((i : Int) + 1), .int .i64 e.1, .int .i64 e.2, lv] 64 (w1.setCell ⟨pb, 1, none⟩ (.int .i64 ((i : Int) + 1))) := by
      have := (HP.out.later hb1).blk
      unfold Blk at this ⊢
      simp [World.setCell, Array.getElem?_modify, this]
    exact (h2.later ((Below.refl _ _).alloc (Nat.le_refl _) o)).cell (i := 1) rfl
  have f2 : ∀ o, ((w1.setCell ⟨pb, 1, none⟩ (.int .i64 ((i : Int) + 1))).alloc o).frozen? ⟨pb, 1, none⟩ = false := fun o => by
    have h2 : Blk pb #[tv, .int .i64 ((i : Int) + 1), .int .i64 e.1, .int .i64 e.2, lv] 64 (w1.setCell ⟨pb, 1, none⟩ (.int .i64 ((i : Int) + 1))) := by
      have := (HP.out.later hb1).blk
      unfold Blk at this ⊢
      simp [World.setCell, Array.getElem?_modify, this]
    exact (h2.later ((Below.refl _ _).alloc (Nat.le_refl _) o)).free 1
  have HB1 := Lib.hid hb1
  have HP1 := Lib.hid (HP.out.later hb1)
  obtain ⟨b, x, y, hC⟩ := tokC_lit2 L e i
  rw [hC]
  clear HH hb1 hC
  -- a token that can stand here is passed over
  have HWN : Hid (i < L.length → ∀ o, Went pb B L tv e lv (i + 1) lg w ((w1.setCell ⟨pb, 1, none⟩ (.int .i64 ((i : Int) + 1))).alloc o)) := Lib.hid fun hlt o => by
    rw [show ((i : Int) + 1) = ((i + 1 : Nat) : Int) by omega]
    have h2 := HP1.out.go (i + 1) hlt (by omega)
    exact Went.later ⟨lv, (KeepN.of pb lv.ownBlock HB1.out).trans (keepN_cell pb lv.ownBlock 1 (.int .i64 ((i + 1 : Nat) : Int)) w1) (.inl rfl), h2, .inl rfl⟩ ((Below.refl _ _).alloc (Nat.le_refl _) o)
  have HFL : Hid (∀ o, PS pb B L tv e i lg lv (((w1.setCell ⟨pb, 1, none⟩ (.int .i64 ((i : Int) + 1))).setCell ⟨pb, 1, none⟩ (.int .i64 i)).alloc o) ∧ KeepN pb lv.ownBlock w (((w1.setCell ⟨pb, 1, none⟩ (.int .i64 ((i : Int) + 1))).setCell ⟨pb, 1, none⟩ (.int .i64 i)).alloc o)) := Lib.hid fun o => by
    have hb2 : Below ((w1.setCell ⟨pb, 1, none⟩ (.int .i64 ((i : Int) + 1))).setCell ⟨pb, 1, none⟩ (.int .i64 i)).heap.size ((w1.setCell ⟨pb, 1, none⟩ (.int .i64 ((i : Int) + 1))).setCell ⟨pb, 1, none⟩ (.int .i64 i)) (((w1.setCell ⟨pb, 1, none⟩ (.int .i64 ((i : Int) + 1))).setCell ⟨pb, 1, none⟩ (.int .i64 i)).alloc o) := (Below.refl _ _).alloc (Nat.le_refl _) _
    refine ⟨(HP1.out.back _).later hb2, ?_⟩
    exact (((KeepN.of pb lv.ownBlock HB1.out).trans (keepN_cell pb lv.ownBlock 1 (.int .i64 ((i : Int) + 1)) w1) (.inl rfl)).trans (keepN_cell pb lv.ownBlock 1 (.int .i64 i) _) (.inl rfl)).trans (KeepN.of pb lv.ownBlock hb2) (.inl rfl)
  have hNF : ∀ (Ea : Ending) (w3 : World) (o : Obj), ty L (n + 1) false i = .error i → Below (((w1.setCell ⟨pb, 1, none⟩ (.int .i64 ((i : Int) + 1))).setCell ⟨pb, 1, none⟩ (.int .i64 i)).alloc o).heap.size (((w1.setCell ⟨pb, 1, none⟩ (.int .i64 ((i : Int) + 1))).setCell ⟨pb, 1, none⟩ (.int .i64 i)).alloc o) w3 → Ea = .panicked (refV (here L e i)) → PRes StrR (tyS (ty L (n + 1) false i) lg) pb B L tv e lv w Ea w3 := fun Ea w3 o h1 h2 h3 => by
    subst h3
    rw [h1]
    exact ⟨rfl, (HFL.out o).2.trans (KeepN.of pb lv.ownBlock h2) (.inl rfl)⟩
  have HNF := Lib.hid hNF
  clear hNF
  rcases kd_case (kd L i) with hk | hk | ⟨hk, hk5⟩
  · have hk1 : isK L 1 i = true := by rw [HK1.out, hk]; rfl
    have hk5 : isK L 5 i = false := by rw [HK5.out, hk]; rfl
    have hlt := isK_lt hk1
    rw [hk]
    by_cases x1 : txt L i = sInt
    · have HS : Hid (ty L (n + 1) false i = .ok ([105], i + 1)) := Lib.hid (by rw [ty, if_pos (by rw [hk1, x1]; decide), x1]; rfl)
      rw [x1]
      have e1 : ((by_ sInt).toList == [105, 110, 116]) = true := by rw [by_list]; decide
      clear x1 hk1 hk5 hk
      go_wp2_with fail
      refine bodyPost_ret (v := .string ((by_ sInt).extract 0 1)) (by simp [results, Tryd.results56, go_sem]) rfl ?_
      rw [HS.out]
      exact ⟨_, rfl, (by show Value.string ((by_ sInt).extract 0 1) = .string (by_ [105]); kernel_rfl), HWN.out hlt _⟩
    by_cases x2 : txt L i = sBool
    · have HS : Hid (ty L (n + 1) false i = .ok ([98], i + 1)) := Lib.hid (by rw [ty, if_pos (by rw [hk1, x2]; decide), x2]; rfl)
      rw [x2]
      have e1 : ((by_ sBool).toList == [105, 110, 116]) = false := by rw [by_list]; decide
      have e2 : ((by_ sBool).toList == [98, 111, 111, 108]) = true := by rw [by_list]; decide
      clear x1 x2 hk1 hk5 hk
      go_wp2_with fail
      refine bodyPost_ret (v := .string ((by_ sBool).extract 0 1)) (by simp [results, Tryd.results56, go_sem]) rfl ?_
      rw [HS.out]
      exact ⟨_, rfl, (by show Value.string ((by_ sBool).extract 0 1) = .string (by_ [98]); kernel_rfl), HWN.out hlt _⟩
    by_cases x3 : txt L i = sText
    · have HS : Hid (ty L (n + 1) false i = .ok ([116], i + 1)) := Lib.hid (by rw [ty, if_pos (by rw [hk1, x3]; decide), x3]; rfl)
      rw [x3]
      have e1 : ((by_ sText).toList == [105, 110, 116]) = false := by rw [by_list]; decide
      have e2 : ((by_ sText).toList == [98, 111, 111, 108]) = false := by rw [by_list]; decide
      have e3 : ((by_ sText).toList == [116, 101, 120, 116]) = true := by rw [by_list]; decide
      clear x1 x2 x3 hk1 hk5 hk
      go_wp2_with fail
      refine bodyPost_ret (v := .string ((by_ sText).extract 0 1)) (by simp [results, Tryd.results56, go_sem]) rfl ?_
      rw [HS.out]
      exact ⟨_, rfl, (by show Value.string ((by_ sText).extract 0 1) = .string (by_ [116]); kernel_rfl), HWN.out hlt _⟩
    have y1 : (txt L i == sInt) = false := beq_eq_false_iff_ne.2 x1
    have y2 : (txt L i == sBool) = false := beq_eq_false_iff_ne.2 x2
    have y3 : (txt L i == sText) = false := beq_eq_false_iff_ne.2 x3
    have e1 : ((by_ (txt L i)).toList == [105, 110, 116]) = false := by rw [by_list]; exact y1
    have e2 : ((by_ (txt L i)).toList == [98, 111, 111, 108]) = false := by rw [by_list]; exact y2
    have e3 : ((by_ (txt L i)).toList == [116, 101, 120, 116]) = false := by rw [by_list]; exact y3
    by_cases x4 : txt L i = sBox
    · have HS : Hid (ty L (n + 1) false i = bnd (ty L n false (i + 1)) fun r => .ok (120 :: r.1, r.2)) := Lib.hid (by
        rw [ty, if_neg (by rw [y1, y2, y3]; simp), if_pos (by rw [hk1, x4]; decide)])
      have e4 : ((by_ (txt L i)).toList == [98, 111, 120]) = true := by rw [by_list, x4]; decide
      clear x1 x2 x3 x4 y1 y2 y3 hk1 hk5 hk
      generalize by_ (txt L i) = c at *
      go_wp2_with fail
      refine ((HWN.out hlt _).call (R := StrR) (spec := tyS (ty L n false (i + 1)) lg) (fun lv1 h1 => HAA.out ((i + 1)) lg lv1 _ h1 (by simp only [Bool.toNat_true, Bool.toNat_false]; omega))).mono ?_
      rintro E w2 ⟨hr2, -⟩
      cases hs2 : ty L n false (i + 1) with
      | error j =>
        rw [hs2] at hr2
        obtain ⟨rfl, hk⟩ := hr2
        refine ⟨rfl, ?_⟩
        rw [HS.out, hs2]
        exact ⟨rfl, hk⟩
      | ok r =>
        rw [hs2] at hr2
        obtain ⟨v, rfl, hv, hw⟩ := hr2
        obtain rfl : v = _ := hv
        have hb := ty_bound _ _ _ _ hs2
        have hl := ty_len _ _ _ _ hs2
        have hz1 : (by_ r.1).size ≤ 65536 := by rw [by_size]; omega
        have HR : Hid (PRes StrR (tyS (ty L (n + 1) false i) lg) pb B L tv e lv w (.returned (.string (by_ (120 :: r.1)))) w2) := Lib.hid (by
          rw [HS.out, hs2]
          exact ⟨_, rfl, rfl, hw⟩)
        clear hw hs2 HS
        go_wp2_with fail
        go_ret
        rw [show ({ data := #[120] } : ByteArray) = by_ [120] from rfl, by_app]
        exact HR.out
    · have HS : Hid (ty L (n + 1) false i = .error i) := Lib.hid (by
        rw [ty, if_neg (by rw [y1, y2, y3]; simp), if_neg (by rw [beq_eq_false_iff_ne.2 x4]; simp), if_neg (by rw [hk5]; simp), if_neg (by rw [hk5]; simp), if_neg (by rw [hk5]; simp)])
      have e4 : ((by_ (txt L i)).toList == [98, 111, 120]) = false := by rw [by_list]; exact beq_eq_false_iff_ne.2 x4
      clear x1 x2 x3 x4 y1 y2 y3 hk1 hk5 hk
      generalize by_ (txt L i) = c at *
      go_wp2_with fail
      refine (fail_any (HFL.out _).1).mono ?_
      rintro E w3 ⟨rfl, hb3⟩
      exact ⟨rfl, HNF.out _ _ _ HS.out hb3 rfl⟩
  · have hk1 : isK L 1 i = false := by rw [HK1.out, hk]; rfl
    have hk5 : isK L 5 i = true := by rw [HK5.out, hk]; rfl
    have hlt := isK_lt hk5
    rw [hk]
    by_cases x1 : txt L i = [63]
    · have HS : Hid (ty L (n + 1) false i = .ok ([63], i + 1)) := Lib.hid (by rw [ty, if_neg (by rw [hk1]; simp), if_neg (by rw [hk1]; simp), if_pos (by rw [hk5, x1]; decide)])
      have e1 : ((by_ (txt L i)).toList == [63]) = true := by rw [by_list, x1]; decide
      clear x1 hk1 hk5 hk
      generalize by_ (txt L i) = c at *
      go_wp2_with fail
      go_ret
      rw [HS.out]
      exact ⟨_, rfl, rfl, HWN.out hlt _⟩
    have y1 : (txt L i == [63]) = false := beq_eq_false_iff_ne.2 x1
    have e1 : ((by_ (txt L i)).toList == [63]) = false := by rw [by_list]; exact y1
    by_cases x2 : txt L i = [91]
    · have HS : Hid (ty L (n + 1) false i = bnd (ty L n true (i + 1)) fun r => bnd (want L [93] r.2) fun k => .ok (108 :: r.1, k)) := Lib.hid (by
        rw [ty, if_neg (by rw [hk1]; simp), if_neg (by rw [hk1]; simp), if_neg (by rw [y1]; simp), if_pos (by rw [hk5, x2]; decide)])
      have e2 : ((by_ (txt L i)).toList == [91]) = true := by rw [by_list, x2]; decide
      clear x1 x2 y1 hk1 hk5 hk
      generalize by_ (txt L i) = c at *
      go_wp2_with fail
      refine ((HWN.out hlt _).call (R := StrR) (spec := tyS (ty L n true (i + 1)) lg) (fun lv1 h1 => HRR.out ((i + 1)) lg lv1 _ h1 (by simp only [Bool.toNat_true, Bool.toNat_false]; omega))).mono ?_
      rintro E w2 ⟨hr2, -⟩
      cases hs2 : ty L n true (i + 1) with
      | error j =>
        rw [hs2] at hr2
        obtain ⟨rfl, hk⟩ := hr2
        refine ⟨rfl, ?_⟩
        rw [HS.out, hs2]
        exact ⟨rfl, hk⟩
      | ok r =>
        rw [hs2] at hr2
        obtain ⟨v, rfl, hv, hw2⟩ := hr2
        obtain rfl : v = _ := hv
        have hb := ty_bound _ _ _ _ hs2
        have hl := ty_len _ _ _ _ hs2
        have hz1 : (by_ r.1).size ≤ 65536 := by rw [by_size]; omega
        have HW2 := Lib.hid hw2
        have HS2 := Lib.hid hs2
        clear hw2 hs2
        go_wp2_with fail
        have hw2 := HW2.out
        refine (hw2.call (R := TokR L e r.2) (spec := tokS (want L [93] r.2) lg) (fun _ h => wants_any h [93])).mono ?_
        rintro E w3 ⟨hr3, -⟩
        cases hs3 : want L [93] r.2 with
        | error j =>
          rw [hs3] at hr3
          obtain ⟨rfl, hk⟩ := hr3
          refine ⟨rfl, ?_⟩
          rw [HS.out, HS2.out, bnd_ok, hs3]
          exact ⟨rfl, hk⟩
        | ok k =>
          rw [hs3] at hr3
          obtain ⟨v, rfl, -, hw⟩ := hr3
          have HR : Hid (PRes StrR (tyS (ty L (n + 1) false i) lg) pb B L tv e lv w (.returned (.string (by_ (108 :: r.1)))) w3) := Lib.hid (by
            rw [HS.out, HS2.out, bnd_ok, hs3]
            exact ⟨_, rfl, rfl, hw⟩)
          clear hw
          go_wp2_with fail
          go_ret
          rw [show ({ data := #[108] } : ByteArray) = by_ [108] from rfl, by_app]
          exact HR.out
    have y2 : (txt L i == [91]) = false := beq_eq_false_iff_ne.2 x2
    have e2 : ((by_ (txt L i)).toList == [91]) = false := by rw [by_list]; exact y2
    by_cases x3 : txt L i = [40]
    · have HS : Hid (ty L (n + 1) false i = bnd (ty L n true (i + 1)) fun r => if isM L [44] r.2 then bnd (ty L n true (r.2 + 1)) fun q => bnd (want L [41] q.2) fun k => .ok (44 :: (r.1 ++ q.1), k) else bnd (want L [41] r.2) fun k => .ok (r.1, k)) := Lib.hid (by
        rw [ty, if_neg (by rw [hk1]; simp), if_neg (by rw [hk1]; simp), if_neg (by rw [y1]; simp), if_neg (by rw [y2]; simp), if_pos (by rw [hk5, x3]; decide)])
      have e3 : ((by_ (txt L i)).toList == [40]) = true := by rw [by_list, x3]; decide
      clear x1 x2 x3 y1 y2 hk1 hk5 hk
      generalize by_ (txt L i) = c at *
      go_wp2_with fail
      refine ((HWN.out hlt _).call (R := StrR) (spec := tyS (ty L n true (i + 1)) lg) (fun lv1 h1 => HRR.out ((i + 1)) lg lv1 _ h1 (by simp only [Bool.toNat_true, Bool.toNat_false]; omega))).mono ?_
      rintro E w2 ⟨hr2, -⟩
      cases hs2 : ty L n true (i + 1) with
      | error j =>
        rw [hs2] at hr2
        obtain ⟨rfl, hk⟩ := hr2
        refine ⟨rfl, ?_⟩
        rw [HS.out, hs2]
        exact ⟨rfl, hk⟩
      | ok r =>
        rw [hs2] at hr2
        obtain ⟨v, rfl, hv, hw2⟩ := hr2
        obtain rfl : v = _ := hv
        have hb := ty_bound _ _ _ _ hs2
        have hl := ty_len _ _ _ _ hs2
        have hz1 : (by_ r.1).size ≤ 65536 := by rw [by_size]; omega
        have HW2 := Lib.hid hw2
        have HS2 := Lib.hid hs2
        clear hw2 hs2
        go_wp2_with fail
        refine (went_takes HW2.out [44]).mono ?_
        rintro E w3 ⟨rfl, hw3, -⟩
        cases hm : isM L [44] r.2 with
        | false =>
          rw [adv_no hm] at hw3
          have HW3 := Lib.hid hw3
          have HM := Lib.hid hm
          clear hw3 hm
          go_wp2_with fail
          have hw3 := HW3.out
          refine (hw3.call (R := TokR L e r.2) (spec := tokS (want L [41] r.2) lg) (fun _ h => wants_any h [41])).mono ?_
          rintro E w4 ⟨hr4, -⟩
          cases hs4 : want L [41] r.2 with
          | error j =>
            rw [hs4] at hr4
            obtain ⟨rfl, hk⟩ := hr4
            refine ⟨rfl, ?_⟩
            rw [HS.out, HS2.out, bnd_ok, if_neg (no_true HM.out), hs4]
            exact ⟨rfl, hk⟩
          | ok k =>
            rw [hs4] at hr4
            obtain ⟨v, rfl, -, hw⟩ := hr4
            have HR : Hid (PRes StrR (tyS (ty L (n + 1) false i) lg) pb B L tv e lv w (.returned (.string (by_ (r.1)))) w4) := Lib.hid (by
              rw [HS.out, HS2.out, bnd_ok, if_neg (no_true HM.out), hs4]
              exact ⟨_, rfl, rfl, hw⟩)
            clear hw
            go_wp2_with fail
            go_ret
            skip
            exact HR.out
        | true =>
          have hl2 := isM_lt hm
          rw [adv_yes hm] at hw3
          have HW3 := Lib.hid hw3
          have HM := Lib.hid hm
          clear hw3 hm
          go_wp2_with fail
          refine (HW3.out.call (R := StrR) (spec := tyS (ty L n true (r.2 + 1)) lg) (fun lv1 h1 => HRR.out ((r.2 + 1)) lg lv1 _ h1 (by simp only [Bool.toNat_true, Bool.toNat_false]; omega))).mono ?_
          rintro E w4 ⟨hr4, -⟩
          cases hs4 : ty L n true (r.2 + 1) with
          | error j =>
            rw [hs4] at hr4
            obtain ⟨rfl, hk⟩ := hr4
            refine ⟨rfl, ?_⟩
            rw [HS.out, HS2.out, bnd_ok, if_pos HM.out,hs4]
            exact ⟨rfl, hk⟩
          | ok q =>
            rw [hs4] at hr4
            obtain ⟨v, rfl, hv, hw4⟩ := hr4
            obtain rfl : v = _ := hv
            have hb4 := ty_bound _ _ _ _ hs4
            have hl4 := ty_len _ _ _ _ hs4
            have hz4 : (by_ q.1).size ≤ 65536 := by rw [by_size]; omega
            have HW4 := Lib.hid hw4
            have HS4 := Lib.hid hs4
            clear hw4 hs4
            go_wp2_with fail
            have hw4 := HW4.out
            refine (hw4.call (R := TokR L e q.2) (spec := tokS (want L [41] q.2) lg) (fun _ h => wants_any h [41])).mono ?_
            rintro E w5 ⟨hr5, -⟩
            cases hs5 : want L [41] q.2 with
            | error j =>
              rw [hs5] at hr5
              obtain ⟨rfl, hk⟩ := hr5
              refine ⟨rfl, ?_⟩
              rw [HS.out, HS2.out, bnd_ok, if_pos HM.out, HS4.out, bnd_ok, hs5]
              exact ⟨rfl, hk⟩
            | ok k =>
              rw [hs5] at hr5
              obtain ⟨v, rfl, -, hw⟩ := hr5
              have HR : Hid (PRes StrR (tyS (ty L (n + 1) false i) lg) pb B L tv e lv w (.returned (.string (by_ (44 :: (r.1 ++ q.1))))) w5) := Lib.hid (by
                rw [HS.out, HS2.out, bnd_ok, if_pos HM.out, HS4.out, bnd_ok, hs5]
                exact ⟨_, rfl, rfl, hw⟩)
              clear hw
              go_wp2_with fail
              go_ret
              rw [show ({ data := #[44] } : ByteArray) = by_ [44] from rfl, by_app, by_app]
              exact HR.out
    · have HS : Hid (ty L (n + 1) false i = .error i) := Lib.hid (by
        rw [ty, if_neg (by rw [hk1]; simp), if_neg (by rw [hk1]; simp), if_neg (by rw [y1]; simp), if_neg (by rw [y2]; simp), if_neg (by rw [beq_eq_false_iff_ne.2 x3]; simp)])
      have e3 : ((by_ (txt L i)).toList == [40]) = false := by rw [by_list]; exact beq_eq_false_iff_ne.2 x3
      clear x1 x2 x3 y1 y2 hk1 hk5 hk
      generalize by_ (txt L i) = c at *
      go_wp2_with fail
      refine (fail_any (HFL.out _).1).mono ?_
      rintro E w3 ⟨rfl, hb3⟩
      exact ⟨rfl, HNF.out _ _ _ HS.out hb3 rfl⟩
  · have hk1 : isK L 1 i = false := by rw [HK1.out, beq_eq_false_iff_ne]; exact hk
    have hk5' : isK L 5 i = false := by rw [HK5.out, beq_eq_false_iff_ne]; exact hk5
    have HS : Hid (ty L (n + 1) false i = .error i) := Lib.hid (by rw [ty]; simp [hk1, hk5'])
    have e1 : (((kd L i : Nat) : Int) == 1) = false := beq_eq_false_iff_ne.2 (by omega)
    have e5 : (((kd L i : Nat) : Int) == 5) = false := beq_eq_false_iff_ne.2 (by omega)
    generalize kd L i = k at *
    clear hk1 hk5' hk hk5
    go_wp2_with fail
    refine (fail_any (HFL.out _).1).mono ?_
    rintro E w3 ⟨rfl, hb3⟩
    exact ⟨rfl, HNF.out _ _ _ HS.out hb3 rfl⟩
theorem ty_all (pb B : Nat) (L : List Tok) (tv : Value) (e : Nat × Nat) : ∀ n, TyC pb B L tv e n false 56 ∧ TyC pb B L tv e n true 38
  | 0 => ⟨fun i lg lv w h hn => absurd hn (Nat.not_lt_zero _), fun i lg lv w h hn => absurd hn (Nat.not_lt_zero _)⟩
  | n + 1 => ⟨arm_step (ty_all pb B L tv e n).1 (ty_all pb B L tv e n).2, arrows_step (ty_all pb B L tv e n).1 (ty_all pb B L tv e n).2⟩
end
end Go.Proofs.YtnhdbjhdmdefmaaDoor

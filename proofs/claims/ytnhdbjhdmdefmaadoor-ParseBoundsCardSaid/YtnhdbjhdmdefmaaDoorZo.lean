
/- Walks of parse: square brackets. -/
import Derived.Test.YtnhdbjhdmdefmaaDoorZn
namespace Culp.Gr
set_option linter.unusedSimpArgs false
set_option linter.unusedVariables false
open Go Go.RowKit Culp Culp.Tr Go.Proofs.YtnhdbjhdmdefmaaDoor
/-- What stands in square brackets. -/
def liS (L : List Tok) (n i : Nat) (lg : List Nat) (p : Nat × Nat) : Res :=
  if isM L [93] i then .ok (mk 21 p .nil 0 [] [] [], i + 1, lg)
  else bnd (px L n .expr i lg) fun e => bnd (px L n (.items e.1) e.2.1 e.2.2) fun g => .ok (mk 21 p g.1 0 [] [] [], g.2)
section
variable {L : List Tok} {n m i j : Nat} {lg : List Nat} {p : Nat × Nat} {f : F}
theorem items_more (h : isM L [44] j = true) : px L (m + 1) (.items f) j lg = bnd (px L m .expr (j + 1) lg) fun e => px L m (.items (cat f e.1)) e.2.1 e.2.2 := by
  rw [px, if_pos h]
theorem items_end (h : isM L [44] j = false) : px L (m + 1) (.items f) j lg = bnd (want L [93] j) fun a => .ok (f, a, lg) := by
  rw [px, if_neg (no_true h)]
end
section
variable {w w' w4 : World} {base b N : Nat} {v : Value} {ps : List Value} {ks : F} {kind : Nat} {p : Nat × Nat} {s t x : List UInt8}
theorem RowZ.shape (h : RowZ base w v ps) : ∃ g c, v = .slice (some ⟨g, 0, none⟩) ps.length c := by
  obtain ⟨g, sp, h1, -⟩ := h
  exact ⟨g, _, h1⟩
theorem made2 {kv : Value} (hk : KidsV w4 kv ps) (hb : BrL w4 ps ks) (hB : Blk b #[.int .i8 kind, .int .i64 ps.length, .int .i64 N, .string (by_ s), .string (by_ t), .string (by_ x), .int .i64 p.1, .int .i64 p.2, kv] 88 w4) : BrL w4 [.pointer (some ⟨b, 0, none⟩)] (mk kind p ks N s t x) := by
  have hc := BrL.cnt ks hb
  refine BrL.mk (kps := ps) (kv := kv) ?_ hk hb
  rw [hc] at hB
  exact hB
end
end Culp.Gr
namespace Go.Proofs.YtnhdbjhdmdefmaaDoor
set_option linter.unusedSimpArgs false
set_option linter.unusedVariables false
open Go.RowKit Culp Culp.Tr Culp.Gr
theorem wpList_exec {P : Program} {ops : Array Oper} {rest : List Oper} {o : Oper} {a : Act} {Q : Exit → Act → World → Prop} {w w' : World} {v : Value} (hg : o.guard = none) (hr : (execOp a.eval o).run P w = .ok (.value v) w') (h : wpList P ops Q rest (a.put o.dst v) w') : wpList P ops Q (o :: rest) a w := by
  refine wpList_plain hg fun K hK => ?_
  unfold Oper.wp
  rw [hr, Oper.upon_value]
  exact hK _ _ h
section
variable {pb B : Nat} {L : List Tok} {tv : Value} {e : Nat × Nat}
set_option maxRecDepth 100000 in
set_option maxHeartbeats 6400000 in
theorem list_step {n : Nat} (hE : ∀ m, m ≤ n → ExC pb B L tv e m) {i : Nat} {lg : List Nat} {lv : Value} {w : World} (h : PS pb B L tv e i lg lv w) (hn : 8 * (L.length - i) + 7 < n) (x y : Nat) :
    Calls Tryd.prog 76 #[.pointer (some ⟨pb, 0, none⟩), .agg #[.int .i64 x, .int .i64 y]] w (PRes BR (liS L n i lg (x, y)) pb B L tv e lv w) := by
  have hsm := h.small
  have hle0 := h.le
  have HE := Lib.hid hE
  have HWa := Lib.hid (Went.refl h)
  have HUPa : Hid (∀ spec E w', PRes BR spec pb B L tv e lv w E w' → PRes BR spec pb B L tv e lv w E w') := Lib.hid fun _ _ _ h => h
  clear h hE
  obtain ⟨lvb, k1, k2, k3⟩ := HWa.out
  have hbb : Below w.heap.size w (w.alloc (.cells #[.int .i64 x, .int .i64 y] 25)) := (Below.refl _ _).alloc (Nat.le_refl _) _
  have HUPb : Hid (∀ spec E w', PRes BR spec pb B L tv e lvb (w.alloc (.cells #[.int .i64 x, .int .i64 y] 25)) E w' → PRes BR spec pb B L tv e lv w E w') := Lib.hid fun spec E w' hr => hr.from_ k1 k3 hbb
  have HUWb : Hid (∀ (k : Nat) (lg' : List Nat) (w' : World), Went pb B L tv e lvb k lg' (w.alloc (.cells #[.int .i64 x, .int .i64 y] 25)) w' → Went pb B L tv e lv k lg' w w') := Lib.hid fun k lg' w' hr => Went.trans k1 k3 (Went.trans (KeepN.of pb _ hbb) (.inl rfl) hr)
  have HBXb : Hid (∀ (k : Nat) (lg' : List Nat) (w' : World), Went pb B L tv e lvb k lg' (w.alloc (.cells #[.int .i64 x, .int .i64 y] 25)) w' → Blk w.heap.size #[.int .i64 x, .int .i64 y] 25 w') := Lib.hid fun k lg' w' hw => hw.boxed k2 (Blk.alloc _ _ _)
  have HWb := Lib.hid (Went.refl (k2.later hbb))
  clear k1 k2 k3 hbb HWa
  have HT := Lib.hid (went_takes HWb.out [93])
  simp only [by_] at HT
  go_enter Tryd.func76, Tryd.ntmps76
  go_wp2_with fail
  refine HT.out.mono ?_
  rintro E w1 ⟨rfl, hw1, -⟩
  have HW1 := Lib.hid hw1
  clear HT hw1 HWb
  cases hm : isM L [93] i with
  | true =>
    have HS : Hid (liS L n i lg (x, y) = .ok (mk 21 (x, y) .nil 0 [] [] [], i + 1, lg)) := Lib.hid (by unfold liS; rw [if_pos hm])
    have HW2 := HW1
    rw [adv_yes hm] at HW2
    have bx := HBXb.out _ _ _ HW2.out
    have c0 := bx.cell (i := 0) rfl
    have c1 := bx.cell (i := 1) rfl
    clear bx hm HW1
    go_wp2_with fail
    refine (node_any 21 x y none 0 0 _).mono ?_
    rintro E wn ⟨b, rfl, hle, hbn, hkn⟩
    have HR : Hid (PRes BR (liS L n i lg (x, y)) pb B L tv e lv w (.returned (.pointer (some ⟨b, 0, none⟩))) wn) := Lib.hid (HUPb.out _ _ _ (by
      rw [HS.out]
      exact ⟨_, rfl, made0 (kind := 21) (N := 0) (p := (x, y)) (s := []) (t := []) (x := []) hkn, HW2.out.later hbn⟩))
    clear c0 c1 hbn hkn HW2 HUPb HUWb HBXb
    go_wp2_with fail
    go_ret
    exact HR.out
  | false =>
    have HS : Hid (liS L n i lg (x, y) = bnd (px L n .expr i lg) fun e => bnd (px L n (.items e.1) e.2.1 e.2.2) fun g => .ok (mk 21 (x, y) g.1 0 [] [] [], g.2)) := Lib.hid (by unfold liS; rw [if_neg (no_true hm)])
    have HW2 := HW1
    rw [adv_no hm] at HW2
    clear hm HW1
    go_wp2_with fail
    (refine (HW2.out.call (R := BR) (spec := px L n .expr i lg) (fun lv1 h1 => HE.out n (Nat.le_refl _) i lg lv1 _ h1 (by omega))).mono ?_)
    rintro E w3 ⟨hr, hkb3⟩
    cases hs3 : px L n .expr i lg with
    | error j =>
      rw [hs3] at hr
      obtain ⟨rfl, hk⟩ := hr
      refine ⟨rfl, HUPb.out _ _ _ ?_⟩
      rw [HS.out,hs3]
      exact ⟨rfl, hk⟩
    | ok ee =>
      have hb3 := ex_bound hs3 hle0
      rw [hs3] at hr
      obtain ⟨v, rfl, ⟨q1, rfl, hk1⟩, hw⟩ := hr
      have HW3 := Lib.hid hw
      have HS3 := Lib.hid hs3
      clear hw HW2 hs3
      have HSP : Hid (liS L n i lg (x, y) = bnd (px L n (.items ee.1) ee.2.1 ee.2.2) fun g => .ok (mk 21 (x, y) g.1 0 [] [] [], g.2)) := Lib.hid (by rw [HS.out, HS3.out, bnd_ok])
      have hsz3 : (w.alloc (.cells #[.int .i64 x, .int .i64 y] 25)).heap.size ≤ w3.heap.size := HW3.out.keep.size
      have hba : Below w3.heap.size w3 (w3.alloc (.cells #[.pointer (some ⟨q1, 0, none⟩)] 55)) := (Below.refl _ _).alloc (Nat.le_refl _) _
      have HZ4 := Lib.hid (RowZ.one (v := .pointer (some ⟨q1, 0, none⟩)) hsz3)
      have HK4 := Lib.hid (BrL.kb _ hk1 (KB.below hba))
      have HW4 := Lib.hid (HW3.out.later hba)
      clear hk1 hba HS HS3 HW3 hsz3 hkb3
      go_wp2_with fail
      go_loopg [5] (L.length - ee.2.1) (fun g v wx => ∃ (m j : Nat) (lg2 : List Nat) (f : F) (ps : List Value) (u : Value), g = L.length - j ∧ v = u ∧ j ≤ L.length ∧ ps.length ≤ j ∧ 8 * (L.length - j) + 8 ≤ m ∧ m ≤ n ∧ Hid (RowZ (w.alloc (.cells #[.int .i64 x, .int .i64 y] 25)).heap.size wx u ps) ∧ Hid (BrL wx ps f) ∧ Hid (Went pb B L tv e lvb j lg2 (w.alloc (.cells #[.int .i64 x, .int .i64 y] 25)) wx) ∧ Hid (liS L n i lg (x, y) = bnd (px L m (.items f) j lg2) fun g => .ok (mk 21 (x, y) g.1 0 [] [] [], g.2)))
      case atStart => exact ⟨n, ee.2.1, ee.2.2, ee.1, _, _, rfl, rfl, by omega, by show 1 ≤ _; omega, by omega, Nat.le_refl _, HZ4, HK4, HW4, HSP⟩
      case round =>
        clear HSP HK4 HW4 HZ4
        obtain ⟨m, j, lg2, f, ps, u, rfl, rfl, hj, hps, hm, hmn, HZ, HK, HW, HSP⟩ := hrel
        obtain ⟨m2, rfl⟩ : ∃ m2, m = m2 + 1 := ⟨m - 1, by omega⟩
        obtain ⟨g0, cc, rfl⟩ := HZ.out.shape
        have HT := Lib.hid (went_takes HW.out [44])
        simp only [by_] at HT
        go_wp2_with fail
        refine HT.out.mono ?_
        clear HT
        rintro E w5 ⟨rfl, hw5, hkb5⟩
        have HZ5 := Lib.hid (HZ.out.kb hkb5)
        have HK5 := Lib.hid (BrL.kb _ HK.out hkb5)
        have HW5 := Lib.hid hw5
        clear hw5 hkb5 HZ HK HW
        cases hs : isM L [44] j with
        | false =>
          have HW6 := HW5
          rw [adv_no hs] at HW6
          have HQ := Lib.hid (items_end (m := m2) (f := f) (lg := lg2) hs)
          clear hs HW5
          go_wp2_with fail
          (refine (HW6.out.call (R := TokR L e j) (spec := tokS (want L [93] j) lg2) (fun lv1 h1 => wants_any h1 [93])).mono ?_)
          rintro E w7 ⟨hr, hkb7⟩
          cases hs7 : want L [93] j with
          | error j =>
            rw [hs7] at hr
            obtain ⟨rfl, hk⟩ := hr
            refine ⟨rfl, HUPb.out _ _ _ ?_⟩
            rw [HSP.out, HQ.out,hs7]
            exact ⟨rfl, hk⟩
          | ok a =>
            rw [hs7] at hr
            obtain ⟨v, rfl, -, hw⟩ := hr
            have HW7 := Lib.hid hw
            have HS7 := Lib.hid hs7
            clear hw HW6 hs7
            have HZ7 := Lib.hid (HZ5.out.kb hkb7)
            have HK7 := Lib.hid (BrL.kb _ HK5.out hkb7)
            have bx := HBXb.out _ _ _ HW7.out
            have c0 := bx.cell (i := 0) rfl
            have c1 := bx.cell (i := 1) rfl
            clear bx HZ5 HK5 hkb7
            go_wp2_with fail
            refine (node_any 21 x y (some ⟨g0, 0, none⟩) ps.length cc _).mono ?_
            rintro E wn ⟨b, rfl, hle, hbn, hkn⟩
            have HR : Hid (PRes BR (liS L n i lg (x, y)) pb B L tv e lv w (.returned (.pointer (some ⟨b, 0, none⟩))) wn) := Lib.hid (HUPb.out _ _ _ (by
              rw [HSP.out, HQ.out, HS7.out, bnd_ok, bnd_ok]
              exact ⟨_, rfl, ⟨b, rfl, made2 (kind := 21) (N := 0) (p := (x, y)) (s := []) (t := []) (x := []) (HZ7.out.kids.kb (KB.below hbn)) (BrL.kb _ HK7.out (KB.below hbn)) hkn⟩, HW7.out.later hbn⟩))
            clear c0 c1 hbn hkn HW7 HUPb HUWb HBXb HZ7 HK7 HQ HS7
            go_wp2_with fail
            go_ret
            exact HR.out
        | true =>
          have hlt := isM_lt hs
          have HW6 := HW5
          rw [adv_yes hs] at HW6
          have HQ := Lib.hid (items_more (m := m2) (f := f) (lg := lg2) hs)
          clear hs HW5
          go_wp2_with fail
          (refine (HW6.out.call (R := BR) (spec := px L m2 .expr (j + 1) lg2) (fun lv1 h1 => HE.out m2 (by omega) (j + 1) lg2 lv1 _ h1 (by omega))).mono ?_)
          rintro E w7 ⟨hr, hkb7⟩
          cases hs7 : px L m2 .expr (j + 1) lg2 with
          | error j =>
            rw [hs7] at hr
            obtain ⟨rfl, hk⟩ := hr
            refine ⟨rfl, HUPb.out _ _ _ ?_⟩
            rw [HSP.out, HQ.out,hs7]
            exact ⟨rfl, hk⟩
          | ok q2 =>
            have hb7 := ex_bound hs7 hlt
            rw [hs7] at hr
            obtain ⟨v, rfl, ⟨q0, rfl, hk0⟩, hw⟩ := hr
            have HW7 := Lib.hid hw
            have HS7 := Lib.hid hs7
            clear hw HW6 hs7
            have hba : Below w7.heap.size w7 (w7.alloc (.cells #[.pointer (some ⟨q0, 0, none⟩)] 55)) := (Below.refl _ _).alloc (Nat.le_refl _) _
            have hz8 := (HZ5.out.kb hkb7).kb (KB.below hba)
            have HK8 := Lib.hid (BrL.kb _ (BrL.cat _ _ (BrL.kb _ HK5.out hkb7) hk0) (KB.below hba))
            have HW8 := Lib.hid (HW7.out.later hba)
            obtain ⟨v', w9, hrun, hz9, hbr9, hwe9⟩ := kids_app hz8 (Blk.alloc w7 _ _) (Nat.le_trans HW7.out.keep.size hba.size) (by omega)
            have HK9 := Lib.hid (hbr9 _ _ HK8.out)
            have HW9 := Lib.hid (hwe9 _ _ _ _ _ _ _ _ _ (Nat.le_refl _) HW8.out)
            have HZ9 := Lib.hid hz9
            obtain ⟨g9, c9, rfl⟩ := hz9.shape
            have HSP2 : Hid (liS L n i lg (x, y) = bnd (px L m2 (.items (cat f q2.1)) q2.2.1 q2.2.2) fun g => .ok (mk 21 (x, y) g.1 0 [] [] [], g.2)) := Lib.hid (by rw [HSP.out, HQ.out, HS7.out, bnd_ok])
            clear hba hz8 HK8 HW8 hbr9 hwe9 hz9 HK5 HZ5 hk0 hkb7 HW7 HS7 HQ HSP
            go_wp2_with (at_builtin; refine wpList_exec rfl (exec_append rfl rfl rfl rfl hrun) ?_)
            clear hrun
            go_wp2_with fail
            go_roundg (L.length - q2.2.1)
            case rel => exact ⟨m2, q2.2.1, q2.2.2, cat f q2.1, ps ++ [.pointer (some ⟨q0, 0, none⟩)], _, rfl, rfl, by omega, by rw [List.length_append]; show ps.length + 1 ≤ _; omega, by omega, by omega, Lib.hid (by have hz := HZ9.out; rw [List.length_append] at hz; exact hz), HK9, HW9, HSP2⟩
            case measure => omega
end
end Go.Proofs.YtnhdbjhdmdefmaaDoor


/- Walks of erase: alike. -/
import Derived.Test.YtidholghbjljaaaGreatDoorHa
import Derived.Test.YtidholghbjljaaaGreatDoorVd
import Derived.Test.YtidholghbjljaaaGreatDoorWb
namespace Culp.Er
set_option linter.unusedSimpArgs false
set_option linter.unusedVariables false
open Culp Culp.Tr
def alikeI (x y : Im) : Prop := x.src = y.src ∧ x.name = y.name ∧ x.t = y.t
def alikeD (x y : Df) : Prop := x.name = y.name ∧ x.out = y.out ∧ likeAll x.tree y.tree
structure alikeM (a b : Md) : Prop where
  name : a.name = b.name
  iLen : a.imps.length = b.imps.length
  dLen : a.defs.length = b.defs.length
  imps : ∀ (i : Nat) x y, a.imps[i]? = some x → b.imps[i]? = some y → alikeI x y
  defs : ∀ (i : Nat) x y, a.defs[i]? = some x → b.defs[i]? = some y → alikeD x y
end Culp.Er
namespace Go.Proofs.YtidholghbjljaaaGreatDoor
set_option linter.unusedSimpArgs false
set_option linter.unusedVariables false
open Go.RowKit Go.Maps Culp Culp.Er
def AlikeRes (a b : Md) (w : World) (e : Ending) (w' : World) : Prop := (∃ z : Bool, e = .returned (.bool z) ∧ (z = true ↔ alikeM a b)) ∧ Below w.heap.size w w'
theorem AlikeRes.no {a b : Md} {w w' : World} (h : ¬ alikeM a b) (hb : Below w.heap.size w w') : AlikeRes a b w (.returned (.bool false)) w' := ⟨⟨false, rfl, by simp only [Bool.false_eq_true, false_iff]; exact h⟩, hb⟩
set_option maxRecDepth 100000 in
set_option maxHeartbeats 6400000 in
theorem alike_any (a b : Md) (iv dv jv ev : Value) (w : World) (hi : Imps w iv a.imps) (hd : Defs w dv a.defs) (hj : Imps w jv b.imps) (he : Defs w ev b.defs) (hl : a.imps.length ≤ 1000000000000 ∧ a.defs.length ≤ 1000000000000 ∧ b.imps.length ≤ 1000000000000 ∧ b.defs.length ≤ 1000000000000) (ht : (∀ d ∈ a.defs, d.tree.length ≤ 100000000000) ∧ ∀ d ∈ b.defs, d.tree.length ≤ 100000000000) :
    Calls Tryz.prog 75 #[.agg (a.cells iv dv).toArray, .agg (b.cells jv ev).toArray] w (AlikeRes a b w) := by
  obtain ⟨l1, l2, l3, l4⟩ := hl
  have HI := Lib.hid hi
  have HD := Lib.hid hd
  have HJ := Lib.hid hj
  have HE := Lib.hid he
  have HT := Lib.hid ht
  obtain ⟨Ai, ci, rfl⟩ := hi.form
  obtain ⟨Ad, cd, rfl⟩ := hd.form
  obtain ⟨Aj, cj, rfl⟩ := hj.form
  obtain ⟨Ae, ce, rfl⟩ := he.form
  have HW : Hid (∀ x y, Below w.heap.size w ((w.alloc x).alloc y)) := Lib.hid fun x y => below_two w x y
  have HBa : Hid (∀ (ca cb : Array Value) (t : TypeId), Blk w.heap.size ca t ((w.alloc (.cells ca t)).alloc (.cells cb t)) ∧ Blk (w.heap.size + 1) cb t ((w.alloc (.cells ca t)).alloc (.cells cb t))) := Lib.hid fun ca cb t => ⟨(Blk.alloc w ca t).later ((Below.refl _ _).alloc (Nat.le_refl _) _), Blk.alloc2 w _ cb t⟩
  clear hi hd hj he ht
  simp only [Md.cells]
  by_cases hn : a.name = b.name
  rotate_left
  · have e1 : (a.name.toList == b.name.toList) = false := beq_eq_false_iff_ne.2 (fun h => hn ((toL_inj _ _).1 h))
    have HR := Lib.hid (fun h : alikeM a b => hn h.name)
    clear hn
    go_enter Tryz.func75, Tryz.ntmps75
    go_wp2_with fail
    go_ret
    exact AlikeRes.no HR.out (HW.out _ _)
  have e1 : (a.name.toList == b.name.toList) = true := beq_iff_eq.2 ((toL_inj _ _).2 hn)
  by_cases hil : a.imps.length = b.imps.length
  rotate_left
  · have e2 : ((a.imps.length : Int) != (b.imps.length : Int)) = true := by rw [bne, beq_eq_false_iff_ne.2 (by omega)]; rfl
    have HR := Lib.hid (fun h : alikeM a b => hil h.iLen)
    clear hn hil
    go_enter Tryz.func75, Tryz.ntmps75
    go_wp2_with fail
    go_ret
    exact AlikeRes.no HR.out (HW.out _ _)
  have e2 : ((a.imps.length : Int) != (b.imps.length : Int)) = false := by rw [hil]; simp
  by_cases hdl : a.defs.length = b.defs.length
  rotate_left
  · have e3 : ((a.defs.length : Int) != (b.defs.length : Int)) = true := by rw [bne, beq_eq_false_iff_ne.2 (by omega)]; rfl
    have HR := Lib.hid (fun h : alikeM a b => hdl h.dLen)
    clear hn hil hdl
    go_enter Tryz.func75, Tryz.ntmps75
    go_wp2_with fail
    go_ret
    exact AlikeRes.no HR.out (HW.out _ _)
  have e3 : ((a.defs.length : Int) != (b.defs.length : Int)) = false := by rw [hdl]; simp
  have HN := Lib.hid hn
  have HIL := Lib.hid hil
  have HDL := Lib.hid hdl
  clear hn hil hdl
  go_enter Tryz.func75, Tryz.ntmps75
  go_wp2_with fail
  obtain ⟨h0, h1⟩ := HBa.out #[.string a.name, .slice Ai a.imps.length ci, .slice Ad a.defs.length cd, .int .i64 a.line, .int .i64 a.col] #[.string b.name, .slice Aj b.imps.length cj, .slice Ae b.defs.length ce, .int .i64 b.line, .int .i64 b.col] 88
  have hbw := HW.out (.cells #[.string a.name, .slice Ai a.imps.length ci, .slice Ad a.defs.length cd, .int .i64 a.line, .int .i64 a.col] 88) (.cells #[.string b.name, .slice Aj b.imps.length cj, .slice Ae b.defs.length ce, .int .i64 b.line, .int .i64 b.col] 88)
  generalize (w.alloc (.cells #[.string a.name, .slice Ai a.imps.length ci, .slice Ad a.defs.length cd, .int .i64 a.line, .int .i64 a.col] 88)).alloc (.cells #[.string b.name, .slice Aj b.imps.length cj, .slice Ae b.defs.length ce, .int .i64 b.line, .int .i64 b.col] 88) = w2 at *
  have HB0 := Lib.hid h0
  have HB1 := Lib.hid h1
  have HB2 := Lib.hid hbw
  clear h0 h1 hbw HBa e1 e2 e3
  go_loopw [36] (fun i wr => ∃ k : Nat, k ≤ a.imps.length ∧ i = .int .i64 k ∧ Hid (∀ (i : Nat) x y, i < k → a.imps[i]? = some x → b.imps[i]? = some y → alikeI x y) ∧ Hid (Below w2.heap.size w2 wr)) (fun i _ => a.imps.length - (intOf i).toNat)
  case atStart => exact ⟨0, Nat.zero_le _, rfl, Lib.hid (fun i x y h => by omega), Lib.hid (Below.refl _ _)⟩
  case round =>
    obtain ⟨k, hk, rfl, HK, HB⟩ := hrel
    have m0 := HB0.out.later HB.out
    have m1 := HB1.out.later HB.out
    by_cases hlt : k < a.imps.length
    · have hltu : k < b.imps.length := by have := HIL.out; omega
      obtain ⟨b1, o1, rfl, n0, n1, n2, n3, n4⟩ := (HI.out.later (below_later HB.out HB2.out)).at_ hlt
      obtain ⟨b2, o2, rfl, q0, q1, q2, q3, q4⟩ := (HJ.out.later (below_later HB.out HB2.out)).at_ hltu
      have hx : a.imps[k]? = some a.imps[k] := List.getElem?_eq_getElem hlt
      have hy : b.imps[k]? = some b.imps[k] := List.getElem?_eq_getElem hltu
      have HX := Lib.hid hx
      have HY := Lib.hid hy
      generalize a.imps[k] = x at *
      generalize b.imps[k] = y at *
      have hb2 : Below wr.heap.size wr (wr.alloc (.cells #[.string x.src, .string x.name, .string x.t, .int .i64 x.line, .int .i64 x.col] 90)) := (Below.refl _ _).alloc (Nat.le_refl _) _
      have hb3 : Below wr.heap.size wr (wr.alloc (.cells #[.string x.src, .string x.name, .string x.t, .int .i64 y.line, .int .i64 y.col] 90)) := (Below.refl _ _).alloc (Nat.le_refl _) _
      have HBX : Hid (Blk wr.heap.size #[.string x.src, .string x.name, .string x.t, .int .i64 y.line, .int .i64 y.col] 90 (wr.alloc (.cells #[.string x.src, .string x.name, .string x.t, .int .i64 y.line, .int .i64 y.col] 90))) := Lib.hid (Blk.alloc _ _ _)
      have HB3 := Lib.hid (below_later hb3 HB.out)
      have p3 := cell_later hb2 q3
      have p4 := cell_later hb2 q4
      have t1 := (m1.later hb2).cell (i := 1) rfl
      have r0 := cell_later hb3 q0
      have r1 := cell_later hb3 q1
      have r2 := cell_later hb3 q2
      have r3 := cell_later hb3 q3
      have r4 := cell_later hb3 q4
      have s1 := (m1.later hb3).cell (i := 1) rfl
      have hl2 : b2 < wr.heap.size := World.block_lt_of_cell? _ _ q0
      have hl1 : w.heap.size + 1 < wr.heap.size := m1.lt
      have hne : ¬ b2 = wr.heap.size := by omega
      have hne1 : ¬ w.heap.size + 1 = wr.heap.size := by omega
      clear hb2 hb3 HB m0 m1 hx hy
      go_wp2_with fail
      clear n0 n1 n2 n3 n4 q0 q1 q2 q3 q4 p3 p4 t1
      generalize wr.alloc (.cells #[.string x.src, .string x.name, .string x.t, .int .i64 y.line, .int .i64 y.col] 90) = w3 at *
      generalize wr.heap.size = gx at *
      have c0 := HBX.out.cell (i := 0) rfl
      have c1 := HBX.out.cell (i := 1) rfl
      have c2 := HBX.out.cell (i := 2) rfl
      have c3 := HBX.out.cell (i := 3) rfl
      have c4 := HBX.out.cell (i := 4) rfl
      refine wp_region_plan (S := fun w' => (w'.cell? ⟨gx, 0, none⟩ = some (.string x.src) ∧ w'.cell? ⟨gx, 1, none⟩ = some (.string x.name) ∧ w'.cell? ⟨gx, 2, none⟩ = some (.string x.t) ∧ w'.cell? ⟨gx, 3, none⟩ = some (.int .i64 y.line) ∧ w'.cell? ⟨gx, 4, none⟩ = some (.int .i64 y.col)) ∧ w'.cell? ⟨w.heap.size + 1, 1, none⟩ = some (.slice (some ⟨b2, o2, none⟩) b.imps.length cj) ∧
          (w'.cell? ⟨b2, o2 + k * 5, none⟩ = some (.string y.src) ∧ w'.cell? ⟨b2, o2 + k * 5 + 1, none⟩ = some (.string y.name) ∧ w'.cell? ⟨b2, o2 + k * 5 + 2, none⟩ = some (.string y.t) ∧ w'.cell? ⟨b2, o2 + k * 5 + 3, none⟩ = some (.int .i64 y.line) ∧ w'.cell? ⟨b2, o2 + k * 5 + 4, none⟩ = some (.int .i64 y.col)))
        [(0, true), (1, true), (2, true), (3, true), (4, true), (5, true), (6, true)] (by kernel_rfl) (by kernel_rfl) (by kernel_rfl) (fun _ _ _ _ _ h => h) ⟨⟨c0, c1, c2, c3, c4⟩, s1, ⟨r0, r1, r2, r3, r4⟩⟩ ?_
      clear c0 c1 c2 c3 c4 r0 r1 r2 r3 r4 s1
      intro HP
      repeat (first | (apply wpPlan_look; rfl; rfl; (intro wq hq; (try dsimp only at hq); go_split_ands; go_simp; (try rw [if_neg (by omega)]); (try rw [if_pos (by omega)]); try with_reducible rfl); simp only [Act.put, List.setIfInBounds_toArray, List.set_cons_zero, List.set_cons_succ]) | (apply wpPlan_skip; rfl; rfl; simp only [Act.put, List.setIfInBounds_toArray, List.set_cons_zero, List.set_cons_succ]) | (apply wpPlan_pass; rfl; rfl; assumption; simp only [Act.put, List.setIfInBounds_toArray, List.set_cons_zero, List.set_cons_succ]))
      obtain ⟨bb, hbb⟩ : ∃ bb : Bool, bb = !decide (x.src = y.src ∧ x.name = y.name ∧ x.t = y.t) := ⟨_, rfl⟩
      refine wpPlan_look (v := .bool bb) rfl rfl (fun wq hq => by
        rw [hbb]
        simp [execOp, go_sem, toL_inj]
        by_cases h1 : x.src = y.src <;> by_cases h2 : x.name = y.name <;> by_cases h3 : x.t = y.t <;> simp [h1, h2, h3]) ?_
      simp only [Act.put, List.setIfInBounds_toArray, List.set_cons_zero, List.set_cons_succ]
      apply wpPlan_done
      clear HP
      have HB4 := Lib.hid HB3.out.drew
      have HBB := Lib.hid hbb
      clear hbb
      cases bb with
      | true =>
        have HR : Hid (AlikeRes a b w (.returned (.bool false)) w3.drew) := Lib.hid (AlikeRes.no (fun h => by
          have h1 := h.imps k x y HX.out HY.out
          have h2 := HBB.out
          have h4 : decide (x.src = y.src ∧ x.name = y.name ∧ x.t = y.t) = true := decide_eq_true h1
          rw [h4] at h2
          cases h2) (below_later HB4.out HB2.out))
        clear HK HBB
        go_wp2_with fail
        go_ret
        exact HR.out
      | false =>
        have HK2 : Hid (∀ (i : Nat) x y, i < k + 1 → a.imps[i]? = some x → b.imps[i]? = some y → alikeI x y) := Lib.hid (fun i x' y' hi h1 h2 => by
          rcases Nat.lt_or_ge i k with h | h
          · exact HK.out i x' y' h h1 h2
          · obtain rfl : i = k := by omega
            rw [HX.out] at h1
            rw [HY.out] at h2
            obtain rfl := Option.some.inj h1
            obtain rfl := Option.some.inj h2
            have h3 := HBB.out
            by_cases hd : x.src = y.src ∧ x.name = y.name ∧ x.t = y.t
            · exact hd
            · rw [decide_eq_false hd] at h3; cases h3)
        clear HK HBB
        go_wp2_with fail
        go_roundw
        case rel => exact ⟨k + 1, by omega, by go_num, HK2, HB4⟩
        case measure => simp [intOf]; omega
    · have HK1 : Hid (∀ (i : Nat) x y, a.imps[i]? = some x → b.imps[i]? = some y → alikeI x y) := Lib.hid (fun i x y h1 h2 => HK.out i x y (by have := (List.getElem?_eq_some_iff.1 h1).1; omega) h1 h2)
      have t2 := m0.cell (i := 2) rfl
      have HBW := Lib.hid HB.out
      clear HK m0 m1 HB
      go_wp2_with fail
      clear t2
      obtain ⟨w0, hw0⟩ : ∃ w0, w0 = wr := ⟨_, rfl⟩
      rw [← hw0] at HBW ⊢
      clear hw0
      go_loopw [59] (fun i wr => ∃ k : Nat, k ≤ a.defs.length ∧ i = .int .i64 k ∧ Hid (∀ (i : Nat) x y, i < k → a.defs[i]? = some x → b.defs[i]? = some y → alikeD x y) ∧ Hid (Below w2.heap.size w2 wr)) (fun i _ => a.defs.length - (intOf i).toNat)
      case atStart => exact ⟨0, Nat.zero_le _, rfl, Lib.hid (fun i x y h => by omega), HBW⟩
      case round =>
        obtain ⟨k, hk, rfl, HK, HB⟩ := hrel
        by_cases hlt : k < a.defs.length
        · have m1 := HB1.out.later HB.out
          have hltu : k < b.defs.length := by have := HDL.out; omega
          obtain ⟨b1, o1, tv, rfl, ⟨n0, n1, n2, n3, n4, n5⟩, ht1⟩ := (HD.out.later (below_later HB.out HB2.out)).at_ hlt
          obtain ⟨b2, o2, uv, rfl, ⟨q0, q1, q2, q3, q4, q5⟩, ht2⟩ := (HE.out.later (below_later HB.out HB2.out)).at_ hltu
          have hx : a.defs[k]? = some a.defs[k] := List.getElem?_eq_getElem hlt
          have hy : b.defs[k]? = some b.defs[k] := List.getElem?_eq_getElem hltu
          have tl1 := HT.out.1 _ (List.mem_of_getElem? hx)
          have tl2 := HT.out.2 _ (List.mem_of_getElem? hy)
          have HX := Lib.hid hx
          have HY := Lib.hid hy
          generalize a.defs[k] = x at *
          generalize b.defs[k] = y at *
          have HTX := Lib.hid ht1
          have HTY := Lib.hid ht2
          obtain ⟨At, ct, rfl⟩ := ht1.form
          obtain ⟨Au, cu, rfl⟩ := ht2.form
          have hb2 : Below wr.heap.size wr (wr.alloc (.cells #[.string x.name, .bool x.out, .string x.t, .slice At x.tree.length ct, .int .i64 x.line, .int .i64 x.col] 84)) := (Below.refl _ _).alloc (Nat.le_refl _) _
          have hb3 := below_two wr (.cells #[.string x.name, .bool x.out, .string x.t, .slice At x.tree.length ct, .int .i64 x.line, .int .i64 x.col] 84) (.cells #[.string y.name, .bool y.out, .string y.t, .slice Au y.tree.length cu, .int .i64 y.line, .int .i64 y.col] 84)
          have HB3 := Lib.hid (below_later hb3 HB.out)
          have t2 := (m1.later hb2).cell (i := 2) rfl
          have r0 := cell_later hb2 q0
          have r1 := cell_later hb2 q1
          have r2 := cell_later hb2 q2
          have r3 := cell_later hb2 q3
          have r4 := cell_later hb2 q4
          have r5 := cell_later hb2 q5
          have HEQ := Lib.hid (tEqual_any x.tree y.tree (.slice At x.tree.length ct) (.slice Au y.tree.length cu) _ (HTX.out.later hb3) (HTY.out.later hb3) tl1 tl2)
          clear hb2 hb3 HB m1 hx hy ht1 ht2 q0 q1 q2 q3 q4 q5
          by_cases hxn : x.name = y.name
          rotate_left
          · have e1 : (x.name.toList == y.name.toList) = false := beq_eq_false_iff_ne.2 (fun h => hxn ((toL_inj _ _).1 h))
            have HR := Lib.hid (AlikeRes.no (fun h : alikeM a b => hxn (h.defs k x y HX.out HY.out).1) (below_later HB3.out HB2.out))
            clear hxn HEQ
            go_wp2_with fail
            go_ret
            exact HR.out
          have e1 : (x.name.toList == y.name.toList) = true := beq_iff_eq.2 ((toL_inj _ _).2 hxn)
          by_cases hxo : x.out = y.out
          rotate_left
          · have e2 : (x.out == y.out) = false := beq_eq_false_iff_ne.2 hxo
            have HR := Lib.hid (AlikeRes.no (fun h : alikeM a b => hxo (h.defs k x y HX.out HY.out).2.1) (below_later HB3.out HB2.out))
            clear hxo hxn HEQ
            go_wp2_with fail
            go_ret
            exact HR.out
          have e2 : (x.out == y.out) = true := beq_iff_eq.2 hxo
          have HXN := Lib.hid hxn
          have HXO := Lib.hid hxo
          clear hxn hxo
          go_wp2_with fail
          refine HEQ.out.mono ?_
          rintro E w5 ⟨⟨z, rfl, hz⟩, hb5⟩
          have HZ := Lib.hid hz
          have HB5 := Lib.hid (below_later hb5 HB3.out)
          clear hb5 hz HEQ
          cases z with
          | false =>
            have HR := Lib.hid (AlikeRes.no (fun h : alikeM a b => by have := HZ.out.2 (h.defs k x y HX.out HY.out).2.2; cases this) (below_later HB5.out HB2.out))
            go_wp2_with fail
            go_ret
            exact HR.out
          | true =>
            have HK2 : Hid (∀ (i : Nat) x y, i < k + 1 → a.defs[i]? = some x → b.defs[i]? = some y → alikeD x y) := Lib.hid (fun i x' y' hi h1 h2 => by
              rcases Nat.lt_or_ge i k with h | h
              · exact HK.out i x' y' h h1 h2
              · obtain rfl : i = k := by omega
                rw [HX.out] at h1
                rw [HY.out] at h2
                obtain rfl := Option.some.inj h1
                obtain rfl := Option.some.inj h2
                exact ⟨HXN.out, HXO.out, HZ.out.1 rfl⟩)
            clear HK
            go_wp2_with fail
            go_roundw
            case rel => exact ⟨k + 1, by omega, by go_num, HK2, HB5⟩
            case measure => simp [intOf]; omega
        · have HR : Hid (alikeM a b) := Lib.hid ⟨HN.out, HIL.out, HDL.out, HK1.out, fun i x y h1 h2 => HK.out i x y (by have := (List.getElem?_eq_some_iff.1 h1).1; omega) h1 h2⟩
          clear HK
          go_wp2_with fail
          go_ret
          exact ⟨⟨true, rfl, by simp only [true_iff]; exact HR.out⟩, below_later HB.out HB2.out⟩
end Go.Proofs.YtidholghbjljaaaGreatDoor

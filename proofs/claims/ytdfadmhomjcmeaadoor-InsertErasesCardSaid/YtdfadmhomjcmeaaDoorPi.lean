
/- The walk of the statement InsertErases. -/
import Derived.Test.YtdfadmhomjcmeaaDoorPg
import Derived.Test.YtdfadmhomjcmeaaDoorMg
namespace Culp.Ins
set_option linter.unusedSimpArgs false
set_option linter.unusedVariables false
open Go Culp Culp.Tr Go.Proofs.YtdfadmhomjcmeaaDoor
theorem good_of : ∀ f : F, f.Ok → (∀ y ∈ f.flat, may y = true) → Good f
  | .nil, _, _ => trivial
  | .cons x ks r, hO, hm => by
    obtain ⟨h1, h2, h3⟩ := hO
    have hx : may x = true := hm x (by simp [F.flat])
    obtain ⟨h30, _, ha, _⟩ := may_words hx
    refine ⟨h30, fun h29 => ?_, good_of ks h2 (fun y hy => hm y (by simp [F.flat, hy])), good_of r h3 (fun y hy => hm y (by simp [F.flat, hy]))⟩
    rw [h29] at ha
    rcases ha with h | h
    · exact absurd h (by decide)
    · have : arit 29 = 1 := rfl
      omega
theorem made_zip {x : Nd} {ks : F} (ts : Nat → Ty) (N : List ByteArray) (hO : (F.cons x ks .nil).Ok) (hm : ∀ y ∈ x :: ks.flat, may y = true) : Zip (noCast (ins1 ts x ks N 0 0).1) (noAs (x :: ks.flat)) := by
  have h := zip_ins ts (.cons x ks .nil) (fun _ => N) 0 0 0 (good_of _ hO (by simpa [F.flat] using hm))
  rw [insF_cons] at h
  simpa [insF, parts, F.flat] using h
theorem noCast_take {R : List Nd} {k : Nat} {y : Nd} (h : R[k]? = some y) : noCast (R.take (k + 1)) = noCast (R.take k) ++ (if y.kind = 30 then [] else [y]) := by
  have hj := (List.getElem?_eq_some_iff.1 h).1
  have he : R[k] = y := by rw [List.getElem?_eq_getElem hj] at h; exact Option.some.inj h
  rw [List.take_succ_eq_append_getElem hj, he]
  unfold noCast
  rw [List.filter_append]
  congr 1
  by_cases h30 : y.kind = 30 <;> simp [h30]
theorem noAs_take {R : List Nd} {k : Nat} {y : Nd} (h : R[k]? = some y) : noAs (R.take (k + 1)) = noAs (R.take k) ++ (if y.kind = 29 then [] else [y]) := by
  have hj := (List.getElem?_eq_some_iff.1 h).1
  have he : R[k] = y := by rw [List.getElem?_eq_getElem hj] at h; exact Option.some.inj h
  rw [List.take_succ_eq_append_getElem hj, he]
  unfold noAs
  rw [List.filter_append]
  congr 1
  by_cases h30 : y.kind = 29 <;> simp [h30]
theorem noCast_le (R : List Nd) : (noCast R).length ≤ R.length := List.length_filter_le _ _
theorem noAs_le (R : List Nd) : (noAs R).length ≤ R.length := List.length_filter_le _ _
end Culp.Ins
namespace Go.Proofs.YtdfadmhomjcmeaaDoor
set_option linter.unusedSimpArgs false
set_option linter.unusedVariables false
open Go.RowKit Go.Maps Culp
theorem build_inode8 (w : World) (k kd n l c : Int) (s t u : ByteArray) : (Instr.buildSlice 22 1 #[(0, .agg #[.int .i8 k, .int .i64 kd, .int .i64 n, .string s, .string t, .string u, .int .i64 l, .int .i64 c])]).run Tryd.prog w = .ok (.slice (some ⟨w.heap.size, 0, none⟩) 1 1) (w.alloc (.cells #[.int .i8 k, .int .i64 kd, .int .i64 n, .string s, .string t, .string u, .int .i64 l, .int .i64 c] 36)) := by
  simp [go_sem, Instr.buildSlice, run_underlying Tryd.underlying22]
set_option maxRecDepth 100000 in
set_option maxHeartbeats 6400000 in
theorem ierases_law (T : List Nd) (N S : List ByteArray) (tv nv sv : Value) (w : World) (hn : Nodes w tv T) (hN : Txts w nv N) (hS : Txts w sv S) (hSp : Sp w) (hTab : Tab w) (hz : ∀ s ∈ N, s.size ≤ 140737488351232) (hzT : ∀ x ∈ T, x.s.size ≤ 140737488351232 ∧ x.t.size ≤ 140737488351232 ∧ x.u.size ≤ 140737488351232) (hkT : ∀ x ∈ T, x.kids ≤ 9223372036854775807) :
    Calls Tryd.prog 3 #[.agg #[tv, nv, sv]] w (Makes (.bool true) w) := by
  have HN := Lib.hid hn
  have HNN := Lib.hid hN
  have HSS := Lib.hid hS
  have HSP := Lib.hid hSp
  have HTB := Lib.hid hTab
  have HZ := Lib.hid hz
  have HZT := Lib.hid hzT
  have HKT := Lib.hid hkT
  obtain ⟨A, C, rfl, hlc, hNN⟩ := hn
  obtain ⟨A2, C2, rfl⟩ := hN.form
  obtain ⟨A3, C3, rfl⟩ := hS.form
  have hb1 : Below w.heap.size w (w.alloc (.cells #[.slice A T.length C, .slice A2 N.length C2, .slice A3 S.length C3] 25)) := (Below.refl _ _).alloc (Nat.le_refl _) _
  have HB1 := Lib.hid hb1
  have HBX : Hid (((w.alloc (.cells #[.slice A T.length C, .slice A2 N.length C2, .slice A3 S.length C3] 25))).heap[w.heap.size]? = some (.cells #[.slice A T.length C, .slice A2 N.length C2, .slice A3 S.length C3] 25 (0, 0))) := Lib.hid (MapKept.heap_alloc w _).1
  clear hN hS hSp hTab hz hzT hkT hNN hb1
  go_enter Tryd.func3, Tryd.ntmps3
  go_wp2_with fail
  generalize (w.alloc (.cells #[.slice A T.length C, .slice A2 N.length C2, .slice A3 S.length C3] 25)) = w1 at *
  refine (jworks_any _ (HSP.out.later HB1.out) (HTB.out.later HB1.out)).mono ?_
  rintro E w2 ⟨rfl, hb2⟩
  have HB2 := Lib.hid (below_later hb2 HB1.out)
  have hbk : w2.heap[w.heap.size]? = _ := (hb2.block w.heap.size (Array.getElem?_eq_some_iff.1 HBX.out).1).trans HBX.out
  have HBX2 := Lib.hid hbk
  have k0 : w2.cell? ⟨w.heap.size, 0, none⟩ = some (.slice A T.length C) := by simp [World.cell?, hbk]
  have k1 : w2.cell? ⟨w.heap.size, 1, none⟩ = some (.slice A2 N.length C2) := by simp [World.cell?, hbk]
  have k2 : w2.cell? ⟨w.heap.size, 2, none⟩ = some (.slice A3 S.length C3) := by simp [World.cell?, hbk]
  clear hb2 hbk HB1 HBX
  go_wp2_with fail
  refine (jlong_any T N S A A2 A3 C C2 C3 _).mono ?_
  rintro E w3 ⟨rfl, hb3⟩
  have HB3 := Lib.hid (below_later hb3 HB2.out)
  have hbk : w3.heap[w.heap.size]? = some (.cells #[.slice A T.length C, .slice A2 N.length C2, .slice A3 S.length C3] 25 (0, 0)) := (hb3.block w.heap.size (Array.getElem?_eq_some_iff.1 HBX2.out).1).trans HBX2.out
  have HBX3 := Lib.hid hbk
  clear k0 k1 k2
  have k0 : w3.cell? ⟨w.heap.size, 0, none⟩ = some (.slice A T.length C) := by simp [World.cell?, hbk]
  have k1 : w3.cell? ⟨w.heap.size, 1, none⟩ = some (.slice A2 N.length C2) := by simp [World.cell?, hbk]
  have k2 : w3.cell? ⟨w.heap.size, 2, none⟩ = some (.slice A3 S.length C3) := by simp [World.cell?, hbk]
  clear hb3 HB2 HBX2 hbk
  cases hlg : (decide (400 < T.length) || decide (100 < N.length) || decide (100 < S.length)) with
  | true =>
    go_wp2_with fail
    go_ret
    exact Makes.mk rfl HB3.out
  | false =>
    have hTl : T.length ≤ 400 := by
      simp only [Bool.or_eq_false_iff, decide_eq_false_iff_not] at hlg
      omega
    have hNl : N.length ≤ 100 := by
      simp only [Bool.or_eq_false_iff, decide_eq_false_iff_not] at hlg
      omega
    clear hlg
    have HIX := Lib.hid (IExpr_any ⟨#[109]⟩ T (.slice A T.length C) (.slice A2 N.length C2) (.slice A3 S.length C3) N S w3 (by decide) (by decide) (HN.out.later HB3.out) (HNN.out.later HB3.out) (HSS.out.later HB3.out) (HSP.out.later HB3.out) (HTB.out.later HB3.out) HZ.out (by omega) (fun x hx => (HZT.out x hx).1) HKT.out)
    clear hNl
    go_wp2_with fail
    refine HIX.out.mono ?_
    rintro E w5 (⟨e, p, he, rfl, hb5⟩ | ⟨x, ks, L, hT, hO, hmy, hh, hl, hargs, hL, v, sv, rfl, hv, hs, hb5⟩)
    · have HB5 := Lib.hid (below_later hb5 HB3.out)
      have q : (e != 0) = true := by simpa using he
      clear he hb5 HIX k0 k1 k2
      go_wp2_with fail
      go_ret
      exact Makes.mk rfl HB5.out
    · have HB5 := Lib.hid (below_later hb5 HB3.out)
      have HBX5 : Hid (w5.heap[w.heap.size]? = some (.cells #[.slice A T.length C, .slice A2 N.length C2, .slice A3 S.length C3] 25 (0, 0))) := Lib.hid ((hb5.block w.heap.size (Array.getElem?_eq_some_iff.1 HBX3.out).1).trans HBX3.out)
      have hzp := Ins.made_zip (fun q => L.getD q .dyn) N.reverse hO (by rw [← hT]; exact hmy)
      rw [← hT] at hzp
      have hRl : (Ins.ins1 (fun q => L.getD q .dyn) x ks N.reverse 0 0).1.length ≤ 1000000000 := by
        have h1 := Ins.ins1_size (fun q => L.getD q .dyn) x ks N.reverse 0 0
        have h2 : T.length = 1 + ks.flat.length := by rw [hT]; simp; omega
        omega
      generalize (Ins.ins1 (fun q => L.getD q .dyn) x ks N.reverse 0 0).1 = R at *
      have HZP := Lib.hid hzp
      have HMY := Lib.hid hmy
      have HV := Lib.hid hv
      obtain ⟨Av, Cv, rfl⟩ := own_shape hv
      clear hb5 HIX k0 k1 k2 hzp hargs hL hl hh hmy hO hT hv hs HB3 HBX3
      go_wp2_with fail
      go_loopw [9, 11] (fun o i w' => ∃ (k : Nat) (u : Value), u = o ∧ k ≤ R.length ∧ i = .int .i64 k ∧ Hid (w'.ownsRow w5.heap.size 36 8 u (Ins.noCast (R.take k)).length (nfl (Ins.noCast (R.take k)))) ∧ Hid (Below w5.heap.size w5 w')) (fun _ i _ => R.length - (intOf i).toNat)
      case atStart => exact ⟨0, _, rfl, Nat.zero_le _, by go_num, Lib.hid (World.ownsRow_nil _ _ _ _), Lib.hid (Below.refl _ _)⟩
      case round =>
        obtain ⟨k, u, rfl, hk, rfl, HO, HB⟩ := hrel
        by_cases hlt : k < R.length
        · obtain ⟨g, C', e1, -, hM, -⟩ := node_row (own_later HV.out HB.out) (by omega)
          simp only [Value.slice.injEq] at e1
          obtain ⟨rfl, _, rfl⟩ := e1
          obtain ⟨y, hy⟩ : ∃ y, R[k]? = some y := ⟨_, List.getElem?_eq_getElem hlt⟩
          obtain ⟨n0, n1, n2, n3, n4, n5, n6, n7⟩ := hM.at_ hy
          simp only [Nat.zero_add] at n0 n1 n2 n3 n4 n5 n6 n7
          have htk := Ins.noCast_take hy
          clear hM hy
          by_cases h30 : y.kind = 30
          · have e30 : (y.kind == 30) = true := by rw [h30]; rfl
            rw [if_pos h30, List.append_nil] at htk
            have HO2 : Hid (wr.ownsRow w5.heap.size 36 8 u (Ins.noCast (R.take (k + 1))).length (nfl (Ins.noCast (R.take (k + 1))))) := Lib.hid (by rw [htk]; exact HO.out)
            clear h30 htk n1 n2 n3 n4 n5 n6 n7
            go_wp2_with fail
            go_roundw
            case rel => exact ⟨k + 1, u, rfl, by omega, by go_num, HO2, HB⟩
            case measure => simp [intOf]; omega
          · have e30 : (y.kind == 30) = false := beq_no h30
            rw [if_neg h30] at htk
            have own4 := HO.out
            obtain ⟨A6, c6, rfl⟩ := own_shape own4
            have hbb := build_inode8
            have hkl := Ins.noCast_le (R.take k)
            rw [List.length_take] at hkl
            clear h30 HO
            go_wp2_with (at_builtin; refine append_agg rfl (.tmp 48) (.tmp 53) 22 36 rfl w5.heap.size _ 8 88 Tryd.underlying22 inode_info rfl (by decide) (.slice A6 (Ins.noCast (R.take k)).length c6) _ _ rfl own4 y.cells rfl wr.heap.size rfl rfl ?_ ?_ ?_ ?_ ?_)
            · intro v hv; simp [Nd.cells] at hv; rcases hv with rfl | rfl | rfl | rfl | rfl | rfl | rfl | rfl <;> rfl
            · omega
            · omega
            · exact HB.out.size
            intro v7 w7 hown7 hg7 hb7
            have HO2 : Hid (w7.ownsRow w5.heap.size 36 8 v7 (Ins.noCast (R.take (k + 1))).length (nfl (Ins.noCast (R.take (k + 1))))) := Lib.hid (by
              rw [htk, nfl_app, List.length_append]
              have e : nfl [y] = y.cells := List.append_nil _
              rw [e]
              exact hown7)
            have HB7 := Lib.hid (HB.out.trans hb7)
            clear own4 hown7 hg7 hb7 htk n0 n1 n2 n3 n4 n5 n6 n7 hbb
            go_wp2_with fail
            go_roundw
            case rel => exact ⟨k + 1, v7, rfl, by omega, by go_num, HO2, HB7⟩
            case measure => simp [intOf]; omega
        · have htk : R.take k = R := List.take_of_length_le (by omega)
          rw [htk] at HO
          obtain ⟨w6, rfl⟩ : ∃ w0, w0 = wr := ⟨_, rfl⟩
          have HBX6 : Hid (w6.heap[w.heap.size]? = some (.cells #[.slice A T.length C, .slice A2 N.length C2, .slice A3 S.length C3] 25 (0, 0))) := Lib.hid ((HB.out.block w.heap.size (Array.getElem?_eq_some_iff.1 HBX5.out).1).trans HBX5.out)
          have HB6 := Lib.hid (below_later HB.out HB5.out)
          clear htk HB HBX5 HB5 HV
          go_wp2_with fail
          go_loopw [10, 12] (fun o i w' => ∃ (k : Nat) (u2 : Value), u2 = o ∧ k ≤ T.length ∧ i = .int .i64 k ∧ Hid (w'.ownsRow w6.heap.size 36 8 u2 (Ins.noAs (T.take k)).length (nfl (Ins.noAs (T.take k)))) ∧ Hid (Below w6.heap.size w6 w')) (fun _ i _ => T.length - (intOf i).toNat)
          case atStart => exact ⟨0, _, rfl, Nat.zero_le _, by go_num, Lib.hid (World.ownsRow_nil _ _ _ _), Lib.hid (Below.refl _ _)⟩
          case round =>
            obtain ⟨k, u2, rfl, hk, rfl, HO2, HB⟩ := hrel
            have hbk := (HB.out.block w.heap.size (Array.getElem?_eq_some_iff.1 HBX6.out).1).trans HBX6.out
            have k0 : wr.cell? ⟨w.heap.size, 0, none⟩ = some (.slice A T.length C) := by simp [World.cell?, hbk]
            clear hbk
            by_cases hlt : k < T.length
            · obtain ⟨A', C', e1, _, hNN⟩ := HN.out.later (below_later HB.out HB6.out)
              simp only [Value.slice.injEq] at e1
              obtain ⟨rfl, _, rfl⟩ := e1
              obtain ⟨b, off, rfl, hM⟩ := hNN (by omega)
              obtain ⟨y, hy⟩ : ∃ y, T[k]? = some y := ⟨_, List.getElem?_eq_getElem hlt⟩
              obtain ⟨n0, n1, n2, n3, n4, n5, n6, n7⟩ := hM.at_ hy
              have htk := Ins.noAs_take hy
              clear hM hNN hy
              by_cases h29 : y.kind = 29
              · have e29 : (y.kind == 29) = true := by rw [h29]; rfl
                rw [if_pos h29, List.append_nil] at htk
                have HO3 : Hid (wr.ownsRow w6.heap.size 36 8 u2 (Ins.noAs (T.take (k + 1))).length (nfl (Ins.noAs (T.take (k + 1))))) := Lib.hid (by rw [htk]; exact HO2.out)
                clear h29 htk n1 n2 n3 n4 n5 n6 n7
                go_wp2_with fail
                go_roundw
                case rel => exact ⟨k + 1, u2, rfl, by omega, by go_num, HO3, HB⟩
                case measure => simp [intOf]; omega
              · have e29 : (y.kind == 29) = false := beq_no h29
                rw [if_neg h29] at htk
                have own4 := HO2.out
                obtain ⟨A6, c6, rfl⟩ := own_shape own4
                have hbb := build_inode8
                have hkl := Ins.noAs_le (T.take k)
                rw [List.length_take] at hkl
                clear h29 HO2
                go_wp2_with (at_builtin; refine append_agg rfl (.tmp 69) (.tmp 75) 22 36 rfl w6.heap.size _ 8 88 Tryd.underlying22 inode_info rfl (by decide) (.slice A6 (Ins.noAs (T.take k)).length c6) _ _ rfl own4 y.cells rfl wr.heap.size rfl rfl ?_ ?_ ?_ ?_ ?_)
                · intro v hv; simp [Nd.cells] at hv; rcases hv with rfl | rfl | rfl | rfl | rfl | rfl | rfl | rfl <;> rfl
                · omega
                · omega
                · exact HB.out.size
                intro v7 w7 hown7 hg7 hb7
                have HO3 : Hid (w7.ownsRow w6.heap.size 36 8 v7 (Ins.noAs (T.take (k + 1))).length (nfl (Ins.noAs (T.take (k + 1))))) := Lib.hid (by
                  rw [htk, nfl_app, List.length_append]
                  have e : nfl [y] = y.cells := List.append_nil _
                  rw [e]
                  exact hown7)
                have HB7 := Lib.hid (HB.out.trans hb7)
                clear own4 hown7 hg7 hb7 htk n0 n1 n2 n3 n4 n5 n6 n7 hbb k0
                go_wp2_with fail
                go_roundw
                case rel => exact ⟨k + 1, v7, rfl, by omega, by go_num, HO3, HB7⟩
                case measure => simp [intOf]; omega
            · have htk : T.take k = T := List.take_of_length_le (by omega)
              rw [htk] at HO2
              obtain ⟨w7, rfl⟩ : ∃ w0, w0 = wr := ⟨_, rfl⟩
              have hzl := Ins.zip_len HZP.out
              have hnl := Ins.noAs_le T
              obtain ⟨n, hn⟩ : ∃ n, n = (Ins.noAs T).length := ⟨_, rfl⟩
              have HA : Hid (w7.ownsRow w5.heap.size 36 8 u n (nfl (Ins.noCast R))) := Lib.hid (by rw [hn, ← hzl]; exact own_later HO.out HB.out)
              have HBr : Hid (w7.ownsRow w6.heap.size 36 8 u2 n (nfl (Ins.noAs T))) := Lib.hid (by rw [hn]; exact HO2.out)
              have HAL : Hid ((Ins.noCast R).length = n) := Lib.hid (by rw [hzl, hn])
              have HBL : Hid ((Ins.noAs T).length = n) := Lib.hid hn.symm
              obtain ⟨Aa, ca, rfl⟩ := own_shape HA.out
              obtain ⟨Ab, cb, rfl⟩ := own_shape HBr.out
              have HB7 := Lib.hid (below_later HB.out HB6.out)
              have hn4 : n ≤ 400 := by omega
              clear htk HB HBX6 HB6 HO HO2 hzl hnl hn
              go_wp2_with fail
              go_loopw [13] (fun i w' => ∃ k : Nat, k ≤ n ∧ i = .int .i64 k ∧ Hid (Below w7.heap.size w7 w')) (fun i _ => n - (intOf i).toNat)
              case atStart => exact ⟨0, Nat.zero_le _, by go_num, Lib.hid (Below.refl _ _)⟩
              case round =>
                obtain ⟨k, hk, rfl, HB⟩ := hrel
                by_cases hlt : k < n
                · obtain ⟨ga, Ca', e1, -, hMa, -⟩ := node_row (own_later HA.out HB.out) (by have := HAL.out; omega)
                  rw [HAL.out] at e1
                  simp only [Value.slice.injEq] at e1
                  obtain ⟨rfl, _, rfl⟩ := e1
                  obtain ⟨gb, Cb', e1, -, hMb, -⟩ := node_row (own_later HBr.out HB.out) (by have := HBL.out; omega)
                  rw [HBL.out] at e1
                  simp only [Value.slice.injEq] at e1
                  obtain ⟨rfl, _, rfl⟩ := e1
                  obtain ⟨x, hx⟩ : ∃ x, (Ins.noCast R)[k]? = some x := ⟨_, List.getElem?_eq_getElem (by have := HAL.out; omega)⟩
                  obtain ⟨y, hy⟩ : ∃ y, (Ins.noAs T)[k]? = some y := ⟨_, List.getElem?_eq_getElem (by have := HBL.out; omega)⟩
                  have hlf := Ins.zip_get HZP.out k x y hx hy
                  have hyT : y ∈ T := (List.mem_filter.1 (List.mem_of_getElem? hy)).1
                  have HM := Lib.hid (HMY.out y hyT)
                  obtain ⟨a0, a1, a2, a3, a4, a5, a6, a7⟩ := hMa.at_ hx
                  obtain ⟨b0, b1, b2, b3, b4, b5, b6, b7⟩ := hMb.at_ hy
                  simp only [Nat.zero_add] at a0 a1 a2 a3 a4 a5 a6 a7 b0 b1 b2 b3 b4 b5 b6 b7
                  obtain ⟨N', L', hxy⟩ := hlf
                  have x0 : x.kind = y.kind := by rw [hxy]; rfl
                  have x1 : x.kids = y.kids := by rw [hxy]; rfl
                  have x6 : x.line = y.line := by rw [hxy]; rfl
                  have x7 : x.col = y.col := by rw [hxy]; rfl
                  rw [x0] at a0
                  rw [x1] at a1
                  rw [x6] at a6
                  rw [x7] at a7
                  have HXY := Lib.hid hxy
                  clear hMa hMb hyT hxy x0 x1 x6 x7
                  have e30 : ¬ x.kind = 30 := by
                    have := (List.mem_filter.1 (List.mem_of_getElem? hx)).2
                    simpa using this
                  have mn := may_note HM.out
                  have HN1 := Lib.hid (fun h w' => r8Note_any y.t (mn.1 h) w')
                  have HN2 := Lib.hid (fun h w' => r8Note_any y.u (mn.2.1 h) w')
                  clear mn e30 hx hy
                  by_cases h1 : y.kind = 1
                  · have e1 : (y.kind == 1) = true := by rw [h1]; rfl
                    have xn : x.n = y.n := by rw [HXY.out]; simp [Ins.bare, h1]
                    rw [xn] at a2
                    clear h1 xn
                    have hbx : Below wr.heap.size wr (wr.alloc (.cells #[.int .i8 y.kind, .int .i64 y.kids, .int .i64 y.n, .string x.s, .string x.t, .string x.u, .int .i64 y.line, .int .i64 y.col] 36)) := (Below.refl _ _).alloc (Nat.le_refl _) _
                    have c0 := cell_later hbx b0
                    have c1 := cell_later hbx b1
                    have c2 := cell_later hbx b2
                    have c3 := cell_later hbx b3
                    have c4 := cell_later hbx b4
                    have c5 := cell_later hbx b5
                    have c6 := cell_later hbx b6
                    have c7 := cell_later hbx b7
                    have hby : Below (wr.alloc (.cells #[.int .i8 y.kind, .int .i64 y.kids, .int .i64 y.n, .string x.s, .string x.t, .string x.u, .int .i64 y.line, .int .i64 y.col] 36)).heap.size (wr.alloc (.cells #[.int .i8 y.kind, .int .i64 y.kids, .int .i64 y.n, .string x.s, .string x.t, .string x.u, .int .i64 y.line, .int .i64 y.col] 36)) ((wr.alloc (.cells #[.int .i8 y.kind, .int .i64 y.kids, .int .i64 y.n, .string x.s, .string x.t, .string x.u, .int .i64 y.line, .int .i64 y.col] 36)).alloc (.cells #[.int .i8 y.kind, .int .i64 y.kids, .int .i64 y.n, .string y.s, .string y.t, .string y.u, .int .i64 y.line, .int .i64 y.col] 36)) := (Below.refl _ _).alloc (Nat.le_refl _) _
                    have HB8 := Lib.hid (below_later (below_later hby hbx) HB.out)
                    have hX : ((wr.alloc (.cells #[.int .i8 y.kind, .int .i64 y.kids, .int .i64 y.n, .string x.s, .string x.t, .string x.u, .int .i64 y.line, .int .i64 y.col] 36)).alloc (.cells #[.int .i8 y.kind, .int .i64 y.kids, .int .i64 y.n, .string y.s, .string y.t, .string y.u, .int .i64 y.line, .int .i64 y.col] 36)).heap[wr.heap.size]? = some (.cells #[.int .i8 y.kind, .int .i64 y.kids, .int .i64 y.n, .string x.s, .string x.t, .string x.u, .int .i64 y.line, .int .i64 y.col] 36 (0, 0)) := (hby.block _ (by simp)).trans (MapKept.heap_alloc wr _).1
                    have hY : ((wr.alloc (.cells #[.int .i8 y.kind, .int .i64 y.kids, .int .i64 y.n, .string x.s, .string x.t, .string x.u, .int .i64 y.line, .int .i64 y.col] 36)).alloc (.cells #[.int .i8 y.kind, .int .i64 y.kids, .int .i64 y.n, .string y.s, .string y.t, .string y.u, .int .i64 y.line, .int .i64 y.col] 36)).heap[wr.heap.size + 1]? = some (.cells #[.int .i8 y.kind, .int .i64 y.kids, .int .i64 y.n, .string y.s, .string y.t, .string y.u, .int .i64 y.line, .int .i64 y.col] 36 (0, 0)) := by
                      have := (MapKept.heap_alloc (wr.alloc (.cells #[.int .i8 y.kind, .int .i64 y.kids, .int .i64 y.n, .string x.s, .string x.t, .string x.u, .int .i64 y.line, .int .i64 y.col] 36)) (.cells #[.int .i8 y.kind, .int .i64 y.kids, .int .i64 y.n, .string y.s, .string y.t, .string y.u, .int .i64 y.line, .int .i64 y.col] 36)).1
                      simpa using this
                    have p0 : ((wr.alloc (.cells #[.int .i8 y.kind, .int .i64 y.kids, .int .i64 y.n, .string x.s, .string x.t, .string x.u, .int .i64 y.line, .int .i64 y.col] 36)).alloc (.cells #[.int .i8 y.kind, .int .i64 y.kids, .int .i64 y.n, .string y.s, .string y.t, .string y.u, .int .i64 y.line, .int .i64 y.col] 36)).cell? ⟨wr.heap.size, 0, none⟩ = some (.int .i8 y.kind) := by unfold World.cell?; simp only; rw [hX]; rfl
                    have p1 : ((wr.alloc (.cells #[.int .i8 y.kind, .int .i64 y.kids, .int .i64 y.n, .string x.s, .string x.t, .string x.u, .int .i64 y.line, .int .i64 y.col] 36)).alloc (.cells #[.int .i8 y.kind, .int .i64 y.kids, .int .i64 y.n, .string y.s, .string y.t, .string y.u, .int .i64 y.line, .int .i64 y.col] 36)).cell? ⟨wr.heap.size, 1, none⟩ = some (.int .i64 y.kids) := by unfold World.cell?; simp only; rw [hX]; rfl
                    have p2 : ((wr.alloc (.cells #[.int .i8 y.kind, .int .i64 y.kids, .int .i64 y.n, .string x.s, .string x.t, .string x.u, .int .i64 y.line, .int .i64 y.col] 36)).alloc (.cells #[.int .i8 y.kind, .int .i64 y.kids, .int .i64 y.n, .string y.s, .string y.t, .string y.u, .int .i64 y.line, .int .i64 y.col] 36)).cell? ⟨wr.heap.size, 2, none⟩ = some (.int .i64 y.n) := by unfold World.cell?; simp only; rw [hX]; rfl
                    have p3 : ((wr.alloc (.cells #[.int .i8 y.kind, .int .i64 y.kids, .int .i64 y.n, .string x.s, .string x.t, .string x.u, .int .i64 y.line, .int .i64 y.col] 36)).alloc (.cells #[.int .i8 y.kind, .int .i64 y.kids, .int .i64 y.n, .string y.s, .string y.t, .string y.u, .int .i64 y.line, .int .i64 y.col] 36)).cell? ⟨wr.heap.size, 3, none⟩ = some (.string x.s) := by unfold World.cell?; simp only; rw [hX]; rfl
                    have p4 : ((wr.alloc (.cells #[.int .i8 y.kind, .int .i64 y.kids, .int .i64 y.n, .string x.s, .string x.t, .string x.u, .int .i64 y.line, .int .i64 y.col] 36)).alloc (.cells #[.int .i8 y.kind, .int .i64 y.kids, .int .i64 y.n, .string y.s, .string y.t, .string y.u, .int .i64 y.line, .int .i64 y.col] 36)).cell? ⟨wr.heap.size, 4, none⟩ = some (.string x.t) := by unfold World.cell?; simp only; rw [hX]; rfl
                    have p5 : ((wr.alloc (.cells #[.int .i8 y.kind, .int .i64 y.kids, .int .i64 y.n, .string x.s, .string x.t, .string x.u, .int .i64 y.line, .int .i64 y.col] 36)).alloc (.cells #[.int .i8 y.kind, .int .i64 y.kids, .int .i64 y.n, .string y.s, .string y.t, .string y.u, .int .i64 y.line, .int .i64 y.col] 36)).cell? ⟨wr.heap.size, 5, none⟩ = some (.string x.u) := by unfold World.cell?; simp only; rw [hX]; rfl
                    have p6 : ((wr.alloc (.cells #[.int .i8 y.kind, .int .i64 y.kids, .int .i64 y.n, .string x.s, .string x.t, .string x.u, .int .i64 y.line, .int .i64 y.col] 36)).alloc (.cells #[.int .i8 y.kind, .int .i64 y.kids, .int .i64 y.n, .string y.s, .string y.t, .string y.u, .int .i64 y.line, .int .i64 y.col] 36)).cell? ⟨wr.heap.size, 6, none⟩ = some (.int .i64 y.line) := by unfold World.cell?; simp only; rw [hX]; rfl
                    have p7 : ((wr.alloc (.cells #[.int .i8 y.kind, .int .i64 y.kids, .int .i64 y.n, .string x.s, .string x.t, .string x.u, .int .i64 y.line, .int .i64 y.col] 36)).alloc (.cells #[.int .i8 y.kind, .int .i64 y.kids, .int .i64 y.n, .string y.s, .string y.t, .string y.u, .int .i64 y.line, .int .i64 y.col] 36)).cell? ⟨wr.heap.size, 7, none⟩ = some (.int .i64 y.col) := by unfold World.cell?; simp only; rw [hX]; rfl
                    have q0 : ((wr.alloc (.cells #[.int .i8 y.kind, .int .i64 y.kids, .int .i64 y.n, .string x.s, .string x.t, .string x.u, .int .i64 y.line, .int .i64 y.col] 36)).alloc (.cells #[.int .i8 y.kind, .int .i64 y.kids, .int .i64 y.n, .string y.s, .string y.t, .string y.u, .int .i64 y.line, .int .i64 y.col] 36)).cell? ⟨wr.heap.size + 1, 0, none⟩ = some (.int .i8 y.kind) := by unfold World.cell?; simp only; rw [hY]; rfl
                    have q1 : ((wr.alloc (.cells #[.int .i8 y.kind, .int .i64 y.kids, .int .i64 y.n, .string x.s, .string x.t, .string x.u, .int .i64 y.line, .int .i64 y.col] 36)).alloc (.cells #[.int .i8 y.kind, .int .i64 y.kids, .int .i64 y.n, .string y.s, .string y.t, .string y.u, .int .i64 y.line, .int .i64 y.col] 36)).cell? ⟨wr.heap.size + 1, 1, none⟩ = some (.int .i64 y.kids) := by unfold World.cell?; simp only; rw [hY]; rfl
                    have q2 : ((wr.alloc (.cells #[.int .i8 y.kind, .int .i64 y.kids, .int .i64 y.n, .string x.s, .string x.t, .string x.u, .int .i64 y.line, .int .i64 y.col] 36)).alloc (.cells #[.int .i8 y.kind, .int .i64 y.kids, .int .i64 y.n, .string y.s, .string y.t, .string y.u, .int .i64 y.line, .int .i64 y.col] 36)).cell? ⟨wr.heap.size + 1, 2, none⟩ = some (.int .i64 y.n) := by unfold World.cell?; simp only; rw [hY]; rfl
                    have q3 : ((wr.alloc (.cells #[.int .i8 y.kind, .int .i64 y.kids, .int .i64 y.n, .string x.s, .string x.t, .string x.u, .int .i64 y.line, .int .i64 y.col] 36)).alloc (.cells #[.int .i8 y.kind, .int .i64 y.kids, .int .i64 y.n, .string y.s, .string y.t, .string y.u, .int .i64 y.line, .int .i64 y.col] 36)).cell? ⟨wr.heap.size + 1, 3, none⟩ = some (.string y.s) := by unfold World.cell?; simp only; rw [hY]; rfl
                    have q4 : ((wr.alloc (.cells #[.int .i8 y.kind, .int .i64 y.kids, .int .i64 y.n, .string x.s, .string x.t, .string x.u, .int .i64 y.line, .int .i64 y.col] 36)).alloc (.cells #[.int .i8 y.kind, .int .i64 y.kids, .int .i64 y.n, .string y.s, .string y.t, .string y.u, .int .i64 y.line, .int .i64 y.col] 36)).cell? ⟨wr.heap.size + 1, 4, none⟩ = some (.string y.t) := by unfold World.cell?; simp only; rw [hY]; rfl
                    have q5 : ((wr.alloc (.cells #[.int .i8 y.kind, .int .i64 y.kids, .int .i64 y.n, .string x.s, .string x.t, .string x.u, .int .i64 y.line, .int .i64 y.col] 36)).alloc (.cells #[.int .i8 y.kind, .int .i64 y.kids, .int .i64 y.n, .string y.s, .string y.t, .string y.u, .int .i64 y.line, .int .i64 y.col] 36)).cell? ⟨wr.heap.size + 1, 5, none⟩ = some (.string y.u) := by unfold World.cell?; simp only; rw [hY]; rfl
                    have q6 : ((wr.alloc (.cells #[.int .i8 y.kind, .int .i64 y.kids, .int .i64 y.n, .string x.s, .string x.t, .string x.u, .int .i64 y.line, .int .i64 y.col] 36)).alloc (.cells #[.int .i8 y.kind, .int .i64 y.kids, .int .i64 y.n, .string y.s, .string y.t, .string y.u, .int .i64 y.line, .int .i64 y.col] 36)).cell? ⟨wr.heap.size + 1, 6, none⟩ = some (.int .i64 y.line) := by unfold World.cell?; simp only; rw [hY]; rfl
                    have q7 : ((wr.alloc (.cells #[.int .i8 y.kind, .int .i64 y.kids, .int .i64 y.n, .string x.s, .string x.t, .string x.u, .int .i64 y.line, .int .i64 y.col] 36)).alloc (.cells #[.int .i8 y.kind, .int .i64 y.kids, .int .i64 y.n, .string y.s, .string y.t, .string y.u, .int .i64 y.line, .int .i64 y.col] 36)).cell? ⟨wr.heap.size + 1, 7, none⟩ = some (.int .i64 y.col) := by unfold World.cell?; simp only; rw [hY]; rfl
                    clear hbx hby hX hY HB b0 b1 b2 b3 b4 b5 b6 b7
                    go_wp2_with fail
                    go_roundw
                    case rel => exact ⟨k + 1, by omega, by go_num, HB8⟩
                    case measure => simp [intOf]; omega
                  have e1 : (y.kind == 1) = false := beq_no h1
                  by_cases h3 : y.kind = 3
                  · have e3 : (y.kind == 3) = true := by rw [h3]; rfl
                    have xn : x.n = y.n := by rw [HXY.out]; simp [Ins.bare, h3]
                    rw [xn] at a2
                    clear h1 h3 xn
                    have hbx : Below wr.heap.size wr (wr.alloc (.cells #[.int .i8 y.kind, .int .i64 y.kids, .int .i64 y.n, .string x.s, .string x.t, .string x.u, .int .i64 y.line, .int .i64 y.col] 36)) := (Below.refl _ _).alloc (Nat.le_refl _) _
                    have c0 := cell_later hbx b0
                    have c1 := cell_later hbx b1
                    have c2 := cell_later hbx b2
                    have c3 := cell_later hbx b3
                    have c4 := cell_later hbx b4
                    have c5 := cell_later hbx b5
                    have c6 := cell_later hbx b6
                    have c7 := cell_later hbx b7
                    have hby : Below (wr.alloc (.cells #[.int .i8 y.kind, .int .i64 y.kids, .int .i64 y.n, .string x.s, .string x.t, .string x.u, .int .i64 y.line, .int .i64 y.col] 36)).heap.size (wr.alloc (.cells #[.int .i8 y.kind, .int .i64 y.kids, .int .i64 y.n, .string x.s, .string x.t, .string x.u, .int .i64 y.line, .int .i64 y.col] 36)) ((wr.alloc (.cells #[.int .i8 y.kind, .int .i64 y.kids, .int .i64 y.n, .string x.s, .string x.t, .string x.u, .int .i64 y.line, .int .i64 y.col] 36)).alloc (.cells #[.int .i8 y.kind, .int .i64 y.kids, .int .i64 y.n, .string y.s, .string y.t, .string y.u, .int .i64 y.line, .int .i64 y.col] 36)) := (Below.refl _ _).alloc (Nat.le_refl _) _
                    have HB8 := Lib.hid (below_later (below_later hby hbx) HB.out)
                    have hX : ((wr.alloc (.cells #[.int .i8 y.kind, .int .i64 y.kids, .int .i64 y.n, .string x.s, .string x.t, .string x.u, .int .i64 y.line, .int .i64 y.col] 36)).alloc (.cells #[.int .i8 y.kind, .int .i64 y.kids, .int .i64 y.n, .string y.s, .string y.t, .string y.u, .int .i64 y.line, .int .i64 y.col] 36)).heap[wr.heap.size]? = some (.cells #[.int .i8 y.kind, .int .i64 y.kids, .int .i64 y.n, .string x.s, .string x.t, .string x.u, .int .i64 y.line, .int .i64 y.col] 36 (0, 0)) := (hby.block _ (by simp)).trans (MapKept.heap_alloc wr _).1
                    have hY : ((wr.alloc (.cells #[.int .i8 y.kind, .int .i64 y.kids, .int .i64 y.n, .string x.s, .string x.t, .string x.u, .int .i64 y.line, .int .i64 y.col] 36)).alloc (.cells #[.int .i8 y.kind, .int .i64 y.kids, .int .i64 y.n, .string y.s, .string y.t, .string y.u, .int .i64 y.line, .int .i64 y.col] 36)).heap[wr.heap.size + 1]? = some (.cells #[.int .i8 y.kind, .int .i64 y.kids, .int .i64 y.n, .string y.s, .string y.t, .string y.u, .int .i64 y.line, .int .i64 y.col] 36 (0, 0)) := by
                      have := (MapKept.heap_alloc (wr.alloc (.cells #[.int .i8 y.kind, .int .i64 y.kids, .int .i64 y.n, .string x.s, .string x.t, .string x.u, .int .i64 y.line, .int .i64 y.col] 36)) (.cells #[.int .i8 y.kind, .int .i64 y.kids, .int .i64 y.n, .string y.s, .string y.t, .string y.u, .int .i64 y.line, .int .i64 y.col] 36)).1
                      simpa using this
                    have p0 : ((wr.alloc (.cells #[.int .i8 y.kind, .int .i64 y.kids, .int .i64 y.n, .string x.s, .string x.t, .string x.u, .int .i64 y.line, .int .i64 y.col] 36)).alloc (.cells #[.int .i8 y.kind, .int .i64 y.kids, .int .i64 y.n, .string y.s, .string y.t, .string y.u, .int .i64 y.line, .int .i64 y.col] 36)).cell? ⟨wr.heap.size, 0, none⟩ = some (.int .i8 y.kind) := by unfold World.cell?; simp only; rw [hX]; rfl
                    have p1 : ((wr.alloc (.cells #[.int .i8 y.kind, .int .i64 y.kids, .int .i64 y.n, .string x.s, .string x.t, .string x.u, .int .i64 y.line, .int .i64 y.col] 36)).alloc (.cells #[.int .i8 y.kind, .int .i64 y.kids, .int .i64 y.n, .string y.s, .string y.t, .string y.u, .int .i64 y.line, .int .i64 y.col] 36)).cell? ⟨wr.heap.size, 1, none⟩ = some (.int .i64 y.kids) := by unfold World.cell?; simp only; rw [hX]; rfl
                    have p2 : ((wr.alloc (.cells #[.int .i8 y.kind, .int .i64 y.kids, .int .i64 y.n, .string x.s, .string x.t, .string x.u, .int .i64 y.line, .int .i64 y.col] 36)).alloc (.cells #[.int .i8 y.kind, .int .i64 y.kids, .int .i64 y.n, .string y.s, .string y.t, .string y.u, .int .i64 y.line, .int .i64 y.col] 36)).cell? ⟨wr.heap.size, 2, none⟩ = some (.int .i64 y.n) := by unfold World.cell?; simp only; rw [hX]; rfl
                    have p3 : ((wr.alloc (.cells #[.int .i8 y.kind, .int .i64 y.kids, .int .i64 y.n, .string x.s, .string x.t, .string x.u, .int .i64 y.line, .int .i64 y.col] 36)).alloc (.cells #[.int .i8 y.kind, .int .i64 y.kids, .int .i64 y.n, .string y.s, .string y.t, .string y.u, .int .i64 y.line, .int .i64 y.col] 36)).cell? ⟨wr.heap.size, 3, none⟩ = some (.string x.s) := by unfold World.cell?; simp only; rw [hX]; rfl
                    have p4 : ((wr.alloc (.cells #[.int .i8 y.kind, .int .i64 y.kids, .int .i64 y.n, .string x.s, .string x.t, .string x.u, .int .i64 y.line, .int .i64 y.col] 36)).alloc (.cells #[.int .i8 y.kind, .int .i64 y.kids, .int .i64 y.n, .string y.s, .string y.t, .string y.u, .int .i64 y.line, .int .i64 y.col] 36)).cell? ⟨wr.heap.size, 4, none⟩ = some (.string x.t) := by unfold World.cell?; simp only; rw [hX]; rfl
                    have p5 : ((wr.alloc (.cells #[.int .i8 y.kind, .int .i64 y.kids, .int .i64 y.n, .string x.s, .string x.t, .string x.u, .int .i64 y.line, .int .i64 y.col] 36)).alloc (.cells #[.int .i8 y.kind, .int .i64 y.kids, .int .i64 y.n, .string y.s, .string y.t, .string y.u, .int .i64 y.line, .int .i64 y.col] 36)).cell? ⟨wr.heap.size, 5, none⟩ = some (.string x.u) := by unfold World.cell?; simp only; rw [hX]; rfl
                    have p6 : ((wr.alloc (.cells #[.int .i8 y.kind, .int .i64 y.kids, .int .i64 y.n, .string x.s, .string x.t, .string x.u, .int .i64 y.line, .int .i64 y.col] 36)).alloc (.cells #[.int .i8 y.kind, .int .i64 y.kids, .int .i64 y.n, .string y.s, .string y.t, .string y.u, .int .i64 y.line, .int .i64 y.col] 36)).cell? ⟨wr.heap.size, 6, none⟩ = some (.int .i64 y.line) := by unfold World.cell?; simp only; rw [hX]; rfl
                    have p7 : ((wr.alloc (.cells #[.int .i8 y.kind, .int .i64 y.kids, .int .i64 y.n, .string x.s, .string x.t, .string x.u, .int .i64 y.line, .int .i64 y.col] 36)).alloc (.cells #[.int .i8 y.kind, .int .i64 y.kids, .int .i64 y.n, .string y.s, .string y.t, .string y.u, .int .i64 y.line, .int .i64 y.col] 36)).cell? ⟨wr.heap.size, 7, none⟩ = some (.int .i64 y.col) := by unfold World.cell?; simp only; rw [hX]; rfl
                    have q0 : ((wr.alloc (.cells #[.int .i8 y.kind, .int .i64 y.kids, .int .i64 y.n, .string x.s, .string x.t, .string x.u, .int .i64 y.line, .int .i64 y.col] 36)).alloc (.cells #[.int .i8 y.kind, .int .i64 y.kids, .int .i64 y.n, .string y.s, .string y.t, .string y.u, .int .i64 y.line, .int .i64 y.col] 36)).cell? ⟨wr.heap.size + 1, 0, none⟩ = some (.int .i8 y.kind) := by unfold World.cell?; simp only; rw [hY]; rfl
                    have q1 : ((wr.alloc (.cells #[.int .i8 y.kind, .int .i64 y.kids, .int .i64 y.n, .string x.s, .string x.t, .string x.u, .int .i64 y.line, .int .i64 y.col] 36)).alloc (.cells #[.int .i8 y.kind, .int .i64 y.kids, .int .i64 y.n, .string y.s, .string y.t, .string y.u, .int .i64 y.line, .int .i64 y.col] 36)).cell? ⟨wr.heap.size + 1, 1, none⟩ = some (.int .i64 y.kids) := by unfold World.cell?; simp only; rw [hY]; rfl
                    have q2 : ((wr.alloc (.cells #[.int .i8 y.kind, .int .i64 y.kids, .int .i64 y.n, .string x.s, .string x.t, .string x.u, .int .i64 y.line, .int .i64 y.col] 36)).alloc (.cells #[.int .i8 y.kind, .int .i64 y.kids, .int .i64 y.n, .string y.s, .string y.t, .string y.u, .int .i64 y.line, .int .i64 y.col] 36)).cell? ⟨wr.heap.size + 1, 2, none⟩ = some (.int .i64 y.n) := by unfold World.cell?; simp only; rw [hY]; rfl
                    have q3 : ((wr.alloc (.cells #[.int .i8 y.kind, .int .i64 y.kids, .int .i64 y.n, .string x.s, .string x.t, .string x.u, .int .i64 y.line, .int .i64 y.col] 36)).alloc (.cells #[.int .i8 y.kind, .int .i64 y.kids, .int .i64 y.n, .string y.s, .string y.t, .string y.u, .int .i64 y.line, .int .i64 y.col] 36)).cell? ⟨wr.heap.size + 1, 3, none⟩ = some (.string y.s) := by unfold World.cell?; simp only; rw [hY]; rfl
                    have q4 : ((wr.alloc (.cells #[.int .i8 y.kind, .int .i64 y.kids, .int .i64 y.n, .string x.s, .string x.t, .string x.u, .int .i64 y.line, .int .i64 y.col] 36)).alloc (.cells #[.int .i8 y.kind, .int .i64 y.kids, .int .i64 y.n, .string y.s, .string y.t, .string y.u, .int .i64 y.line, .int .i64 y.col] 36)).cell? ⟨wr.heap.size + 1, 4, none⟩ = some (.string y.t) := by unfold World.cell?; simp only; rw [hY]; rfl
                    have q5 : ((wr.alloc (.cells #[.int .i8 y.kind, .int .i64 y.kids, .int .i64 y.n, .string x.s, .string x.t, .string x.u, .int .i64 y.line, .int .i64 y.col] 36)).alloc (.cells #[.int .i8 y.kind, .int .i64 y.kids, .int .i64 y.n, .string y.s, .string y.t, .string y.u, .int .i64 y.line, .int .i64 y.col] 36)).cell? ⟨wr.heap.size + 1, 5, none⟩ = some (.string y.u) := by unfold World.cell?; simp only; rw [hY]; rfl
                    have q6 : ((wr.alloc (.cells #[.int .i8 y.kind, .int .i64 y.kids, .int .i64 y.n, .string x.s, .string x.t, .string x.u, .int .i64 y.line, .int .i64 y.col] 36)).alloc (.cells #[.int .i8 y.kind, .int .i64 y.kids, .int .i64 y.n, .string y.s, .string y.t, .string y.u, .int .i64 y.line, .int .i64 y.col] 36)).cell? ⟨wr.heap.size + 1, 6, none⟩ = some (.int .i64 y.line) := by unfold World.cell?; simp only; rw [hY]; rfl
                    have q7 : ((wr.alloc (.cells #[.int .i8 y.kind, .int .i64 y.kids, .int .i64 y.n, .string x.s, .string x.t, .string x.u, .int .i64 y.line, .int .i64 y.col] 36)).alloc (.cells #[.int .i8 y.kind, .int .i64 y.kids, .int .i64 y.n, .string y.s, .string y.t, .string y.u, .int .i64 y.line, .int .i64 y.col] 36)).cell? ⟨wr.heap.size + 1, 7, none⟩ = some (.int .i64 y.col) := by unfold World.cell?; simp only; rw [hY]; rfl
                    clear hbx hby hX hY HB b0 b1 b2 b3 b4 b5 b6 b7
                    go_wp2_with fail
                    go_roundw
                    case rel => exact ⟨k + 1, by omega, by go_num, HB8⟩
                    case measure => simp [intOf]; omega
                  have e3 : (y.kind == 3) = false := beq_no h3
                  by_cases h2 : y.kind = 2
                  · have e2 : (y.kind == 2) = true := by rw [h2]; rfl
                    have xs : x.s = y.s := by rw [HXY.out]; simp [Ins.bare, h2]
                    rw [xs] at a3
                    clear h1 h2 h3 xs
                    have hbx : Below wr.heap.size wr (wr.alloc (.cells #[.int .i8 y.kind, .int .i64 y.kids, .int .i64 x.n, .string y.s, .string x.t, .string x.u, .int .i64 y.line, .int .i64 y.col] 36)) := (Below.refl _ _).alloc (Nat.le_refl _) _
                    have c0 := cell_later hbx b0
                    have c1 := cell_later hbx b1
                    have c2 := cell_later hbx b2
                    have c3 := cell_later hbx b3
                    have c4 := cell_later hbx b4
                    have c5 := cell_later hbx b5
                    have c6 := cell_later hbx b6
                    have c7 := cell_later hbx b7
                    have hby : Below (wr.alloc (.cells #[.int .i8 y.kind, .int .i64 y.kids, .int .i64 x.n, .string y.s, .string x.t, .string x.u, .int .i64 y.line, .int .i64 y.col] 36)).heap.size (wr.alloc (.cells #[.int .i8 y.kind, .int .i64 y.kids, .int .i64 x.n, .string y.s, .string x.t, .string x.u, .int .i64 y.line, .int .i64 y.col] 36)) ((wr.alloc (.cells #[.int .i8 y.kind, .int .i64 y.kids, .int .i64 x.n, .string y.s, .string x.t, .string x.u, .int .i64 y.line, .int .i64 y.col] 36)).alloc (.cells #[.int .i8 y.kind, .int .i64 y.kids, .int .i64 y.n, .string y.s, .string y.t, .string y.u, .int .i64 y.line, .int .i64 y.col] 36)) := (Below.refl _ _).alloc (Nat.le_refl _) _
                    have HB8 := Lib.hid (below_later (below_later hby hbx) HB.out)
                    have hX : ((wr.alloc (.cells #[.int .i8 y.kind, .int .i64 y.kids, .int .i64 x.n, .string y.s, .string x.t, .string x.u, .int .i64 y.line, .int .i64 y.col] 36)).alloc (.cells #[.int .i8 y.kind, .int .i64 y.kids, .int .i64 y.n, .string y.s, .string y.t, .string y.u, .int .i64 y.line, .int .i64 y.col] 36)).heap[wr.heap.size]? = some (.cells #[.int .i8 y.kind, .int .i64 y.kids, .int .i64 x.n, .string y.s, .string x.t, .string x.u, .int .i64 y.line, .int .i64 y.col] 36 (0, 0)) := (hby.block _ (by simp)).trans (MapKept.heap_alloc wr _).1
                    have hY : ((wr.alloc (.cells #[.int .i8 y.kind, .int .i64 y.kids, .int .i64 x.n, .string y.s, .string x.t, .string x.u, .int .i64 y.line, .int .i64 y.col] 36)).alloc (.cells #[.int .i8 y.kind, .int .i64 y.kids, .int .i64 y.n, .string y.s, .string y.t, .string y.u, .int .i64 y.line, .int .i64 y.col] 36)).heap[wr.heap.size + 1]? = some (.cells #[.int .i8 y.kind, .int .i64 y.kids, .int .i64 y.n, .string y.s, .string y.t, .string y.u, .int .i64 y.line, .int .i64 y.col] 36 (0, 0)) := by
                      have := (MapKept.heap_alloc (wr.alloc (.cells #[.int .i8 y.kind, .int .i64 y.kids, .int .i64 x.n, .string y.s, .string x.t, .string x.u, .int .i64 y.line, .int .i64 y.col] 36)) (.cells #[.int .i8 y.kind, .int .i64 y.kids, .int .i64 y.n, .string y.s, .string y.t, .string y.u, .int .i64 y.line, .int .i64 y.col] 36)).1
                      simpa using this
                    have p0 : ((wr.alloc (.cells #[.int .i8 y.kind, .int .i64 y.kids, .int .i64 x.n, .string y.s, .string x.t, .string x.u, .int .i64 y.line, .int .i64 y.col] 36)).alloc (.cells #[.int .i8 y.kind, .int .i64 y.kids, .int .i64 y.n, .string y.s, .string y.t, .string y.u, .int .i64 y.line, .int .i64 y.col] 36)).cell? ⟨wr.heap.size, 0, none⟩ = some (.int .i8 y.kind) := by unfold World.cell?; simp only; rw [hX]; rfl
                    have p1 : ((wr.alloc (.cells #[.int .i8 y.kind, .int .i64 y.kids, .int .i64 x.n, .string y.s, .string x.t, .string x.u, .int .i64 y.line, .int .i64 y.col] 36)).alloc (.cells #[.int .i8 y.kind, .int .i64 y.kids, .int .i64 y.n, .string y.s, .string y.t, .string y.u, .int .i64 y.line, .int .i64 y.col] 36)).cell? ⟨wr.heap.size, 1, none⟩ = some (.int .i64 y.kids) := by unfold World.cell?; simp only; rw [hX]; rfl
                    have p2 : ((wr.alloc (.cells #[.int .i8 y.kind, .int .i64 y.kids, .int .i64 x.n, .string y.s, .string x.t, .string x.u, .int .i64 y.line, .int .i64 y.col] 36)).alloc (.cells #[.int .i8 y.kind, .int .i64 y.kids, .int .i64 y.n, .string y.s, .string y.t, .string y.u, .int .i64 y.line, .int .i64 y.col] 36)).cell? ⟨wr.heap.size, 2, none⟩ = some (.int .i64 x.n) := by unfold World.cell?; simp only; rw [hX]; rfl
                    have p3 : ((wr.alloc (.cells #[.int .i8 y.kind, .int .i64 y.kids, .int .i64 x.n, .string y.s, .string x.t, .string x.u, .int .i64 y.line, .int .i64 y.col] 36)).alloc (.cells #[.int .i8 y.kind, .int .i64 y.kids, .int .i64 y.n, .string y.s, .string y.t, .string y.u, .int .i64 y.line, .int .i64 y.col] 36)).cell? ⟨wr.heap.size, 3, none⟩ = some (.string y.s) := by unfold World.cell?; simp only; rw [hX]; rfl
                    have p4 : ((wr.alloc (.cells #[.int .i8 y.kind, .int .i64 y.kids, .int .i64 x.n, .string y.s, .string x.t, .string x.u, .int .i64 y.line, .int .i64 y.col] 36)).alloc (.cells #[.int .i8 y.kind, .int .i64 y.kids, .int .i64 y.n, .string y.s, .string y.t, .string y.u, .int .i64 y.line, .int .i64 y.col] 36)).cell? ⟨wr.heap.size, 4, none⟩ = some (.string x.t) := by unfold World.cell?; simp only; rw [hX]; rfl
                    have p5 : ((wr.alloc (.cells #[.int .i8 y.kind, .int .i64 y.kids, .int .i64 x.n, .string y.s, .string x.t, .string x.u, .int .i64 y.line, .int .i64 y.col] 36)).alloc (.cells #[.int .i8 y.kind, .int .i64 y.kids, .int .i64 y.n, .string y.s, .string y.t, .string y.u, .int .i64 y.line, .int .i64 y.col] 36)).cell? ⟨wr.heap.size, 5, none⟩ = some (.string x.u) := by unfold World.cell?; simp only; rw [hX]; rfl
                    have p6 : ((wr.alloc (.cells #[.int .i8 y.kind, .int .i64 y.kids, .int .i64 x.n, .string y.s, .string x.t, .string x.u, .int .i64 y.line, .int .i64 y.col] 36)).alloc (.cells #[.int .i8 y.kind, .int .i64 y.kids, .int .i64 y.n, .string y.s, .string y.t, .string y.u, .int .i64 y.line, .int .i64 y.col] 36)).cell? ⟨wr.heap.size, 6, none⟩ = some (.int .i64 y.line) := by unfold World.cell?; simp only; rw [hX]; rfl
                    have p7 : ((wr.alloc (.cells #[.int .i8 y.kind, .int .i64 y.kids, .int .i64 x.n, .string y.s, .string x.t, .string x.u, .int .i64 y.line, .int .i64 y.col] 36)).alloc (.cells #[.int .i8 y.kind, .int .i64 y.kids, .int .i64 y.n, .string y.s, .string y.t, .string y.u, .int .i64 y.line, .int .i64 y.col] 36)).cell? ⟨wr.heap.size, 7, none⟩ = some (.int .i64 y.col) := by unfold World.cell?; simp only; rw [hX]; rfl
                    have q0 : ((wr.alloc (.cells #[.int .i8 y.kind, .int .i64 y.kids, .int .i64 x.n, .string y.s, .string x.t, .string x.u, .int .i64 y.line, .int .i64 y.col] 36)).alloc (.cells #[.int .i8 y.kind, .int .i64 y.kids, .int .i64 y.n, .string y.s, .string y.t, .string y.u, .int .i64 y.line, .int .i64 y.col] 36)).cell? ⟨wr.heap.size + 1, 0, none⟩ = some (.int .i8 y.kind) := by unfold World.cell?; simp only; rw [hY]; rfl
                    have q1 : ((wr.alloc (.cells #[.int .i8 y.kind, .int .i64 y.kids, .int .i64 x.n, .string y.s, .string x.t, .string x.u, .int .i64 y.line, .int .i64 y.col] 36)).alloc (.cells #[.int .i8 y.kind, .int .i64 y.kids, .int .i64 y.n, .string y.s, .string y.t, .string y.u, .int .i64 y.line, .int .i64 y.col] 36)).cell? ⟨wr.heap.size + 1, 1, none⟩ = some (.int .i64 y.kids) := by unfold World.cell?; simp only; rw [hY]; rfl
                    have q2 : ((wr.alloc (.cells #[.int .i8 y.kind, .int .i64 y.kids, .int .i64 x.n, .string y.s, .string x.t, .string x.u, .int .i64 y.line, .int .i64 y.col] 36)).alloc (.cells #[.int .i8 y.kind, .int .i64 y.kids, .int .i64 y.n, .string y.s, .string y.t, .string y.u, .int .i64 y.line, .int .i64 y.col] 36)).cell? ⟨wr.heap.size + 1, 2, none⟩ = some (.int .i64 y.n) := by unfold World.cell?; simp only; rw [hY]; rfl
                    have q3 : ((wr.alloc (.cells #[.int .i8 y.kind, .int .i64 y.kids, .int .i64 x.n, .string y.s, .string x.t, .string x.u, .int .i64 y.line, .int .i64 y.col] 36)).alloc (.cells #[.int .i8 y.kind, .int .i64 y.kids, .int .i64 y.n, .string y.s, .string y.t, .string y.u, .int .i64 y.line, .int .i64 y.col] 36)).cell? ⟨wr.heap.size + 1, 3, none⟩ = some (.string y.s) := by unfold World.cell?; simp only; rw [hY]; rfl
                    have q4 : ((wr.alloc (.cells #[.int .i8 y.kind, .int .i64 y.kids, .int .i64 x.n, .string y.s, .string x.t, .string x.u, .int .i64 y.line, .int .i64 y.col] 36)).alloc (.cells #[.int .i8 y.kind, .int .i64 y.kids, .int .i64 y.n, .string y.s, .string y.t, .string y.u, .int .i64 y.line, .int .i64 y.col] 36)).cell? ⟨wr.heap.size + 1, 4, none⟩ = some (.string y.t) := by unfold World.cell?; simp only; rw [hY]; rfl
                    have q5 : ((wr.alloc (.cells #[.int .i8 y.kind, .int .i64 y.kids, .int .i64 x.n, .string y.s, .string x.t, .string x.u, .int .i64 y.line, .int .i64 y.col] 36)).alloc (.cells #[.int .i8 y.kind, .int .i64 y.kids, .int .i64 y.n, .string y.s, .string y.t, .string y.u, .int .i64 y.line, .int .i64 y.col] 36)).cell? ⟨wr.heap.size + 1, 5, none⟩ = some (.string y.u) := by unfold World.cell?; simp only; rw [hY]; rfl
                    have q6 : ((wr.alloc (.cells #[.int .i8 y.kind, .int .i64 y.kids, .int .i64 x.n, .string y.s, .string x.t, .string x.u, .int .i64 y.line, .int .i64 y.col] 36)).alloc (.cells #[.int .i8 y.kind, .int .i64 y.kids, .int .i64 y.n, .string y.s, .string y.t, .string y.u, .int .i64 y.line, .int .i64 y.col] 36)).cell? ⟨wr.heap.size + 1, 6, none⟩ = some (.int .i64 y.line) := by unfold World.cell?; simp only; rw [hY]; rfl
                    have q7 : ((wr.alloc (.cells #[.int .i8 y.kind, .int .i64 y.kids, .int .i64 x.n, .string y.s, .string x.t, .string x.u, .int .i64 y.line, .int .i64 y.col] 36)).alloc (.cells #[.int .i8 y.kind, .int .i64 y.kids, .int .i64 y.n, .string y.s, .string y.t, .string y.u, .int .i64 y.line, .int .i64 y.col] 36)).cell? ⟨wr.heap.size + 1, 7, none⟩ = some (.int .i64 y.col) := by unfold World.cell?; simp only; rw [hY]; rfl
                    clear hbx hby hX hY HB b0 b1 b2 b3 b4 b5 b6 b7
                    go_wp2_with fail
                    go_roundw
                    case rel => exact ⟨k + 1, by omega, by go_num, HB8⟩
                    case measure => simp [intOf]; omega
                  have e2 : (y.kind == 2) = false := beq_no h2
                  by_cases h5 : y.kind = 5
                  · have e5 : (y.kind == 5) = true := by rw [h5]; rfl
                    have xt : x.t = (Tr.noteT y.t).str := by rw [HXY.out]; simp [Ins.bare, h5]
                    have xu : x.u = (Tr.noteT y.u).str := by rw [HXY.out]; simp [Ins.bare, h5]
                    rw [xt] at a4
                    rw [xu] at a5
                    replace HN1 := Lib.hid (HN1.out (.inl h5))
                    replace HN2 := Lib.hid (HN2.out (.inl h5))
                    clear h1 h2 h3 h5 xt xu
                    generalize (Tr.noteT y.t).str = S1 at *
                    generalize (Tr.noteT y.u).str = S2 at *
                    have hbx : Below wr.heap.size wr (wr.alloc (.cells #[.int .i8 y.kind, .int .i64 y.kids, .int .i64 x.n, .string x.s, .string S1, .string S2, .int .i64 y.line, .int .i64 y.col] 36)) := (Below.refl _ _).alloc (Nat.le_refl _) _
                    have c0 := cell_later hbx b0
                    have c1 := cell_later hbx b1
                    have c2 := cell_later hbx b2
                    have c3 := cell_later hbx b3
                    have c4 := cell_later hbx b4
                    have c5 := cell_later hbx b5
                    have c6 := cell_later hbx b6
                    have c7 := cell_later hbx b7
                    have hby : Below (wr.alloc (.cells #[.int .i8 y.kind, .int .i64 y.kids, .int .i64 x.n, .string x.s, .string S1, .string S2, .int .i64 y.line, .int .i64 y.col] 36)).heap.size (wr.alloc (.cells #[.int .i8 y.kind, .int .i64 y.kids, .int .i64 x.n, .string x.s, .string S1, .string S2, .int .i64 y.line, .int .i64 y.col] 36)) ((wr.alloc (.cells #[.int .i8 y.kind, .int .i64 y.kids, .int .i64 x.n, .string x.s, .string S1, .string S2, .int .i64 y.line, .int .i64 y.col] 36)).alloc (.cells #[.int .i8 y.kind, .int .i64 y.kids, .int .i64 y.n, .string y.s, .string y.t, .string y.u, .int .i64 y.line, .int .i64 y.col] 36)) := (Below.refl _ _).alloc (Nat.le_refl _) _
                    have HB8 := Lib.hid (below_later (below_later hby hbx) HB.out)
                    have hX : ((wr.alloc (.cells #[.int .i8 y.kind, .int .i64 y.kids, .int .i64 x.n, .string x.s, .string S1, .string S2, .int .i64 y.line, .int .i64 y.col] 36)).alloc (.cells #[.int .i8 y.kind, .int .i64 y.kids, .int .i64 y.n, .string y.s, .string y.t, .string y.u, .int .i64 y.line, .int .i64 y.col] 36)).heap[wr.heap.size]? = some (.cells #[.int .i8 y.kind, .int .i64 y.kids, .int .i64 x.n, .string x.s, .string S1, .string S2, .int .i64 y.line, .int .i64 y.col] 36 (0, 0)) := (hby.block _ (by simp)).trans (MapKept.heap_alloc wr _).1
                    have hY : ((wr.alloc (.cells #[.int .i8 y.kind, .int .i64 y.kids, .int .i64 x.n, .string x.s, .string S1, .string S2, .int .i64 y.line, .int .i64 y.col] 36)).alloc (.cells #[.int .i8 y.kind, .int .i64 y.kids, .int .i64 y.n, .string y.s, .string y.t, .string y.u, .int .i64 y.line, .int .i64 y.col] 36)).heap[wr.heap.size + 1]? = some (.cells #[.int .i8 y.kind, .int .i64 y.kids, .int .i64 y.n, .string y.s, .string y.t, .string y.u, .int .i64 y.line, .int .i64 y.col] 36 (0, 0)) := by
                      have := (MapKept.heap_alloc (wr.alloc (.cells #[.int .i8 y.kind, .int .i64 y.kids, .int .i64 x.n, .string x.s, .string S1, .string S2, .int .i64 y.line, .int .i64 y.col] 36)) (.cells #[.int .i8 y.kind, .int .i64 y.kids, .int .i64 y.n, .string y.s, .string y.t, .string y.u, .int .i64 y.line, .int .i64 y.col] 36)).1
                      simpa using this
                    have p0 : ((wr.alloc (.cells #[.int .i8 y.kind, .int .i64 y.kids, .int .i64 x.n, .string x.s, .string S1, .string S2, .int .i64 y.line, .int .i64 y.col] 36)).alloc (.cells #[.int .i8 y.kind, .int .i64 y.kids, .int .i64 y.n, .string y.s, .string y.t, .string y.u, .int .i64 y.line, .int .i64 y.col] 36)).cell? ⟨wr.heap.size, 0, none⟩ = some (.int .i8 y.kind) := by unfold World.cell?; simp only; rw [hX]; rfl
                    have p1 : ((wr.alloc (.cells #[.int .i8 y.kind, .int .i64 y.kids, .int .i64 x.n, .string x.s, .string S1, .string S2, .int .i64 y.line, .int .i64 y.col] 36)).alloc (.cells #[.int .i8 y.kind, .int .i64 y.kids, .int .i64 y.n, .string y.s, .string y.t, .string y.u, .int .i64 y.line, .int .i64 y.col] 36)).cell? ⟨wr.heap.size, 1, none⟩ = some (.int .i64 y.kids) := by unfold World.cell?; simp only; rw [hX]; rfl
                    have p2 : ((wr.alloc (.cells #[.int .i8 y.kind, .int .i64 y.kids, .int .i64 x.n, .string x.s, .string S1, .string S2, .int .i64 y.line, .int .i64 y.col] 36)).alloc (.cells #[.int .i8 y.kind, .int .i64 y.kids, .int .i64 y.n, .string y.s, .string y.t, .string y.u, .int .i64 y.line, .int .i64 y.col] 36)).cell? ⟨wr.heap.size, 2, none⟩ = some (.int .i64 x.n) := by unfold World.cell?; simp only; rw [hX]; rfl
                    have p3 : ((wr.alloc (.cells #[.int .i8 y.kind, .int .i64 y.kids, .int .i64 x.n, .string x.s, .string S1, .string S2, .int .i64 y.line, .int .i64 y.col] 36)).alloc (.cells #[.int .i8 y.kind, .int .i64 y.kids, .int .i64 y.n, .string y.s, .string y.t, .string y.u, .int .i64 y.line, .int .i64 y.col] 36)).cell? ⟨wr.heap.size, 3, none⟩ = some (.string x.s) := by unfold World.cell?; simp only; rw [hX]; rfl
                    have p4 : ((wr.alloc (.cells #[.int .i8 y.kind, .int .i64 y.kids, .int .i64 x.n, .string x.s, .string S1, .string S2, .int .i64 y.line, .int .i64 y.col] 36)).alloc (.cells #[.int .i8 y.kind, .int .i64 y.kids, .int .i64 y.n, .string y.s, .string y.t, .string y.u, .int .i64 y.line, .int .i64 y.col] 36)).cell? ⟨wr.heap.size, 4, none⟩ = some (.string S1) := by unfold World.cell?; simp only; rw [hX]; rfl
                    have p5 : ((wr.alloc (.cells #[.int .i8 y.kind, .int .i64 y.kids, .int .i64 x.n, .string x.s, .string S1, .string S2, .int .i64 y.line, .int .i64 y.col] 36)).alloc (.cells #[.int .i8 y.kind, .int .i64 y.kids, .int .i64 y.n, .string y.s, .string y.t, .string y.u, .int .i64 y.line, .int .i64 y.col] 36)).cell? ⟨wr.heap.size, 5, none⟩ = some (.string S2) := by unfold World.cell?; simp only; rw [hX]; rfl
                    have p6 : ((wr.alloc (.cells #[.int .i8 y.kind, .int .i64 y.kids, .int .i64 x.n, .string x.s, .string S1, .string S2, .int .i64 y.line, .int .i64 y.col] 36)).alloc (.cells #[.int .i8 y.kind, .int .i64 y.kids, .int .i64 y.n, .string y.s, .string y.t, .string y.u, .int .i64 y.line, .int .i64 y.col] 36)).cell? ⟨wr.heap.size, 6, none⟩ = some (.int .i64 y.line) := by unfold World.cell?; simp only; rw [hX]; rfl
                    have p7 : ((wr.alloc (.cells #[.int .i8 y.kind, .int .i64 y.kids, .int .i64 x.n, .string x.s, .string S1, .string S2, .int .i64 y.line, .int .i64 y.col] 36)).alloc (.cells #[.int .i8 y.kind, .int .i64 y.kids, .int .i64 y.n, .string y.s, .string y.t, .string y.u, .int .i64 y.line, .int .i64 y.col] 36)).cell? ⟨wr.heap.size, 7, none⟩ = some (.int .i64 y.col) := by unfold World.cell?; simp only; rw [hX]; rfl
                    have q0 : ((wr.alloc (.cells #[.int .i8 y.kind, .int .i64 y.kids, .int .i64 x.n, .string x.s, .string S1, .string S2, .int .i64 y.line, .int .i64 y.col] 36)).alloc (.cells #[.int .i8 y.kind, .int .i64 y.kids, .int .i64 y.n, .string y.s, .string y.t, .string y.u, .int .i64 y.line, .int .i64 y.col] 36)).cell? ⟨wr.heap.size + 1, 0, none⟩ = some (.int .i8 y.kind) := by unfold World.cell?; simp only; rw [hY]; rfl
                    have q1 : ((wr.alloc (.cells #[.int .i8 y.kind, .int .i64 y.kids, .int .i64 x.n, .string x.s, .string S1, .string S2, .int .i64 y.line, .int .i64 y.col] 36)).alloc (.cells #[.int .i8 y.kind, .int .i64 y.kids, .int .i64 y.n, .string y.s, .string y.t, .string y.u, .int .i64 y.line, .int .i64 y.col] 36)).cell? ⟨wr.heap.size + 1, 1, none⟩ = some (.int .i64 y.kids) := by unfold World.cell?; simp only; rw [hY]; rfl
                    have q2 : ((wr.alloc (.cells #[.int .i8 y.kind, .int .i64 y.kids, .int .i64 x.n, .string x.s, .string S1, .string S2, .int .i64 y.line, .int .i64 y.col] 36)).alloc (.cells #[.int .i8 y.kind, .int .i64 y.kids, .int .i64 y.n, .string y.s, .string y.t, .string y.u, .int .i64 y.line, .int .i64 y.col] 36)).cell? ⟨wr.heap.size + 1, 2, none⟩ = some (.int .i64 y.n) := by unfold World.cell?; simp only; rw [hY]; rfl
                    have q3 : ((wr.alloc (.cells #[.int .i8 y.kind, .int .i64 y.kids, .int .i64 x.n, .string x.s, .string S1, .string S2, .int .i64 y.line, .int .i64 y.col] 36)).alloc (.cells #[.int .i8 y.kind, .int .i64 y.kids, .int .i64 y.n, .string y.s, .string y.t, .string y.u, .int .i64 y.line, .int .i64 y.col] 36)).cell? ⟨wr.heap.size + 1, 3, none⟩ = some (.string y.s) := by unfold World.cell?; simp only; rw [hY]; rfl
                    have q4 : ((wr.alloc (.cells #[.int .i8 y.kind, .int .i64 y.kids, .int .i64 x.n, .string x.s, .string S1, .string S2, .int .i64 y.line, .int .i64 y.col] 36)).alloc (.cells #[.int .i8 y.kind, .int .i64 y.kids, .int .i64 y.n, .string y.s, .string y.t, .string y.u, .int .i64 y.line, .int .i64 y.col] 36)).cell? ⟨wr.heap.size + 1, 4, none⟩ = some (.string y.t) := by unfold World.cell?; simp only; rw [hY]; rfl
                    have q5 : ((wr.alloc (.cells #[.int .i8 y.kind, .int .i64 y.kids, .int .i64 x.n, .string x.s, .string S1, .string S2, .int .i64 y.line, .int .i64 y.col] 36)).alloc (.cells #[.int .i8 y.kind, .int .i64 y.kids, .int .i64 y.n, .string y.s, .string y.t, .string y.u, .int .i64 y.line, .int .i64 y.col] 36)).cell? ⟨wr.heap.size + 1, 5, none⟩ = some (.string y.u) := by unfold World.cell?; simp only; rw [hY]; rfl
                    have q6 : ((wr.alloc (.cells #[.int .i8 y.kind, .int .i64 y.kids, .int .i64 x.n, .string x.s, .string S1, .string S2, .int .i64 y.line, .int .i64 y.col] 36)).alloc (.cells #[.int .i8 y.kind, .int .i64 y.kids, .int .i64 y.n, .string y.s, .string y.t, .string y.u, .int .i64 y.line, .int .i64 y.col] 36)).cell? ⟨wr.heap.size + 1, 6, none⟩ = some (.int .i64 y.line) := by unfold World.cell?; simp only; rw [hY]; rfl
                    have q7 : ((wr.alloc (.cells #[.int .i8 y.kind, .int .i64 y.kids, .int .i64 x.n, .string x.s, .string S1, .string S2, .int .i64 y.line, .int .i64 y.col] 36)).alloc (.cells #[.int .i8 y.kind, .int .i64 y.kids, .int .i64 y.n, .string y.s, .string y.t, .string y.u, .int .i64 y.line, .int .i64 y.col] 36)).cell? ⟨wr.heap.size + 1, 7, none⟩ = some (.int .i64 y.col) := by unfold World.cell?; simp only; rw [hY]; rfl
                    clear hbx hby hX hY HB b0 b1 b2 b3 b4 b5 b6 b7
                    go_wp2_with fail
                    generalize ((wr.alloc (.cells #[.int .i8 y.kind, .int .i64 y.kids, .int .i64 x.n, .string x.s, .string S1, .string S2, .int .i64 y.line, .int .i64 y.col] 36)).alloc (.cells #[.int .i8 y.kind, .int .i64 y.kids, .int .i64 y.n, .string y.s, .string y.t, .string y.u, .int .i64 y.line, .int .i64 y.col] 36)) = w8 at *
                    clear c0 c1 c2 c3 c4 c5 c6 c7 a0 a1 a2 a3 a4 a5 a6 a7
                    refine wp_region_plan (S := fun w' => w'.cell? ⟨wr.heap.size, 4, none⟩ = some (.string S1) ∧ w'.cell? ⟨wr.heap.size, 5, none⟩ = some (.string S2) ∧ w'.cell? ⟨wr.heap.size + 1, 4, none⟩ = some (.string y.t) ∧ w'.cell? ⟨wr.heap.size + 1, 5, none⟩ = some (.string y.u)) [(0, true), (1, true), (2, true), (3, true), (4, false), (5, true), (6, true), (7, true), (8, true), (9, true), (10, true), (11, false), (12, true), (13, true)] (by kernel_rfl) (by kernel_rfl) (by kernel_rfl) (fun _ _ _ _ _ h => h) ⟨p4, p5, q4, q5⟩ ?_
                    intro HS
                    repeat (first | (apply wpPlan_look; rfl; rfl; (intro wq hq; (try dsimp only at hq); go_split_ands; go_simp; (try rw [if_neg (by omega)]); (try rw [if_pos (by omega)]); try with_reducible rfl); simp only [Act.put, List.setIfInBounds_toArray, List.set_cons_zero, List.set_cons_succ]) | (apply wpPlan_skip; rfl; rfl; simp only [Act.put, List.setIfInBounds_toArray, List.set_cons_zero, List.set_cons_succ]) | (apply wpPlan_pass; rfl; rfl; assumption; simp only [Act.put, List.setIfInBounds_toArray, List.set_cons_zero, List.set_cons_succ]))
                    apply wpPlan_call; rfl; rfl; rfl; rfl; kernel_rfl; exact HN1.out _; rfl; rintro E w9 ⟨rfl, rfl⟩
                    refine ⟨_, rfl, as_S HS ?_⟩
                    intro HS
                    simp only [Act.put, List.setIfInBounds_toArray, List.set_cons_zero, List.set_cons_succ]
                    repeat (first | (apply wpPlan_look; rfl; rfl; (intro wq hq; (try dsimp only at hq); go_split_ands; go_simp; (try rw [if_neg (by omega)]); (try rw [if_pos (by omega)]); try with_reducible rfl); simp only [Act.put, List.setIfInBounds_toArray, List.set_cons_zero, List.set_cons_succ]) | (apply wpPlan_skip; rfl; rfl; simp only [Act.put, List.setIfInBounds_toArray, List.set_cons_zero, List.set_cons_succ]) | (apply wpPlan_pass; rfl; rfl; assumption; simp only [Act.put, List.setIfInBounds_toArray, List.set_cons_zero, List.set_cons_succ]))
                    apply wpPlan_call; rfl; rfl; rfl; rfl; kernel_rfl; exact HN2.out _; rfl; rintro E w9 ⟨rfl, rfl⟩
                    refine ⟨_, rfl, as_S HS ?_⟩
                    intro HS
                    simp only [Act.put, List.setIfInBounds_toArray, List.set_cons_zero, List.set_cons_succ]
                    repeat (first | (apply wpPlan_look; rfl; rfl; (intro wq hq; (try dsimp only at hq); go_split_ands; go_simp; (try rw [if_neg (by omega)]); (try rw [if_pos (by omega)]); try with_reducible rfl); simp only [Act.put, List.setIfInBounds_toArray, List.set_cons_zero, List.set_cons_succ]) | (apply wpPlan_skip; rfl; rfl; simp only [Act.put, List.setIfInBounds_toArray, List.set_cons_zero, List.set_cons_succ]) | (apply wpPlan_pass; rfl; rfl; assumption; simp only [Act.put, List.setIfInBounds_toArray, List.set_cons_zero, List.set_cons_succ]))
                    apply wpPlan_done
                    have HB9 := Lib.hid HB8.out.drew
                    clear HS p0 p1 p2 p3 p4 p5 p6 p7 q0 q1 q2 q3 q4 q5 q6 q7
                    go_wp2_with fail
                    go_roundw
                    case rel => exact ⟨k + 1, by omega, by go_num, HB9⟩
                    case measure => simp [intOf]; omega
                  have e5 : (y.kind == 5) = false := beq_no h5
                  by_cases h6 : y.kind = 6
                  · have e6 : (y.kind == 6) = true := by rw [h6]; rfl
                    have xt : x.t = (Tr.noteT y.t).str := by rw [HXY.out]; simp [Ins.bare, h6]
                    have xu : x.u = (Tr.noteT y.u).str := by rw [HXY.out]; simp [Ins.bare, h6]
                    rw [xt] at a4
                    rw [xu] at a5
                    replace HN1 := Lib.hid (HN1.out (.inr (.inl h6)))
                    replace HN2 := Lib.hid (HN2.out (.inr h6))
                    clear h1 h2 h3 h5 h6 xt xu
                    generalize (Tr.noteT y.t).str = S1 at *
                    generalize (Tr.noteT y.u).str = S2 at *
                    have hbx : Below wr.heap.size wr (wr.alloc (.cells #[.int .i8 y.kind, .int .i64 y.kids, .int .i64 x.n, .string x.s, .string S1, .string S2, .int .i64 y.line, .int .i64 y.col] 36)) := (Below.refl _ _).alloc (Nat.le_refl _) _
                    have c0 := cell_later hbx b0
                    have c1 := cell_later hbx b1
                    have c2 := cell_later hbx b2
                    have c3 := cell_later hbx b3
                    have c4 := cell_later hbx b4
                    have c5 := cell_later hbx b5
                    have c6 := cell_later hbx b6
                    have c7 := cell_later hbx b7
                    have hby : Below (wr.alloc (.cells #[.int .i8 y.kind, .int .i64 y.kids, .int .i64 x.n, .string x.s, .string S1, .string S2, .int .i64 y.line, .int .i64 y.col] 36)).heap.size (wr.alloc (.cells #[.int .i8 y.kind, .int .i64 y.kids, .int .i64 x.n, .string x.s, .string S1, .string S2, .int .i64 y.line, .int .i64 y.col] 36)) ((wr.alloc (.cells #[.int .i8 y.kind, .int .i64 y.kids, .int .i64 x.n, .string x.s, .string S1, .string S2, .int .i64 y.line, .int .i64 y.col] 36)).alloc (.cells #[.int .i8 y.kind, .int .i64 y.kids, .int .i64 y.n, .string y.s, .string y.t, .string y.u, .int .i64 y.line, .int .i64 y.col] 36)) := (Below.refl _ _).alloc (Nat.le_refl _) _
                    have HB8 := Lib.hid (below_later (below_later hby hbx) HB.out)
                    have hX : ((wr.alloc (.cells #[.int .i8 y.kind, .int .i64 y.kids, .int .i64 x.n, .string x.s, .string S1, .string S2, .int .i64 y.line, .int .i64 y.col] 36)).alloc (.cells #[.int .i8 y.kind, .int .i64 y.kids, .int .i64 y.n, .string y.s, .string y.t, .string y.u, .int .i64 y.line, .int .i64 y.col] 36)).heap[wr.heap.size]? = some (.cells #[.int .i8 y.kind, .int .i64 y.kids, .int .i64 x.n, .string x.s, .string S1, .string S2, .int .i64 y.line, .int .i64 y.col] 36 (0, 0)) := (hby.block _ (by simp)).trans (MapKept.heap_alloc wr _).1
                    have hY : ((wr.alloc (.cells #[.int .i8 y.kind, .int .i64 y.kids, .int .i64 x.n, .string x.s, .string S1, .string S2, .int .i64 y.line, .int .i64 y.col] 36)).alloc (.cells #[.int .i8 y.kind, .int .i64 y.kids, .int .i64 y.n, .string y.s, .string y.t, .string y.u, .int .i64 y.line, .int .i64 y.col] 36)).heap[wr.heap.size + 1]? = some (.cells #[.int .i8 y.kind, .int .i64 y.kids, .int .i64 y.n, .string y.s, .string y.t, .string y.u, .int .i64 y.line, .int .i64 y.col] 36 (0, 0)) := by
                      have := (MapKept.heap_alloc (wr.alloc (.cells #[.int .i8 y.kind, .int .i64 y.kids, .int .i64 x.n, .string x.s, .string S1, .string S2, .int .i64 y.line, .int .i64 y.col] 36)) (.cells #[.int .i8 y.kind, .int .i64 y.kids, .int .i64 y.n, .string y.s, .string y.t, .string y.u, .int .i64 y.line, .int .i64 y.col] 36)).1
                      simpa using this
                    have p0 : ((wr.alloc (.cells #[.int .i8 y.kind, .int .i64 y.kids, .int .i64 x.n, .string x.s, .string S1, .string S2, .int .i64 y.line, .int .i64 y.col] 36)).alloc (.cells #[.int .i8 y.kind, .int .i64 y.kids, .int .i64 y.n, .string y.s, .string y.t, .string y.u, .int .i64 y.line, .int .i64 y.col] 36)).cell? ⟨wr.heap.size, 0, none⟩ = some (.int .i8 y.kind) := by unfold World.cell?; simp only; rw [hX]; rfl
                    have p1 : ((wr.alloc (.cells #[.int .i8 y.kind, .int .i64 y.kids, .int .i64 x.n, .string x.s, .string S1, .string S2, .int .i64 y.line, .int .i64 y.col] 36)).alloc (.cells #[.int .i8 y.kind, .int .i64 y.kids, .int .i64 y.n, .string y.s, .string y.t, .string y.u, .int .i64 y.line, .int .i64 y.col] 36)).cell? ⟨wr.heap.size, 1, none⟩ = some (.int .i64 y.kids) := by unfold World.cell?; simp only; rw [hX]; rfl
                    have p2 : ((wr.alloc (.cells #[.int .i8 y.kind, .int .i64 y.kids, .int .i64 x.n, .string x.s, .string S1, .string S2, .int .i64 y.line, .int .i64 y.col] 36)).alloc (.cells #[.int .i8 y.kind, .int .i64 y.kids, .int .i64 y.n, .string y.s, .string y.t, .string y.u, .int .i64 y.line, .int .i64 y.col] 36)).cell? ⟨wr.heap.size, 2, none⟩ = some (.int .i64 x.n) := by unfold World.cell?; simp only; rw [hX]; rfl
                    have p3 : ((wr.alloc (.cells #[.int .i8 y.kind, .int .i64 y.kids, .int .i64 x.n, .string x.s, .string S1, .string S2, .int .i64 y.line, .int .i64 y.col] 36)).alloc (.cells #[.int .i8 y.kind, .int .i64 y.kids, .int .i64 y.n, .string y.s, .string y.t, .string y.u, .int .i64 y.line, .int .i64 y.col] 36)).cell? ⟨wr.heap.size, 3, none⟩ = some (.string x.s) := by unfold World.cell?; simp only; rw [hX]; rfl
                    have p4 : ((wr.alloc (.cells #[.int .i8 y.kind, .int .i64 y.kids, .int .i64 x.n, .string x.s, .string S1, .string S2, .int .i64 y.line, .int .i64 y.col] 36)).alloc (.cells #[.int .i8 y.kind, .int .i64 y.kids, .int .i64 y.n, .string y.s, .string y.t, .string y.u, .int .i64 y.line, .int .i64 y.col] 36)).cell? ⟨wr.heap.size, 4, none⟩ = some (.string S1) := by unfold World.cell?; simp only; rw [hX]; rfl
                    have p5 : ((wr.alloc (.cells #[.int .i8 y.kind, .int .i64 y.kids, .int .i64 x.n, .string x.s, .string S1, .string S2, .int .i64 y.line, .int .i64 y.col] 36)).alloc (.cells #[.int .i8 y.kind, .int .i64 y.kids, .int .i64 y.n, .string y.s, .string y.t, .string y.u, .int .i64 y.line, .int .i64 y.col] 36)).cell? ⟨wr.heap.size, 5, none⟩ = some (.string S2) := by unfold World.cell?; simp only; rw [hX]; rfl
                    have p6 : ((wr.alloc (.cells #[.int .i8 y.kind, .int .i64 y.kids, .int .i64 x.n, .string x.s, .string S1, .string S2, .int .i64 y.line, .int .i64 y.col] 36)).alloc (.cells #[.int .i8 y.kind, .int .i64 y.kids, .int .i64 y.n, .string y.s, .string y.t, .string y.u, .int .i64 y.line, .int .i64 y.col] 36)).cell? ⟨wr.heap.size, 6, none⟩ = some (.int .i64 y.line) := by unfold World.cell?; simp only; rw [hX]; rfl
                    have p7 : ((wr.alloc (.cells #[.int .i8 y.kind, .int .i64 y.kids, .int .i64 x.n, .string x.s, .string S1, .string S2, .int .i64 y.line, .int .i64 y.col] 36)).alloc (.cells #[.int .i8 y.kind, .int .i64 y.kids, .int .i64 y.n, .string y.s, .string y.t, .string y.u, .int .i64 y.line, .int .i64 y.col] 36)).cell? ⟨wr.heap.size, 7, none⟩ = some (.int .i64 y.col) := by unfold World.cell?; simp only; rw [hX]; rfl
                    have q0 : ((wr.alloc (.cells #[.int .i8 y.kind, .int .i64 y.kids, .int .i64 x.n, .string x.s, .string S1, .string S2, .int .i64 y.line, .int .i64 y.col] 36)).alloc (.cells #[.int .i8 y.kind, .int .i64 y.kids, .int .i64 y.n, .string y.s, .string y.t, .string y.u, .int .i64 y.line, .int .i64 y.col] 36)).cell? ⟨wr.heap.size + 1, 0, none⟩ = some (.int .i8 y.kind) := by unfold World.cell?; simp only; rw [hY]; rfl
                    have q1 : ((wr.alloc (.cells #[.int .i8 y.kind, .int .i64 y.kids, .int .i64 x.n, .string x.s, .string S1, .string S2, .int .i64 y.line, .int .i64 y.col] 36)).alloc (.cells #[.int .i8 y.kind, .int .i64 y.kids, .int .i64 y.n, .string y.s, .string y.t, .string y.u, .int .i64 y.line, .int .i64 y.col] 36)).cell? ⟨wr.heap.size + 1, 1, none⟩ = some (.int .i64 y.kids) := by unfold World.cell?; simp only; rw [hY]; rfl
                    have q2 : ((wr.alloc (.cells #[.int .i8 y.kind, .int .i64 y.kids, .int .i64 x.n, .string x.s, .string S1, .string S2, .int .i64 y.line, .int .i64 y.col] 36)).alloc (.cells #[.int .i8 y.kind, .int .i64 y.kids, .int .i64 y.n, .string y.s, .string y.t, .string y.u, .int .i64 y.line, .int .i64 y.col] 36)).cell? ⟨wr.heap.size + 1, 2, none⟩ = some (.int .i64 y.n) := by unfold World.cell?; simp only; rw [hY]; rfl
                    have q3 : ((wr.alloc (.cells #[.int .i8 y.kind, .int .i64 y.kids, .int .i64 x.n, .string x.s, .string S1, .string S2, .int .i64 y.line, .int .i64 y.col] 36)).alloc (.cells #[.int .i8 y.kind, .int .i64 y.kids, .int .i64 y.n, .string y.s, .string y.t, .string y.u, .int .i64 y.line, .int .i64 y.col] 36)).cell? ⟨wr.heap.size + 1, 3, none⟩ = some (.string y.s) := by unfold World.cell?; simp only; rw [hY]; rfl
                    have q4 : ((wr.alloc (.cells #[.int .i8 y.kind, .int .i64 y.kids, .int .i64 x.n, .string x.s, .string S1, .string S2, .int .i64 y.line, .int .i64 y.col] 36)).alloc (.cells #[.int .i8 y.kind, .int .i64 y.kids, .int .i64 y.n, .string y.s, .string y.t, .string y.u, .int .i64 y.line, .int .i64 y.col] 36)).cell? ⟨wr.heap.size + 1, 4, none⟩ = some (.string y.t) := by unfold World.cell?; simp only; rw [hY]; rfl
                    have q5 : ((wr.alloc (.cells #[.int .i8 y.kind, .int .i64 y.kids, .int .i64 x.n, .string x.s, .string S1, .string S2, .int .i64 y.line, .int .i64 y.col] 36)).alloc (.cells #[.int .i8 y.kind, .int .i64 y.kids, .int .i64 y.n, .string y.s, .string y.t, .string y.u, .int .i64 y.line, .int .i64 y.col] 36)).cell? ⟨wr.heap.size + 1, 5, none⟩ = some (.string y.u) := by unfold World.cell?; simp only; rw [hY]; rfl
                    have q6 : ((wr.alloc (.cells #[.int .i8 y.kind, .int .i64 y.kids, .int .i64 x.n, .string x.s, .string S1, .string S2, .int .i64 y.line, .int .i64 y.col] 36)).alloc (.cells #[.int .i8 y.kind, .int .i64 y.kids, .int .i64 y.n, .string y.s, .string y.t, .string y.u, .int .i64 y.line, .int .i64 y.col] 36)).cell? ⟨wr.heap.size + 1, 6, none⟩ = some (.int .i64 y.line) := by unfold World.cell?; simp only; rw [hY]; rfl
                    have q7 : ((wr.alloc (.cells #[.int .i8 y.kind, .int .i64 y.kids, .int .i64 x.n, .string x.s, .string S1, .string S2, .int .i64 y.line, .int .i64 y.col] 36)).alloc (.cells #[.int .i8 y.kind, .int .i64 y.kids, .int .i64 y.n, .string y.s, .string y.t, .string y.u, .int .i64 y.line, .int .i64 y.col] 36)).cell? ⟨wr.heap.size + 1, 7, none⟩ = some (.int .i64 y.col) := by unfold World.cell?; simp only; rw [hY]; rfl
                    clear hbx hby hX hY HB b0 b1 b2 b3 b4 b5 b6 b7
                    go_wp2_with fail
                    generalize ((wr.alloc (.cells #[.int .i8 y.kind, .int .i64 y.kids, .int .i64 x.n, .string x.s, .string S1, .string S2, .int .i64 y.line, .int .i64 y.col] 36)).alloc (.cells #[.int .i8 y.kind, .int .i64 y.kids, .int .i64 y.n, .string y.s, .string y.t, .string y.u, .int .i64 y.line, .int .i64 y.col] 36)) = w8 at *
                    clear c0 c1 c2 c3 c4 c5 c6 c7 a0 a1 a2 a3 a4 a5 a6 a7
                    refine wp_region_plan (S := fun w' => w'.cell? ⟨wr.heap.size, 4, none⟩ = some (.string S1) ∧ w'.cell? ⟨wr.heap.size, 5, none⟩ = some (.string S2) ∧ w'.cell? ⟨wr.heap.size + 1, 4, none⟩ = some (.string y.t) ∧ w'.cell? ⟨wr.heap.size + 1, 5, none⟩ = some (.string y.u)) [(0, true), (1, true), (2, true), (3, true), (4, false), (5, true), (6, true), (7, true), (8, true), (9, true), (10, true), (11, false), (12, true), (13, true)] (by kernel_rfl) (by kernel_rfl) (by kernel_rfl) (fun _ _ _ _ _ h => h) ⟨p4, p5, q4, q5⟩ ?_
                    intro HS
                    repeat (first | (apply wpPlan_look; rfl; rfl; (intro wq hq; (try dsimp only at hq); go_split_ands; go_simp; (try rw [if_neg (by omega)]); (try rw [if_pos (by omega)]); try with_reducible rfl); simp only [Act.put, List.setIfInBounds_toArray, List.set_cons_zero, List.set_cons_succ]) | (apply wpPlan_skip; rfl; rfl; simp only [Act.put, List.setIfInBounds_toArray, List.set_cons_zero, List.set_cons_succ]) | (apply wpPlan_pass; rfl; rfl; assumption; simp only [Act.put, List.setIfInBounds_toArray, List.set_cons_zero, List.set_cons_succ]))
                    apply wpPlan_call; rfl; rfl; rfl; rfl; kernel_rfl; exact HN1.out _; rfl; rintro E w9 ⟨rfl, rfl⟩
                    refine ⟨_, rfl, as_S HS ?_⟩
                    intro HS
                    simp only [Act.put, List.setIfInBounds_toArray, List.set_cons_zero, List.set_cons_succ]
                    repeat (first | (apply wpPlan_look; rfl; rfl; (intro wq hq; (try dsimp only at hq); go_split_ands; go_simp; (try rw [if_neg (by omega)]); (try rw [if_pos (by omega)]); try with_reducible rfl); simp only [Act.put, List.setIfInBounds_toArray, List.set_cons_zero, List.set_cons_succ]) | (apply wpPlan_skip; rfl; rfl; simp only [Act.put, List.setIfInBounds_toArray, List.set_cons_zero, List.set_cons_succ]) | (apply wpPlan_pass; rfl; rfl; assumption; simp only [Act.put, List.setIfInBounds_toArray, List.set_cons_zero, List.set_cons_succ]))
                    apply wpPlan_call; rfl; rfl; rfl; rfl; kernel_rfl; exact HN2.out _; rfl; rintro E w9 ⟨rfl, rfl⟩
                    refine ⟨_, rfl, as_S HS ?_⟩
                    intro HS
                    simp only [Act.put, List.setIfInBounds_toArray, List.set_cons_zero, List.set_cons_succ]
                    repeat (first | (apply wpPlan_look; rfl; rfl; (intro wq hq; (try dsimp only at hq); go_split_ands; go_simp; (try rw [if_neg (by omega)]); (try rw [if_pos (by omega)]); try with_reducible rfl); simp only [Act.put, List.setIfInBounds_toArray, List.set_cons_zero, List.set_cons_succ]) | (apply wpPlan_skip; rfl; rfl; simp only [Act.put, List.setIfInBounds_toArray, List.set_cons_zero, List.set_cons_succ]) | (apply wpPlan_pass; rfl; rfl; assumption; simp only [Act.put, List.setIfInBounds_toArray, List.set_cons_zero, List.set_cons_succ]))
                    apply wpPlan_done
                    have HB9 := Lib.hid HB8.out.drew
                    clear HS p0 p1 p2 p3 p4 p5 p6 p7 q0 q1 q2 q3 q4 q5 q6 q7
                    go_wp2_with fail
                    go_roundw
                    case rel => exact ⟨k + 1, by omega, by go_num, HB9⟩
                    case measure => simp [intOf]; omega
                  have e6 : (y.kind == 6) = false := beq_no h6
                  by_cases h8 : y.kind = 8
                  · have e8 : (y.kind == 8) = true := by rw [h8]; rfl
                    have xt : x.t = (Tr.noteT y.t).str := by rw [HXY.out]; simp [Ins.bare, h8]
                    rw [xt] at a4
                    replace HN1 := Lib.hid (HN1.out (.inr (.inr h8)))
                    clear h1 h2 h3 h5 h6 h8 xt HN2
                    generalize (Tr.noteT y.t).str = S1 at *
                    have hbx : Below wr.heap.size wr (wr.alloc (.cells #[.int .i8 y.kind, .int .i64 y.kids, .int .i64 x.n, .string x.s, .string S1, .string x.u, .int .i64 y.line, .int .i64 y.col] 36)) := (Below.refl _ _).alloc (Nat.le_refl _) _
                    have c0 := cell_later hbx b0
                    have c1 := cell_later hbx b1
                    have c2 := cell_later hbx b2
                    have c3 := cell_later hbx b3
                    have c4 := cell_later hbx b4
                    have c5 := cell_later hbx b5
                    have c6 := cell_later hbx b6
                    have c7 := cell_later hbx b7
                    have hby : Below (wr.alloc (.cells #[.int .i8 y.kind, .int .i64 y.kids, .int .i64 x.n, .string x.s, .string S1, .string x.u, .int .i64 y.line, .int .i64 y.col] 36)).heap.size (wr.alloc (.cells #[.int .i8 y.kind, .int .i64 y.kids, .int .i64 x.n, .string x.s, .string S1, .string x.u, .int .i64 y.line, .int .i64 y.col] 36)) ((wr.alloc (.cells #[.int .i8 y.kind, .int .i64 y.kids, .int .i64 x.n, .string x.s, .string S1, .string x.u, .int .i64 y.line, .int .i64 y.col] 36)).alloc (.cells #[.int .i8 y.kind, .int .i64 y.kids, .int .i64 y.n, .string y.s, .string y.t, .string y.u, .int .i64 y.line, .int .i64 y.col] 36)) := (Below.refl _ _).alloc (Nat.le_refl _) _
                    have HB8 := Lib.hid (below_later (below_later hby hbx) HB.out)
                    have hX : ((wr.alloc (.cells #[.int .i8 y.kind, .int .i64 y.kids, .int .i64 x.n, .string x.s, .string S1, .string x.u, .int .i64 y.line, .int .i64 y.col] 36)).alloc (.cells #[.int .i8 y.kind, .int .i64 y.kids, .int .i64 y.n, .string y.s, .string y.t, .string y.u, .int .i64 y.line, .int .i64 y.col] 36)).heap[wr.heap.size]? = some (.cells #[.int .i8 y.kind, .int .i64 y.kids, .int .i64 x.n, .string x.s, .string S1, .string x.u, .int .i64 y.line, .int .i64 y.col] 36 (0, 0)) := (hby.block _ (by simp)).trans (MapKept.heap_alloc wr _).1
                    have hY : ((wr.alloc (.cells #[.int .i8 y.kind, .int .i64 y.kids, .int .i64 x.n, .string x.s, .string S1, .string x.u, .int .i64 y.line, .int .i64 y.col] 36)).alloc (.cells #[.int .i8 y.kind, .int .i64 y.kids, .int .i64 y.n, .string y.s, .string y.t, .string y.u, .int .i64 y.line, .int .i64 y.col] 36)).heap[wr.heap.size + 1]? = some (.cells #[.int .i8 y.kind, .int .i64 y.kids, .int .i64 y.n, .string y.s, .string y.t, .string y.u, .int .i64 y.line, .int .i64 y.col] 36 (0, 0)) := by
                      have := (MapKept.heap_alloc (wr.alloc (.cells #[.int .i8 y.kind, .int .i64 y.kids, .int .i64 x.n, .string x.s, .string S1, .string x.u, .int .i64 y.line, .int .i64 y.col] 36)) (.cells #[.int .i8 y.kind, .int .i64 y.kids, .int .i64 y.n, .string y.s, .string y.t, .string y.u, .int .i64 y.line, .int .i64 y.col] 36)).1
                      simpa using this
                    have p0 : ((wr.alloc (.cells #[.int .i8 y.kind, .int .i64 y.kids, .int .i64 x.n, .string x.s, .string S1, .string x.u, .int .i64 y.line, .int .i64 y.col] 36)).alloc (.cells #[.int .i8 y.kind, .int .i64 y.kids, .int .i64 y.n, .string y.s, .string y.t, .string y.u, .int .i64 y.line, .int .i64 y.col] 36)).cell? ⟨wr.heap.size, 0, none⟩ = some (.int .i8 y.kind) := by unfold World.cell?; simp only; rw [hX]; rfl
                    have p1 : ((wr.alloc (.cells #[.int .i8 y.kind, .int .i64 y.kids, .int .i64 x.n, .string x.s, .string S1, .string x.u, .int .i64 y.line, .int .i64 y.col] 36)).alloc (.cells #[.int .i8 y.kind, .int .i64 y.kids, .int .i64 y.n, .string y.s, .string y.t, .string y.u, .int .i64 y.line, .int .i64 y.col] 36)).cell? ⟨wr.heap.size, 1, none⟩ = some (.int .i64 y.kids) := by unfold World.cell?; simp only; rw [hX]; rfl
                    have p2 : ((wr.alloc (.cells #[.int .i8 y.kind, .int .i64 y.kids, .int .i64 x.n, .string x.s, .string S1, .string x.u, .int .i64 y.line, .int .i64 y.col] 36)).alloc (.cells #[.int .i8 y.kind, .int .i64 y.kids, .int .i64 y.n, .string y.s, .string y.t, .string y.u, .int .i64 y.line, .int .i64 y.col] 36)).cell? ⟨wr.heap.size, 2, none⟩ = some (.int .i64 x.n) := by unfold World.cell?; simp only; rw [hX]; rfl
                    have p3 : ((wr.alloc (.cells #[.int .i8 y.kind, .int .i64 y.kids, .int .i64 x.n, .string x.s, .string S1, .string x.u, .int .i64 y.line, .int .i64 y.col] 36)).alloc (.cells #[.int .i8 y.kind, .int .i64 y.kids, .int .i64 y.n, .string y.s, .string y.t, .string y.u, .int .i64 y.line, .int .i64 y.col] 36)).cell? ⟨wr.heap.size, 3, none⟩ = some (.string x.s) := by unfold World.cell?; simp only; rw [hX]; rfl
                    have p4 : ((wr.alloc (.cells #[.int .i8 y.kind, .int .i64 y.kids, .int .i64 x.n, .string x.s, .string S1, .string x.u, .int .i64 y.line, .int .i64 y.col] 36)).alloc (.cells #[.int .i8 y.kind, .int .i64 y.kids, .int .i64 y.n, .string y.s, .string y.t, .string y.u, .int .i64 y.line, .int .i64 y.col] 36)).cell? ⟨wr.heap.size, 4, none⟩ = some (.string S1) := by unfold World.cell?; simp only; rw [hX]; rfl
                    have p5 : ((wr.alloc (.cells #[.int .i8 y.kind, .int .i64 y.kids, .int .i64 x.n, .string x.s, .string S1, .string x.u, .int .i64 y.line, .int .i64 y.col] 36)).alloc (.cells #[.int .i8 y.kind, .int .i64 y.kids, .int .i64 y.n, .string y.s, .string y.t, .string y.u, .int .i64 y.line, .int .i64 y.col] 36)).cell? ⟨wr.heap.size, 5, none⟩ = some (.string x.u) := by unfold World.cell?; simp only; rw [hX]; rfl
                    have p6 : ((wr.alloc (.cells #[.int .i8 y.kind, .int .i64 y.kids, .int .i64 x.n, .string x.s, .string S1, .string x.u, .int .i64 y.line, .int .i64 y.col] 36)).alloc (.cells #[.int .i8 y.kind, .int .i64 y.kids, .int .i64 y.n, .string y.s, .string y.t, .string y.u, .int .i64 y.line, .int .i64 y.col] 36)).cell? ⟨wr.heap.size, 6, none⟩ = some (.int .i64 y.line) := by unfold World.cell?; simp only; rw [hX]; rfl
                    have p7 : ((wr.alloc (.cells #[.int .i8 y.kind, .int .i64 y.kids, .int .i64 x.n, .string x.s, .string S1, .string x.u, .int .i64 y.line, .int .i64 y.col] 36)).alloc (.cells #[.int .i8 y.kind, .int .i64 y.kids, .int .i64 y.n, .string y.s, .string y.t, .string y.u, .int .i64 y.line, .int .i64 y.col] 36)).cell? ⟨wr.heap.size, 7, none⟩ = some (.int .i64 y.col) := by unfold World.cell?; simp only; rw [hX]; rfl
                    have q0 : ((wr.alloc (.cells #[.int .i8 y.kind, .int .i64 y.kids, .int .i64 x.n, .string x.s, .string S1, .string x.u, .int .i64 y.line, .int .i64 y.col] 36)).alloc (.cells #[.int .i8 y.kind, .int .i64 y.kids, .int .i64 y.n, .string y.s, .string y.t, .string y.u, .int .i64 y.line, .int .i64 y.col] 36)).cell? ⟨wr.heap.size + 1, 0, none⟩ = some (.int .i8 y.kind) := by unfold World.cell?; simp only; rw [hY]; rfl
                    have q1 : ((wr.alloc (.cells #[.int .i8 y.kind, .int .i64 y.kids, .int .i64 x.n, .string x.s, .string S1, .string x.u, .int .i64 y.line, .int .i64 y.col] 36)).alloc (.cells #[.int .i8 y.kind, .int .i64 y.kids, .int .i64 y.n, .string y.s, .string y.t, .string y.u, .int .i64 y.line, .int .i64 y.col] 36)).cell? ⟨wr.heap.size + 1, 1, none⟩ = some (.int .i64 y.kids) := by unfold World.cell?; simp only; rw [hY]; rfl
                    have q2 : ((wr.alloc (.cells #[.int .i8 y.kind, .int .i64 y.kids, .int .i64 x.n, .string x.s, .string S1, .string x.u, .int .i64 y.line, .int .i64 y.col] 36)).alloc (.cells #[.int .i8 y.kind, .int .i64 y.kids, .int .i64 y.n, .string y.s, .string y.t, .string y.u, .int .i64 y.line, .int .i64 y.col] 36)).cell? ⟨wr.heap.size + 1, 2, none⟩ = some (.int .i64 y.n) := by unfold World.cell?; simp only; rw [hY]; rfl
                    have q3 : ((wr.alloc (.cells #[.int .i8 y.kind, .int .i64 y.kids, .int .i64 x.n, .string x.s, .string S1, .string x.u, .int .i64 y.line, .int .i64 y.col] 36)).alloc (.cells #[.int .i8 y.kind, .int .i64 y.kids, .int .i64 y.n, .string y.s, .string y.t, .string y.u, .int .i64 y.line, .int .i64 y.col] 36)).cell? ⟨wr.heap.size + 1, 3, none⟩ = some (.string y.s) := by unfold World.cell?; simp only; rw [hY]; rfl
                    have q4 : ((wr.alloc (.cells #[.int .i8 y.kind, .int .i64 y.kids, .int .i64 x.n, .string x.s, .string S1, .string x.u, .int .i64 y.line, .int .i64 y.col] 36)).alloc (.cells #[.int .i8 y.kind, .int .i64 y.kids, .int .i64 y.n, .string y.s, .string y.t, .string y.u, .int .i64 y.line, .int .i64 y.col] 36)).cell? ⟨wr.heap.size + 1, 4, none⟩ = some (.string y.t) := by unfold World.cell?; simp only; rw [hY]; rfl
                    have q5 : ((wr.alloc (.cells #[.int .i8 y.kind, .int .i64 y.kids, .int .i64 x.n, .string x.s, .string S1, .string x.u, .int .i64 y.line, .int .i64 y.col] 36)).alloc (.cells #[.int .i8 y.kind, .int .i64 y.kids, .int .i64 y.n, .string y.s, .string y.t, .string y.u, .int .i64 y.line, .int .i64 y.col] 36)).cell? ⟨wr.heap.size + 1, 5, none⟩ = some (.string y.u) := by unfold World.cell?; simp only; rw [hY]; rfl
                    have q6 : ((wr.alloc (.cells #[.int .i8 y.kind, .int .i64 y.kids, .int .i64 x.n, .string x.s, .string S1, .string x.u, .int .i64 y.line, .int .i64 y.col] 36)).alloc (.cells #[.int .i8 y.kind, .int .i64 y.kids, .int .i64 y.n, .string y.s, .string y.t, .string y.u, .int .i64 y.line, .int .i64 y.col] 36)).cell? ⟨wr.heap.size + 1, 6, none⟩ = some (.int .i64 y.line) := by unfold World.cell?; simp only; rw [hY]; rfl
                    have q7 : ((wr.alloc (.cells #[.int .i8 y.kind, .int .i64 y.kids, .int .i64 x.n, .string x.s, .string S1, .string x.u, .int .i64 y.line, .int .i64 y.col] 36)).alloc (.cells #[.int .i8 y.kind, .int .i64 y.kids, .int .i64 y.n, .string y.s, .string y.t, .string y.u, .int .i64 y.line, .int .i64 y.col] 36)).cell? ⟨wr.heap.size + 1, 7, none⟩ = some (.int .i64 y.col) := by unfold World.cell?; simp only; rw [hY]; rfl
                    clear hbx hby hX hY HB b0 b1 b2 b3 b4 b5 b6 b7
                    go_wp2_with fail
                    generalize ((wr.alloc (.cells #[.int .i8 y.kind, .int .i64 y.kids, .int .i64 x.n, .string x.s, .string S1, .string x.u, .int .i64 y.line, .int .i64 y.col] 36)).alloc (.cells #[.int .i8 y.kind, .int .i64 y.kids, .int .i64 y.n, .string y.s, .string y.t, .string y.u, .int .i64 y.line, .int .i64 y.col] 36)) = w8 at *
                    clear c0 c1 c2 c3 c4 c5 c6 c7 a0 a1 a2 a3 a4 a5 a6 a7
                    refine wp_region_plan (S := fun w' => w'.cell? ⟨wr.heap.size, 4, none⟩ = some (.string S1) ∧ w'.cell? ⟨wr.heap.size, 5, none⟩ = some (.string x.u) ∧ w'.cell? ⟨wr.heap.size + 1, 4, none⟩ = some (.string y.t) ∧ w'.cell? ⟨wr.heap.size + 1, 5, none⟩ = some (.string y.u)) [(0, true), (1, true), (2, true), (3, true), (4, false), (5, true)] (by kernel_rfl) (by kernel_rfl) (by kernel_rfl) (fun _ _ _ _ _ h => h) ⟨p4, p5, q4, q5⟩ ?_
                    intro HS
                    repeat (first | (apply wpPlan_look; rfl; rfl; (intro wq hq; (try dsimp only at hq); go_split_ands; go_simp; (try rw [if_neg (by omega)]); (try rw [if_pos (by omega)]); try with_reducible rfl); simp only [Act.put, List.setIfInBounds_toArray, List.set_cons_zero, List.set_cons_succ]) | (apply wpPlan_skip; rfl; rfl; simp only [Act.put, List.setIfInBounds_toArray, List.set_cons_zero, List.set_cons_succ]) | (apply wpPlan_pass; rfl; rfl; assumption; simp only [Act.put, List.setIfInBounds_toArray, List.set_cons_zero, List.set_cons_succ]))
                    apply wpPlan_call; rfl; rfl; rfl; rfl; kernel_rfl; exact HN1.out _; rfl; rintro E w9 ⟨rfl, rfl⟩
                    refine ⟨_, rfl, as_S HS ?_⟩
                    intro HS
                    simp only [Act.put, List.setIfInBounds_toArray, List.set_cons_zero, List.set_cons_succ]
                    repeat (first | (apply wpPlan_look; rfl; rfl; (intro wq hq; (try dsimp only at hq); go_split_ands; go_simp; (try rw [if_neg (by omega)]); (try rw [if_pos (by omega)]); try with_reducible rfl); simp only [Act.put, List.setIfInBounds_toArray, List.set_cons_zero, List.set_cons_succ]) | (apply wpPlan_skip; rfl; rfl; simp only [Act.put, List.setIfInBounds_toArray, List.set_cons_zero, List.set_cons_succ]) | (apply wpPlan_pass; rfl; rfl; assumption; simp only [Act.put, List.setIfInBounds_toArray, List.set_cons_zero, List.set_cons_succ]))
                    apply wpPlan_done
                    have HB9 := Lib.hid HB8.out.drew
                    clear HS p0 p1 p2 p3 p4 p5 p6 p7 q0 q1 q2 q3 q4 q5 q6 q7
                    go_wp2_with fail
                    go_roundw
                    case rel => exact ⟨k + 1, by omega, by go_num, HB9⟩
                    case measure => simp [intOf]; omega
                  have e8 : (y.kind == 8) = false := beq_no h8
                  clear h1 h2 h3 h5 h6 h8
                  have hbx : Below wr.heap.size wr (wr.alloc (.cells #[.int .i8 y.kind, .int .i64 y.kids, .int .i64 x.n, .string x.s, .string x.t, .string x.u, .int .i64 y.line, .int .i64 y.col] 36)) := (Below.refl _ _).alloc (Nat.le_refl _) _
                  have c0 := cell_later hbx b0
                  have c1 := cell_later hbx b1
                  have c2 := cell_later hbx b2
                  have c3 := cell_later hbx b3
                  have c4 := cell_later hbx b4
                  have c5 := cell_later hbx b5
                  have c6 := cell_later hbx b6
                  have c7 := cell_later hbx b7
                  have hby : Below (wr.alloc (.cells #[.int .i8 y.kind, .int .i64 y.kids, .int .i64 x.n, .string x.s, .string x.t, .string x.u, .int .i64 y.line, .int .i64 y.col] 36)).heap.size (wr.alloc (.cells #[.int .i8 y.kind, .int .i64 y.kids, .int .i64 x.n, .string x.s, .string x.t, .string x.u, .int .i64 y.line, .int .i64 y.col] 36)) ((wr.alloc (.cells #[.int .i8 y.kind, .int .i64 y.kids, .int .i64 x.n, .string x.s, .string x.t, .string x.u, .int .i64 y.line, .int .i64 y.col] 36)).alloc (.cells #[.int .i8 y.kind, .int .i64 y.kids, .int .i64 y.n, .string y.s, .string y.t, .string y.u, .int .i64 y.line, .int .i64 y.col] 36)) := (Below.refl _ _).alloc (Nat.le_refl _) _
                  have HB8 := Lib.hid (below_later (below_later hby hbx) HB.out)
                  have hX : ((wr.alloc (.cells #[.int .i8 y.kind, .int .i64 y.kids, .int .i64 x.n, .string x.s, .string x.t, .string x.u, .int .i64 y.line, .int .i64 y.col] 36)).alloc (.cells #[.int .i8 y.kind, .int .i64 y.kids, .int .i64 y.n, .string y.s, .string y.t, .string y.u, .int .i64 y.line, .int .i64 y.col] 36)).heap[wr.heap.size]? = some (.cells #[.int .i8 y.kind, .int .i64 y.kids, .int .i64 x.n, .string x.s, .string x.t, .string x.u, .int .i64 y.line, .int .i64 y.col] 36 (0, 0)) := (hby.block _ (by simp)).trans (MapKept.heap_alloc wr _).1
                  have hY : ((wr.alloc (.cells #[.int .i8 y.kind, .int .i64 y.kids, .int .i64 x.n, .string x.s, .string x.t, .string x.u, .int .i64 y.line, .int .i64 y.col] 36)).alloc (.cells #[.int .i8 y.kind, .int .i64 y.kids, .int .i64 y.n, .string y.s, .string y.t, .string y.u, .int .i64 y.line, .int .i64 y.col] 36)).heap[wr.heap.size + 1]? = some (.cells #[.int .i8 y.kind, .int .i64 y.kids, .int .i64 y.n, .string y.s, .string y.t, .string y.u, .int .i64 y.line, .int .i64 y.col] 36 (0, 0)) := by
                    have := (MapKept.heap_alloc (wr.alloc (.cells #[.int .i8 y.kind, .int .i64 y.kids, .int .i64 x.n, .string x.s, .string x.t, .string x.u, .int .i64 y.line, .int .i64 y.col] 36)) (.cells #[.int .i8 y.kind, .int .i64 y.kids, .int .i64 y.n, .string y.s, .string y.t, .string y.u, .int .i64 y.line, .int .i64 y.col] 36)).1
                    simpa using this
                  have p0 : ((wr.alloc (.cells #[.int .i8 y.kind, .int .i64 y.kids, .int .i64 x.n, .string x.s, .string x.t, .string x.u, .int .i64 y.line, .int .i64 y.col] 36)).alloc (.cells #[.int .i8 y.kind, .int .i64 y.kids, .int .i64 y.n, .string y.s, .string y.t, .string y.u, .int .i64 y.line, .int .i64 y.col] 36)).cell? ⟨wr.heap.size, 0, none⟩ = some (.int .i8 y.kind) := by unfold World.cell?; simp only; rw [hX]; rfl
                  have p1 : ((wr.alloc (.cells #[.int .i8 y.kind, .int .i64 y.kids, .int .i64 x.n, .string x.s, .string x.t, .string x.u, .int .i64 y.line, .int .i64 y.col] 36)).alloc (.cells #[.int .i8 y.kind, .int .i64 y.kids, .int .i64 y.n, .string y.s, .string y.t, .string y.u, .int .i64 y.line, .int .i64 y.col] 36)).cell? ⟨wr.heap.size, 1, none⟩ = some (.int .i64 y.kids) := by unfold World.cell?; simp only; rw [hX]; rfl
                  have p2 : ((wr.alloc (.cells #[.int .i8 y.kind, .int .i64 y.kids, .int .i64 x.n, .string x.s, .string x.t, .string x.u, .int .i64 y.line, .int .i64 y.col] 36)).alloc (.cells #[.int .i8 y.kind, .int .i64 y.kids, .int .i64 y.n, .string y.s, .string y.t, .string y.u, .int .i64 y.line, .int .i64 y.col] 36)).cell? ⟨wr.heap.size, 2, none⟩ = some (.int .i64 x.n) := by unfold World.cell?; simp only; rw [hX]; rfl
                  have p3 : ((wr.alloc (.cells #[.int .i8 y.kind, .int .i64 y.kids, .int .i64 x.n, .string x.s, .string x.t, .string x.u, .int .i64 y.line, .int .i64 y.col] 36)).alloc (.cells #[.int .i8 y.kind, .int .i64 y.kids, .int .i64 y.n, .string y.s, .string y.t, .string y.u, .int .i64 y.line, .int .i64 y.col] 36)).cell? ⟨wr.heap.size, 3, none⟩ = some (.string x.s) := by unfold World.cell?; simp only; rw [hX]; rfl
                  have p4 : ((wr.alloc (.cells #[.int .i8 y.kind, .int .i64 y.kids, .int .i64 x.n, .string x.s, .string x.t, .string x.u, .int .i64 y.line, .int .i64 y.col] 36)).alloc (.cells #[.int .i8 y.kind, .int .i64 y.kids, .int .i64 y.n, .string y.s, .string y.t, .string y.u, .int .i64 y.line, .int .i64 y.col] 36)).cell? ⟨wr.heap.size, 4, none⟩ = some (.string x.t) := by unfold World.cell?; simp only; rw [hX]; rfl
                  have p5 : ((wr.alloc (.cells #[.int .i8 y.kind, .int .i64 y.kids, .int .i64 x.n, .string x.s, .string x.t, .string x.u, .int .i64 y.line, .int .i64 y.col] 36)).alloc (.cells #[.int .i8 y.kind, .int .i64 y.kids, .int .i64 y.n, .string y.s, .string y.t, .string y.u, .int .i64 y.line, .int .i64 y.col] 36)).cell? ⟨wr.heap.size, 5, none⟩ = some (.string x.u) := by unfold World.cell?; simp only; rw [hX]; rfl
                  have p6 : ((wr.alloc (.cells #[.int .i8 y.kind, .int .i64 y.kids, .int .i64 x.n, .string x.s, .string x.t, .string x.u, .int .i64 y.line, .int .i64 y.col] 36)).alloc (.cells #[.int .i8 y.kind, .int .i64 y.kids, .int .i64 y.n, .string y.s, .string y.t, .string y.u, .int .i64 y.line, .int .i64 y.col] 36)).cell? ⟨wr.heap.size, 6, none⟩ = some (.int .i64 y.line) := by unfold World.cell?; simp only; rw [hX]; rfl
                  have p7 : ((wr.alloc (.cells #[.int .i8 y.kind, .int .i64 y.kids, .int .i64 x.n, .string x.s, .string x.t, .string x.u, .int .i64 y.line, .int .i64 y.col] 36)).alloc (.cells #[.int .i8 y.kind, .int .i64 y.kids, .int .i64 y.n, .string y.s, .string y.t, .string y.u, .int .i64 y.line, .int .i64 y.col] 36)).cell? ⟨wr.heap.size, 7, none⟩ = some (.int .i64 y.col) := by unfold World.cell?; simp only; rw [hX]; rfl
                  have q0 : ((wr.alloc (.cells #[.int .i8 y.kind, .int .i64 y.kids, .int .i64 x.n, .string x.s, .string x.t, .string x.u, .int .i64 y.line, .int .i64 y.col] 36)).alloc (.cells #[.int .i8 y.kind, .int .i64 y.kids, .int .i64 y.n, .string y.s, .string y.t, .string y.u, .int .i64 y.line, .int .i64 y.col] 36)).cell? ⟨wr.heap.size + 1, 0, none⟩ = some (.int .i8 y.kind) := by unfold World.cell?; simp only; rw [hY]; rfl
                  have q1 : ((wr.alloc (.cells #[.int .i8 y.kind, .int .i64 y.kids, .int .i64 x.n, .string x.s, .string x.t, .string x.u, .int .i64 y.line, .int .i64 y.col] 36)).alloc (.cells #[.int .i8 y.kind, .int .i64 y.kids, .int .i64 y.n, .string y.s, .string y.t, .string y.u, .int .i64 y.line, .int .i64 y.col] 36)).cell? ⟨wr.heap.size + 1, 1, none⟩ = some (.int .i64 y.kids) := by unfold World.cell?; simp only; rw [hY]; rfl
                  have q2 : ((wr.alloc (.cells #[.int .i8 y.kind, .int .i64 y.kids, .int .i64 x.n, .string x.s, .string x.t, .string x.u, .int .i64 y.line, .int .i64 y.col] 36)).alloc (.cells #[.int .i8 y.kind, .int .i64 y.kids, .int .i64 y.n, .string y.s, .string y.t, .string y.u, .int .i64 y.line, .int .i64 y.col] 36)).cell? ⟨wr.heap.size + 1, 2, none⟩ = some (.int .i64 y.n) := by unfold World.cell?; simp only; rw [hY]; rfl
                  have q3 : ((wr.alloc (.cells #[.int .i8 y.kind, .int .i64 y.kids, .int .i64 x.n, .string x.s, .string x.t, .string x.u, .int .i64 y.line, .int .i64 y.col] 36)).alloc (.cells #[.int .i8 y.kind, .int .i64 y.kids, .int .i64 y.n, .string y.s, .string y.t, .string y.u, .int .i64 y.line, .int .i64 y.col] 36)).cell? ⟨wr.heap.size + 1, 3, none⟩ = some (.string y.s) := by unfold World.cell?; simp only; rw [hY]; rfl
                  have q4 : ((wr.alloc (.cells #[.int .i8 y.kind, .int .i64 y.kids, .int .i64 x.n, .string x.s, .string x.t, .string x.u, .int .i64 y.line, .int .i64 y.col] 36)).alloc (.cells #[.int .i8 y.kind, .int .i64 y.kids, .int .i64 y.n, .string y.s, .string y.t, .string y.u, .int .i64 y.line, .int .i64 y.col] 36)).cell? ⟨wr.heap.size + 1, 4, none⟩ = some (.string y.t) := by unfold World.cell?; simp only; rw [hY]; rfl
                  have q5 : ((wr.alloc (.cells #[.int .i8 y.kind, .int .i64 y.kids, .int .i64 x.n, .string x.s, .string x.t, .string x.u, .int .i64 y.line, .int .i64 y.col] 36)).alloc (.cells #[.int .i8 y.kind, .int .i64 y.kids, .int .i64 y.n, .string y.s, .string y.t, .string y.u, .int .i64 y.line, .int .i64 y.col] 36)).cell? ⟨wr.heap.size + 1, 5, none⟩ = some (.string y.u) := by unfold World.cell?; simp only; rw [hY]; rfl
                  have q6 : ((wr.alloc (.cells #[.int .i8 y.kind, .int .i64 y.kids, .int .i64 x.n, .string x.s, .string x.t, .string x.u, .int .i64 y.line, .int .i64 y.col] 36)).alloc (.cells #[.int .i8 y.kind, .int .i64 y.kids, .int .i64 y.n, .string y.s, .string y.t, .string y.u, .int .i64 y.line, .int .i64 y.col] 36)).cell? ⟨wr.heap.size + 1, 6, none⟩ = some (.int .i64 y.line) := by unfold World.cell?; simp only; rw [hY]; rfl
                  have q7 : ((wr.alloc (.cells #[.int .i8 y.kind, .int .i64 y.kids, .int .i64 x.n, .string x.s, .string x.t, .string x.u, .int .i64 y.line, .int .i64 y.col] 36)).alloc (.cells #[.int .i8 y.kind, .int .i64 y.kids, .int .i64 y.n, .string y.s, .string y.t, .string y.u, .int .i64 y.line, .int .i64 y.col] 36)).cell? ⟨wr.heap.size + 1, 7, none⟩ = some (.int .i64 y.col) := by unfold World.cell?; simp only; rw [hY]; rfl
                  clear hbx hby hX hY HB b0 b1 b2 b3 b4 b5 b6 b7
                  go_wp2_with fail
                  go_roundw
                  case rel => exact ⟨k + 1, by omega, by go_num, HB8⟩
                  case measure => simp [intOf]; omega
                · go_wp2_with fail
                  go_ret
                  exact Makes.mk rfl (below_later HB.out HB7.out)
end Go.Proofs.YtdfadmhomjcmeaaDoor


/- The walk of the statement CheckParts. -/
import Derived.Test.YtdobaililmkkcaaDoorLb
namespace Culp.Tr
set_option linter.unusedSimpArgs false
set_option linter.unusedVariables false
open Go
/-- Each part of a tree that is typed, when it is closed, is typed by itself. -/
theorem closed_at {x0 : Nd} {k0 : F} {E : Env} {ts : List Ty} {T : List Nd} (hT : T = x0 :: k0.flat) (hO : (F.cons x0 k0 .nil).Ok) (hm : ∀ y ∈ T, may y = true) (hh : k0.hgt + 1 ≤ 64) (h : chk1 false x0 k0 E 0 = .ok ts) {q : Nat} (hq : q < T.length) :
    ts.length = T.length ∧ ∃ pre y ky post, T = pre ++ y :: (ky.flat ++ post) ∧ pre.length = q ∧ (F.cons y ky .nil).Ok ∧ (∀ z ∈ y :: ky.flat, may z = true) ∧ ky.hgt + 1 ≤ 64 ∧ (F.free y ky = [] → chk1 false y ky [] 0 = .ok ((ts.drop q).take (1 + ky.flat.length))) := by
  have hf : (F.cons x0 k0 .nil).flat = T := by rw [hT]; simp [F.flat]
  have hL : (F.cons x0 k0 .nil).Leafy := F.leafy_of _ hO (fun y hy => hm y (by rw [← hf]; exact hy))
  unfold chk1 at h
  cases hc : chk false (.cons x0 k0 .nil) (fun _ => E) 0 0 with
  | error b => rw [hc] at h; cases h
  | ok K =>
    rw [hc] at h
    injection h with h
    subst h
    have hl := F.chk_len false _ _ _ _ K hc
    rw [hf] at hl
    obtain ⟨pre, y, ky, post, E', h1, h2, h3, h4, h5, h6⟩ := F.chk_at false _ _ _ 0 q K hO hL hc (by rw [hf]; exact hq)
    rw [hf] at h1
    rw [F.hgt_one] at h5
    refine ⟨hl, pre, y, ky, post, h1, h2, h3, fun z hz => hm z ?_, by omega, fun hfr => F.chk_closed h4 hfr h6⟩
    rw [h1]
    simp only [List.mem_append, List.mem_cons] at hz ⊢
    rcases hz with hz | hz
    · exact .inr (.inl hz)
    · exact .inr (.inr (.inl hz))
end Culp.Tr
namespace Go.Proofs.YtdobaililmkkcaaDoor
set_option linter.unusedSimpArgs false
set_option linter.unusedVariables false
open Go.RowKit Go.Maps Culp
set_option maxRecDepth 100000 in
set_option maxHeartbeats 6400000 in
theorem parts_law (T : List Nd) (N S : List ByteArray) (tv nv sv : Value) (w : World) (hn : Nodes w tv T) (hN : Txts w nv N) (hS : Txts w sv S) (hSp : Sp w) (hTab : Tab w) (hz : ∀ s ∈ N, s.size ≤ 140737488351232) (hzT : ∀ x ∈ T, x.s.size ≤ 140737488351232) (hkT : ∀ x ∈ T, x.kids ≤ 9223372036854775807) :
    Calls Tryd.prog 5 #[.agg #[tv, nv, sv]] w (Makes (.bool true) w) := by
  have HN := Lib.hid hn
  have HNN := Lib.hid hN
  have HSS := Lib.hid hS
  have HSP := Lib.hid hSp
  have HTB := Lib.hid hTab
  have HZ := Lib.hid hz
  have HZT := Lib.hid hzT
  have HKT := Lib.hid hkT
  obtain ⟨A, C, rfl, hlc, hNN⟩ := hn
  obtain ⟨A2, C2, rfl⟩ := hN.form
  obtain ⟨A3, C3, rfl⟩ := hS.form
  have hb1 : Below w.heap.size w (w.alloc (.cells #[.slice A T.length C, .slice A2 N.length C2, .slice A3 S.length C3] 35)) := (Below.refl _ _).alloc (Nat.le_refl _) _
  have HB1 := Lib.hid hb1
  have HBX : Hid ((w.alloc (.cells #[.slice A T.length C, .slice A2 N.length C2, .slice A3 S.length C3] 35)).heap[w.heap.size]? = some (.cells #[.slice A T.length C, .slice A2 N.length C2, .slice A3 S.length C3] 35 (0, 0))) := Lib.hid (MapKept.heap_alloc w _).1
  clear hN hS hSp hTab hz hzT hkT hNN hb1
  go_enter Tryd.func5, Tryd.ntmps5
  go_wp2_with fail
  generalize w.alloc (.cells #[.slice A T.length C, .slice A2 N.length C2, .slice A3 S.length C3] 35) = w1 at *
  refine (cworks_any _ (HSP.out.later HB1.out) (HTB.out.later HB1.out)).mono ?_
  rintro E w2 ⟨rfl, hb2⟩
  have HB2 := Lib.hid (below_later hb2 HB1.out)
  have hbk : w2.heap[w.heap.size]? = _ := (hb2.block w.heap.size (Array.getElem?_eq_some_iff.1 HBX.out).1).trans HBX.out
  have HBX2 := Lib.hid hbk
  have k0 : w2.cell? ⟨w.heap.size, 0, none⟩ = some (.slice A T.length C) := by simp [World.cell?, hbk]
  have k1 : w2.cell? ⟨w.heap.size, 1, none⟩ = some (.slice A2 N.length C2) := by simp [World.cell?, hbk]
  have k2 : w2.cell? ⟨w.heap.size, 2, none⟩ = some (.slice A3 S.length C3) := by simp [World.cell?, hbk]
  clear hb2 hbk HB1 HBX
  go_wp2_with fail
  refine (clong_any T N S A A2 A3 C C2 C3 _).mono ?_
  rintro E w3 ⟨rfl, hb3⟩
  have HB3 := Lib.hid (below_later hb3 HB2.out)
  have l0 := cell_later hb3 k0
  have l1 := cell_later hb3 k1
  have l2 := cell_later hb3 k2
  have HBX3 : Hid (w3.heap[w.heap.size]? = some (.cells #[.slice A T.length C, .slice A2 N.length C2, .slice A3 S.length C3] 35 (0, 0))) := Lib.hid ((hb3.block w.heap.size (Array.getElem?_eq_some_iff.1 HBX2.out).1).trans HBX2.out)
  clear hb3 HB2 k0 k1 k2 HBX2
  cases hlg : (decide (400 < T.length) || decide (100 < N.length) || decide (100 < S.length)) with
  | true =>
    clear l0 l1 l2
    go_wp2_with fail
    go_ret
    exact Makes.mk rfl HB3.out
  | false =>
    have hTl : T.length ≤ 400 := by
      simp only [Bool.or_eq_false_iff, decide_eq_false_iff_not] at hlg
      omega
    have HNl : Hid (N.length ≤ 100) := Lib.hid (by
      simp only [Bool.or_eq_false_iff, decide_eq_false_iff_not] at hlg
      omega)
    clear hlg
    go_wp2_with fail
    refine (Expr_any T _ _ _ N S _ (HN.out.later HB3.out) (HNN.out.later HB3.out) (HSS.out.later HB3.out) (HSP.out.later HB3.out) (HTB.out.later HB3.out) HZ.out (by have := HNl.out; omega) HZT.out HKT.out).mono ?_
    rintro E w4 hr
    rcases hr with ⟨e, pp, he, rfl, hb4⟩ | ⟨x0, k0, ts, hT, hO, hm, hh, _, _, hck, v, rfl, hown, hb4⟩
    · have HB4 := Lib.hid (below_later hb4 HB3.out)
      have hq : (e != 0) = true := by simpa using he
      clear hb4 l0 l1 l2 he
      go_wp2_with fail
      go_ret
      exact Makes.mk rfl HB4.out
    · have HB4 := Lib.hid (below_later hb4 HB3.out)
      have HPT := Lib.hid (fun q hq => Tr.closed_at hT hO hm hh hck (q := q) hq)
      have HTX := Lib.hid hT
      have HBX4 : Hid (w4.heap[w.heap.size]? = some (.cells #[.slice A T.length C, .slice A2 N.length C2, .slice A3 S.length C3] 35 (0, 0))) := Lib.hid ((hb4.block w.heap.size (Array.getElem?_eq_some_iff.1 HBX3.out).1).trans HBX3.out)
      have HTL : Hid (0 < T.length) := Lib.hid (by rw [hT]; simp)
      have hln : ts.length = T.length := (HPT.out 0 HTL.out).1
      have HLN := Lib.hid hln
      have HOW : Hid (Txts w4 v (ts.map Ty.str)) := Lib.hid (Txts.own (n := ts.length) (by rw [List.map_map]; exact hown))
      obtain ⟨gt, Ct, rfl, _, _, hct, _, _⟩ := own_read hown (by have := HTL.out; omega)
      clear hT hO hm hh hck hb4 l0 l1 l2 hown HB3 HBX3
      rw [hln] at hct HOW ⊢
      clear hln
      obtain ⟨b, off, rfl⟩ : ∃ b off, A = some ⟨b, off, none⟩ := by
        obtain ⟨A', c', e1, _, h3⟩ := HN.out
        obtain ⟨b, off, rfl, _⟩ := h3 HTL.out
        simp only [Value.slice.injEq] at e1
        exact ⟨b, off, e1.1⟩
      go_wp2_with fail
      go_loopw [7] (fun i wr => ∃ k : Nat, k ≤ T.length ∧ i = .int .i64 k ∧ Hid (Below w4.heap.size w4 wr)) (fun i _ => T.length - (intOf i).toNat)
      case atStart => exact ⟨0, Nat.zero_le _, by go_num, Lib.hid (Below.refl _ _)⟩
      case round =>
        obtain ⟨k, hk, rfl, HB⟩ := hrel
        have hbk : wr.heap[w.heap.size]? = _ := (HB.out.block w.heap.size (Array.getElem?_eq_some_iff.1 HBX4.out).1).trans HBX4.out
        have m0 : wr.cell? ⟨w.heap.size, 0, none⟩ = some (.slice (some ⟨b, off, none⟩) T.length C) := by simp [World.cell?, hbk]
        clear hbk
        have HNR := Lib.hid (HN.out.later (below_later HB.out HB4.out))
        have HBR := Lib.hid (below_later HB.out HB4.out)
        by_cases hlt : k < T.length
        · obtain ⟨_, pre, y, ky, post, hTT, hpre, hOy, hmy, hhy, hcl⟩ := HPT.out k hlt
          have HTT := Lib.hid hTT
          have HPR := Lib.hid hpre
          have hsz : k + (1 + ky.flat.length) + post.length = T.length := by rw [hTT, ← hpre]; simp; omega
          have HBE : Hid (Tr.behind T (k : Int) = k + 1 + ky.flat.length) := Lib.hid (by have := Tr.F.behind_at hTT hOy; rw [hpre] at this; exact this)
          have HTB2 := Lib.hid (tBehind_any T (.slice (some ⟨b, off, none⟩) T.length C) (k : Int) wr HNR.out (by omega))
          rw [HBE.out] at HTB2
          have HOY := Lib.hid hOy
          have HMY := Lib.hid hmy
          have HCL := Lib.hid hcl
          have HSZ : Hid (∀ z ∈ y :: ky.flat, z.s.size ≤ 140737488351232 ∧ z.kids ≤ 9223372036854775807) := Lib.hid (fun z hz => by
            have hz : z ∈ T := by
              rw [hTT]
              simp only [List.mem_append, List.mem_cons] at hz ⊢
              rcases hz with hz | hz
              · exact .inr (.inl hz)
              · exact .inr (.inr (.inl hz))
            exact ⟨HZT.out z hz, HKT.out z hz⟩)
          have HCUT : Hid ((T.drop k).take (1 + ky.flat.length) = y :: ky.flat) := Lib.hid (by have := Tr.part_take hTT; rw [hpre] at this; exact this)
          have HCC : Hid (Tr.check (y :: ky.flat) = (0, 0)) := Lib.hid (Tr.F.check_one (by rw [List.length_cons]; omega) hOy hmy hhy)
          clear hTT hpre hOy hmy hcl
          have hke : ¬ (((k + 1 + ky.flat.length : Nat) : Int) ≤ (k : Int)) := by omega
          have hee : ¬ ((T.length : Int) < ((k + 1 + ky.flat.length : Nat) : Int)) := by omega
          go_wp2_with fail
          refine HTB2.out.mono ?_
          rintro E w5 ⟨rfl, hb5⟩
          have HB5 := Lib.hid (below_later hb5 HB.out)
          have HBR5 := Lib.hid (below_later hb5 HBR.out)
          have HN5 := Lib.hid (HNR.out.later hb5)
          have m5 := cell_later hb5 m0
          clear hb5 HTB2 m0 HNR HB HBR
          have hCk : k + 1 + ky.flat.length ≤ C := by omega
          generalize hen : k + 1 + ky.flat.length = en at *
          go_wp2_with fail
          refine (CopyNodes_any (y :: ky.flat) _ _ (Nodes.cut HN5.out k (en - k) (C - k) (by rw [← HCUT.out]; congr 1; omega) (by rw [List.length_cons]; omega) (by omega)) (by rw [List.length_cons]; omega)).mono ?_
          rintro E w6 ⟨pv, rfl, hNP, hb6⟩
          have HNP := Lib.hid hNP
          have HB6 := Lib.hid (below_later hb6 HB5.out)
          have HBR6 := Lib.hid (below_later hb6 HBR5.out)
          have m6 := cell_later hb6 m5
          obtain ⟨Ap, cp, rfl, _, _⟩ := hNP
          clear hb6 HB5 HBR5 HN5 m5
          go_wp2_with fail
          refine (Free_ok (y :: ky.flat) _ y ky _ HNP.out (HSP.out.later HBR6.out) (by rw [List.length_cons]; omega) (fun z hz => (HSZ.out z hz).1) (fun z hz => (HSZ.out z hz).2) HCC.out rfl HOY.out HMY.out hhy).mono ?_
          rintro E w7 ⟨fv, rfl, hf7, hb7⟩
          obtain ⟨Af, cf, rfl⟩ := own_shape hf7
          have HNP7 := Lib.hid (HNP.out.later hb7)
          have HB7 := Lib.hid (below_later hb7 HB6.out)
          have HBR7 := Lib.hid (below_later hb7 HBR6.out)
          have m7 := cell_later hb7 m6
          clear hf7 hb7 HB6 HBR6 HNP m6
          by_cases hfr : Tr.F.free y ky = []
          · have hf0 : (Tr.F.free y ky).length = 0 := by rw [hfr]; rfl
            have HC0 := Lib.hid (HCL.out hfr)
            rw [hf0]
            clear hf0 hfr HCL
            go_wp2_with fail
            refine (Expr_ok (y :: ky.flat) _ _ _ [] [] _ HNP7.out (Txts.nil _) (Txts.nil _) (HSP.out.later HBR7.out) (fun s hs => by cases hs) (by simp) ⟨rfl, fun j hj => absurd hj (Nat.not_lt_zero _)⟩ (HTB.out.later HBR7.out) y ky (by rw [List.length_cons]; omega) (fun z hz => (HSZ.out z hz).1) (fun z hz => (HSZ.out z hz).2) HCC.out rfl HOY.out HMY.out).mono ?_
            rw [show envTo [] [] ([] : List ByteArray).length = [] from rfl, HC0.out]
            rintro E w8 ⟨v8, rfl, ho8, hb8⟩
            have hl8 : ((ts.drop k).take (1 + ky.flat.length)).length = 1 + ky.flat.length := by
              rw [List.length_take, List.length_drop]
              have := HLN.out
              omega
            have HT8 : Hid (Txts w8 v8 (((ts.map Ty.str).drop k).take (1 + ky.flat.length))) := Lib.hid (by
              have := Txts.own (L := ((ts.drop k).take (1 + ky.flat.length)).map Ty.str) (n := ((ts.drop k).take (1 + ky.flat.length)).length) (by rw [List.map_map]; exact ho8)
              rw [List.map_take, List.map_drop] at this
              exact this)
            have HB8 := Lib.hid (below_later hb8 HB7.out)
            have HBR8 := Lib.hid (below_later hb8 HBR7.out)
            have HA8 := Lib.hid (HOW.out.later (below_later hb8 HB7.out))
            have hl9 : (((ts.map Ty.str).drop k).take (1 + ky.flat.length)).length = 1 + ky.flat.length := by
              rw [List.length_take, List.length_drop, List.length_map]
              have := HLN.out
              omega
            have HEQ := Lib.hid (EqTexts_txts (((ts.map Ty.str).drop k).take (1 + ky.flat.length)) (.slice (some ⟨gt, 0 + k, none⟩) (en - k) (Ct - k)) v8 w8 (Txts.cut HA8.out k (en - k) (Ct - k) _ (by congr 1; omega) (by rw [hl9]; omega) (by omega)) HT8.out (by rw [hl9]; omega))
            rw [Nat.zero_add] at HEQ
            rw [hl8] at ho8
            obtain ⟨A8, c8, rfl⟩ := own_shape ho8
            have hcc : k + (en - k) ≤ Ct := by omega
            have hct2 : en ≤ Ct := by omega
            clear ho8 hb8 hl8 hl9 HT8 HB7 HBR7 HA8 HNP7 HC0 m7
            go_wp2_with fail
            refine HEQ.out.mono ?_
            rintro E w9 ⟨rfl, hb9⟩
            have HB9 := Lib.hid (below_later hb9 HB8.out)
            clear hb9 HEQ HB8 HBR8
            go_wp2_with fail
            go_roundw
            case rel => exact ⟨k + 1, by omega, by go_num, HB9⟩
            case measure => simp [intOf]; omega
          · have hf0 : 0 < (Tr.F.free y ky).length := List.length_pos_iff.2 hfr
            generalize (Tr.F.free y ky).length = nf at *
            clear hfr HCL HBR7 HNP7 m7
            go_wp2_with fail
            go_roundw
            case rel => exact ⟨k + 1, by omega, by go_num, HB7⟩
            case measure => simp [intOf]; omega
        · obtain rfl : k = T.length := by omega
          clear HNR
          go_wp2_with fail
          go_ret
          exact Makes.mk rfl HBR.out
end Go.Proofs.YtdobaililmkkcaaDoor

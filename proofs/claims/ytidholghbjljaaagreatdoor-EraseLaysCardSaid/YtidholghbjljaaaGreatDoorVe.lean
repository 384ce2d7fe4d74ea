
/- Walks of trees: may modules be? The program's answer. -/
import Derived.Test.YtidholghbjljaaaGreatDoorVd
namespace Culp.Mo
set_option linter.unusedSimpArgs false
set_option linter.unusedVariables false
open Culp Culp.Tr
theorem head_step {m : Md} {j : Nat} {i : Im} (hx : m.imps[j]? = some i) : (Tx.isName m.name.data.toList && (m.imps.take (j + 1)).all impOk) = ((Tx.isName m.name.data.toList && (m.imps.take j).all impOk) && impOk i) := by
  rw [all_step hx, Bool.and_assoc]
theorem head_all {m : Md} {j : Nat} (h : m.imps.length ≤ j) : (Tx.isName m.name.data.toList && (m.imps.take j).all impOk) = headOk m := by
  rw [List.take_of_length_le h]
  rfl
theorem nodesD_step {l : List Df} {k : Nat} {x : Df} (hx : l[k]? = some x) : nodesD (l.take (k + 1)) = nodesD (l.take k) + x.tree.length := sum_step (g := fun d : Df => d.tree.length) hx
theorem nodesM_step {l : List Md} {k : Nat} {x : Md} (hx : l[k]? = some x) : nodesM (l.take (k + 1)) = nodesM (l.take k) + nodesD x.defs := sum_step (g := fun m : Md => nodesD m.defs) hx
/-- The first def that may not be is told of all modules. -/
theorem mods_def {L : List Md} {k j : Nat} {m : Md} {d : Df} {e : Nat} (hf : few L = true) (hL : firstE ((L.take k).map modE) = 0) (hm : L[k]? = some m) (hh : headOk m = true) (hD : firstE ((m.defs.take j).map defE) = 0) (hd : m.defs[j]? = some d) (he : defE d = e) (h0 : e ≠ 0) : mods L = e := by
  subst he
  have h1 := firstE_hit hD hd h0
  have h2 : modE m = defE d := by rw [modE_yes hh]; exact h1
  have h3 := firstE_hit (f := modE) hL hm (by rw [h2]; exact h0)
  rw [mods_bad hf (by rw [h3, h2]; exact h0), h3, h2]
theorem mods_head {L : List Md} {k : Nat} {m : Md} (hf : few L = true) (hL : firstE ((L.take k).map modE) = 0) (hm : L[k]? = some m) (hh : headOk m = false) : mods L = 18 := by
  have h2 : modE m = 18 := modE_no hh
  have h3 := firstE_hit (f := modE) hL hm (by rw [h2]; decide)
  rw [mods_bad hf (by rw [h3, h2]; decide), h3, h2]
end Culp.Mo
namespace Go.Proofs.YtidholghbjljaaaGreatDoor
set_option linter.unusedSimpArgs false
set_option linter.unusedVariables false
open Go.RowKit Culp
set_option maxRecDepth 100000 in
set_option maxHeartbeats 12800000 in
theorem tModules_any (L : List Md) (v : Value) (w : World) (hL : Mods w v L) (hS : Sp w) (hl : L.length ≤ 1000000000000000) (hz : ∀ m ∈ L, MdSz m) : Calls Tryz.prog 88 #[v] w (Makes (.int .i64 (Mo.mods L : Nat)) w) := by
  have HL := Lib.hid hL
  have HZ := Lib.hid hz
  have HS := Lib.hid hS
  have HFW := Lib.hid (few_any L v w hL hl hz)
  obtain ⟨A, C, rfl⟩ := hL.form
  clear hL hz hS
  go_enter Tryz.func88, Tryz.ntmps88
  go_wp2_with fail
  refine HFW.out.mono ?_
  rintro E w1 ⟨rfl, hb1⟩
  have HB1 := Lib.hid hb1
  clear hb1 HFW
  cases hf : Mo.few L with
  | false =>
    go_wp2_with fail
    go_ret
    exact Makes.mk (by rw [Mo.mods_many hf]; rfl) HB1.out
  | true =>
    obtain ⟨hf1, hf2⟩ := Mo.few_len hf
    have HF := Lib.hid hf
    have HF2 := Lib.hid hf2
    clear hf hf2 hl
    go_wp2_with fail
    go_loopw [3, 18] (fun nv iv wr => ∃ k n : Nat, k ≤ L.length ∧ iv = .int .i64 k ∧ nv = .int .i64 n ∧ n ≤ 300000 * k ∧ Hid (n = Mo.nodesM (L.take k)) ∧ Hid (Mo.firstE ((L.take k).map Mo.modE) = 0) ∧ Hid (Below w.heap.size w wr)) (fun _ i _ => L.length - (intOf i).toNat)
    case atStart => exact ⟨0, 0, Nat.zero_le _, rfl, rfl, Nat.zero_le _, Lib.hid rfl, Lib.hid rfl, HB1⟩
    case round =>
      clear HB1
      obtain ⟨k, n, hk, rfl, rfl, hn, HN, HE, HB⟩ := hrel
      by_cases hlt : k < L.length
      · obtain ⟨b, off, iv, dv, rfl, ⟨n0, n1, n2, n3, n4⟩, hi, hd⟩ := (HL.out.later HB.out).at_ hlt
        obtain ⟨Ai, ci, rfl⟩ := hi.form
        obtain ⟨Ad, cd, rfl⟩ := hd.form
        have hx : L[k]? = some L[k] := List.getElem?_eq_getElem hlt
        have HMZ := Lib.hid (HZ.out _ (List.mem_of_getElem? hx))
        have hfw := HF2.out _ (List.mem_of_getElem? hx)
        have HX := Lib.hid hx
        generalize L[k] = m at *
        have HI := Lib.hid hi
        have HD := Lib.hid hd
        have HB2 := Lib.hid (fun a b => below_later (below_two wr a b) HB.out)
        have HM0 : Hid (Blk wr.heap.size #[.string m.name, .slice Ai m.imps.length ci, .slice Ad m.defs.length cd, .int .i64 m.line, .int .i64 m.col] 88 ((wr.alloc (.cells #[.string m.name, .slice Ai m.imps.length ci, .slice Ad m.defs.length cd, .int .i64 m.line, .int .i64 m.col] 88)).alloc (.cells #[.string m.name] 9))) := Lib.hid ((Blk.alloc wr _ _).later ((Below.refl _ _).alloc (Nat.le_refl _) _))
        have HT0 := Lib.hid ((Blk.alloc2 wr (.cells #[.string m.name, .slice Ai m.imps.length ci, .slice Ad m.defs.length cd, .int .i64 m.line, .int .i64 m.col] 88) #[.string m.name] 9).cell (i := 0) rfl)
        clear hx hi hd
        go_wp2_with fail
        refine (named_1 { data := #[] } m.name _ _ _ HT0.out HMZ.out.1 (HS.out.later (HB2.out _ _))).mono ?_
        rintro E w2 ⟨rfl, hb2⟩
        have HB3 := Lib.hid (below_later hb2 (HB2.out _ _))
        have HM2 := Lib.hid (HM0.out.later hb2)
        have HI2 := Lib.hid ((HI.out.later (below_two wr _ _)).later hb2)
        have HD2 := Lib.hid ((HD.out.later (below_two wr _ _)).later hb2)
        have m1 := HM2.out.cell (i := 1) rfl
        clear hb2 n0 n1 n2 n3 n4 HI HD HB2 HM0 HT0 HB
        rw [show Tr.note ({ data := #[] } : ByteArray).data.toList = true from rfl, Bool.and_true]
        go_wp2_with fail
        go_loopw [6, 29] (fun ov iv wr => ∃ j : Nat, j ≤ m.imps.length ∧ iv = .int .i64 j ∧ ov = .bool (Tx.isName m.name.data.toList && (m.imps.take j).all Mo.impOk) ∧ Hid (Below w2.heap.size w2 wr)) (fun _ i _ => m.imps.length - (intOf i).toNat)
        case atStart => exact ⟨0, Nat.zero_le _, rfl, by simp, Lib.hid (Below.refl _ _)⟩
        case round =>
          obtain ⟨j, hj, rfl, rfl, HBI⟩ := hrel
          by_cases hlt2 : j < m.imps.length
          · obtain ⟨b2, off2, rfl, ⟨q0, q1, q2, q3, q4⟩⟩ := (HI2.out.later HBI.out).at_ hlt2
            have hx2 : m.imps[j]? = some m.imps[j] := List.getElem?_eq_getElem hlt2
            have HIZ := Lib.hid (HMZ.out.2.1.2 _ (List.mem_of_getElem? hx2))
            have HX2 := Lib.hid hx2
            generalize m.imps[j] = x at *
            clear hx2
            cases hok : (Tx.isName m.name.data.toList && (m.imps.take j).all Mo.impOk) with
            | false =>
              have HBA : Hid (∀ cs, Below w2.heap.size w2 (wr.alloc (.cells cs 90))) := Lib.hid (fun cs => below_later ((Below.refl _ _).alloc (Nat.le_refl _) _) HBI.out)
              have HOK : Hid ((Tx.isName m.name.data.toList && (m.imps.take (j + 1)).all Mo.impOk) = false) := Lib.hid (by rw [Mo.head_step HX2.out, hok]; rfl)
              clear hok
              go_wp2_with fail
              go_roundw
              case rel => exact ⟨j + 1, by omega, by go_num, by rw [HOK.out], Lib.hid (HBA.out _)⟩
              case measure => simp [intOf]; omega
            | true =>
              have HOK : Hid ((Tx.isName m.name.data.toList && (m.imps.take (j + 1)).all Mo.impOk) = Mo.impOk x) := Lib.hid (by rw [Mo.head_step HX2.out, hok]; rfl)
              have HB2 := Lib.hid (fun a b => below_later (below_two wr a b) HBI.out)
              have HT1 := Lib.hid (Blk.alloc2 wr (.cells #[.string x.src, .string x.name, .string x.t, .int .i64 x.line, .int .i64 x.col] 90) #[.string x.src, .string x.name] 9)
              clear hok
              go_wp2_with fail
              refine (named_2 x.t x.src x.name _ _ _ (HT1.out.cell (i := 0) rfl) (HT1.out.cell (i := 1) rfl) HIZ.out.1 HIZ.out.2.1 (HS.out.later (below_later (HB2.out _ _) HB3.out))).mono ?_
              rintro E w3 ⟨rfl, hb3⟩
              have HB4 := Lib.hid (below_later hb3 (HB2.out _ _))
              clear hb3 q0 q1 q2 q3 q4 HB2 HT1
              go_wp2_with fail
              go_roundw
              case rel => exact ⟨j + 1, by omega, by go_num, by rw [HOK.out]; rfl, HB4⟩
              case measure => simp [intOf]; omega
          · have HOK : Hid ((Tx.isName m.name.data.toList && (m.imps.take j).all Mo.impOk) = Mo.headOk m) := Lib.hid (Mo.head_all (by omega))
            rw [HOK.out]
            have HB5 := Lib.hid (below_later HBI.out HB3.out)
            have HM5 := Lib.hid (HM2.out.later HBI.out)
            have HD5 := Lib.hid (HD2.out.later HBI.out)
            have m2 := HM5.out.cell (i := 2) rfl
            clear m1 HOK HI2
            cases hh : Mo.headOk m with
            | false =>
              have HR := Lib.hid (Mo.mods_head HF.out HE.out HX.out hh)
              clear hh
              go_wp2_with fail
              go_ret
              exact Makes.mk (by rw [HR.out]; rfl) HB5.out
            | true =>
              have HH := Lib.hid hh
              clear hh
              go_wp2_with fail
              obtain ⟨wo, rfl⟩ : ∃ w0, w0 = wr := ⟨_, rfl⟩
              go_loopw [3, 50] (fun nv iv wr => ∃ j q : Nat, j ≤ m.defs.length ∧ iv = .int .i64 j ∧ nv = .int .i64 q ∧ q ≤ 300000 * k + 4096 * j ∧ Hid (q = n + Mo.nodesD (m.defs.take j)) ∧ Hid (Mo.firstE ((m.defs.take j).map Mo.defE) = 0) ∧ Hid (Below wo.heap.size wo wr)) (fun _ i _ => m.defs.length - (intOf i).toNat)
              case atStart => exact ⟨0, n, Nat.zero_le _, rfl, rfl, by omega, Lib.hid rfl, Lib.hid rfl, Lib.hid (Below.refl _ _)⟩
              case round =>
                obtain ⟨j, q, hj, rfl, rfl, hq, HQ, HE2, HBD⟩ := hrel
                by_cases hlt3 : j < m.defs.length
                · obtain ⟨b3, off3, tv, rfl, ⟨q0, q1, q2, q3, q4, q5⟩, ht⟩ := (HD5.out.later HBD.out).at_ hlt3
                  obtain ⟨At, ct, rfl⟩ := ht.form
                  have hx3 : m.defs[j]? = some m.defs[j] := List.getElem?_eq_getElem hlt3
                  have HDZ := Lib.hid (HMZ.out.2.2.2 _ (List.mem_of_getElem? hx3))
                  have HX3 := Lib.hid hx3
                  generalize m.defs[j] = d at *
                  have HT := Lib.hid ht
                  have HB2 := Lib.hid (fun a b => below_later (below_two wr a b) HBD.out)
                  have HK0 : Hid (Blk wr.heap.size #[.string d.name, .bool d.out, .string d.t, .slice At d.tree.length ct, .int .i64 d.line, .int .i64 d.col] 84 ((wr.alloc (.cells #[.string d.name, .bool d.out, .string d.t, .slice At d.tree.length ct, .int .i64 d.line, .int .i64 d.col] 84)).alloc (.cells #[.string d.name] 9))) := Lib.hid ((Blk.alloc wr _ _).later ((Below.refl _ _).alloc (Nat.le_refl _) _))
                  have HT1 := Lib.hid ((Blk.alloc2 wr (.cells #[.string d.name, .bool d.out, .string d.t, .slice At d.tree.length ct, .int .i64 d.line, .int .i64 d.col] 84) #[.string d.name] 9).cell (i := 0) rfl)
                  clear hx3 ht
                  go_wp2_with fail
                  refine (named_1 d.t d.name _ _ _ HT1.out HDZ.out.1 (HS.out.later (below_later (HB2.out _ _) HB5.out))).mono ?_
                  rintro E w3 ⟨rfl, hb3⟩
                  have HB6 := Lib.hid (below_later hb3 (HB2.out _ _))
                  have HB7 := Lib.hid (below_later HB6.out HB5.out)
                  have HK3 := Lib.hid (HK0.out.later hb3)
                  have HT3 := Lib.hid ((HT.out.later (below_two wr _ _)).later hb3)
                  have k3 := HK3.out.cell (i := 3) rfl
                  clear hb3 q0 q1 q2 q3 q4 q5 HB2 HT1 HK0 HT
                  cases hnm : (Tx.isName d.name.data.toList && Tr.note d.t.data.toList) with
                  | false =>
                    have HR := Lib.hid (Mo.mods_def HF.out HE.out HX.out HH.out HE2.out HX3.out (Mo.defE_no hnm) (by decide))
                    clear hnm
                    go_wp2_with fail
                    go_ret
                    exact Makes.mk (by rw [HR.out]; rfl) HB7.out
                  | true =>
                    have HDE := Lib.hid (Mo.defE_yes hnm)
                    clear hnm
                    go_wp2_with fail
                    refine (tCheck_any d.tree _ _ HT3.out (HS.out.later HB7.out) (fun x hx => (HDZ.out.2.2.2.1 x hx).1) HDZ.out.2.2.2.2).mono ?_
                    rintro E w4 ⟨rfl, hb4⟩
                    have HB8 := Lib.hid (below_later hb4 HB6.out)
                    have HB9 := Lib.hid (below_later hb4 HB7.out)
                    have k4 := cell_later hb4 k3
                    clear hb4 k3 HK3 HT3
                    by_cases h0 : (Tr.check d.tree).1 = 0
                    · have e0 : (((Tr.check d.tree).1 : Int) != 0) = false := neq_lit0 (by omega)
                      have hsm := Mo.check_small h0
                      have HQ2 : Hid (q + d.tree.length = n + Mo.nodesD (m.defs.take (j + 1))) := Lib.hid (by rw [Mo.nodesD_step HX3.out, HQ.out, Nat.add_assoc])
                      have HE3 : Hid (Mo.firstE ((m.defs.take (j + 1)).map Mo.defE) = 0) := Lib.hid (Mo.firstE_step HE2.out HX3.out (by rw [HDE.out]; exact h0))
                      clear h0 HDE
                      go_wp2_with fail
                      go_roundw
                      case rel => exact ⟨j + 1, q + d.tree.length, by omega, by go_num, by go_num, by omega, HQ2, HE3, HB8⟩
                      case measure => simp [intOf]; omega
                    · have e0 : (((Tr.check d.tree).1 : Int) != 0) = true := neq_lit (by omega)
                      have HR := Lib.hid (Mo.mods_def HF.out HE.out HX.out HH.out HE2.out HX3.out HDE.out h0)
                      clear h0 HDE
                      go_wp2_with fail
                      go_ret
                      exact Makes.mk (by rw [HR.out]; rfl) HB9.out
                · have hjd : m.defs.length ≤ j := by omega
                  have HN2 : Hid (q = Mo.nodesM (L.take (k + 1))) := Lib.hid (by
                    have := HQ.out
                    rw [List.take_of_length_le hjd] at this
                    rw [Mo.nodesM_step HX.out, this, HN.out])
                  have HE4 : Hid (Mo.firstE ((L.take (k + 1)).map Mo.modE) = 0) := Lib.hid (Mo.firstE_step HE.out HX.out (by rw [Mo.modE_yes HH.out]; exact Mo.firstE_all HE2.out hjd))
                  have HB6 := Lib.hid (below_later HBD.out HB5.out)
                  go_wp2_with fail
                  go_roundw
                  case rel => exact ⟨k + 1, q, by omega, by go_num, rfl, by omega, HN2, HE4, HB6⟩
                  case measure => simp [intOf]; omega
      · have HE2 := Lib.hid (Mo.firstE_all HE.out (by omega : L.length ≤ k))
        have HN2 : Hid (n = Mo.nodesM L) := Lib.hid (by
          have := HN.out
          rwa [List.take_of_length_le (by omega)] at this)
        have hn2 : n ≤ 3000000 := by omega
        by_cases hbig : 4096 < n
        · have i1 : (4096 : Int) < (n : Int) := by omega
          have HR := Lib.hid (Mo.mods_big HF.out HE2.out (by rw [← HN2.out]; exact hbig))
          clear hbig
          go_wp2_with fail
          go_ret
          exact Makes.mk (by rw [HR.out]; rfl) HB.out
        · have i1 : ¬ (4096 : Int) < (n : Int) := by omega
          have HR := Lib.hid (Mo.mods_ok HF.out HE2.out (by rw [← HN2.out]; exact hbig))
          clear hbig
          go_wp2_with fail
          go_ret
          exact Makes.mk (by rw [HR.out]; rfl) HB.out
end Go.Proofs.YtidholghbjljaaaGreatDoor


/- Walks of trees: may modules be? The document's answer. -/
import Derived.Test.YtidholghbjljaaaGreatDoorVe
namespace Culp.Mo
set_option linter.unusedSimpArgs false
set_option linter.unusedVariables false
open Culp Culp.Tr
theorem head_name {m : Md} (h : Tx.isName m.name.data.toList = false) : headOk m = false := by
  unfold headOk
  rw [h]
  rfl
theorem head_imp {m : Md} {j : Nat} {i : Im} (hx : m.imps[j]? = some i) (h : impOk i = false) : headOk m = false := by
  unfold headOk
  rw [all_no hx h, Bool.and_false]
theorem head_yes {m : Md} {j : Nat} (h : Tx.isName m.name.data.toList = true) (ha : (m.imps.take j).all impOk = true) (hj : m.imps.length ≤ j) : headOk m = true := by
  unfold headOk
  rw [List.take_of_length_le hj] at ha
  rw [h, ha]
  rfl
theorem imps_step {m : Md} {j : Nat} {i : Im} (ha : (m.imps.take j).all impOk = true) (hx : m.imps[j]? = some i) (h : impOk i = true) : (m.imps.take (j + 1)).all impOk = true := by
  rw [all_step hx, ha, h]
  rfl
theorem few_yes {L : List Md} (h : L.length ≤ 8) (ha : L.all small = true) : few L = true := by
  unfold few
  rw [ha, decide_eq_true h]
  rfl
theorem few_len_no {L : List Md} (h : ¬ L.length ≤ 8) : few L = false := by
  unfold few
  rw [decide_eq_false h]
  rfl
theorem few_no {L : List Md} {k : Nat} {m : Md} (hx : L[k]? = some m) (h : ¬ m.imps.length + m.defs.length ≤ 64) : few L = false := by
  unfold few
  rw [all_no hx (decide_eq_false h), Bool.and_false]
theorem impOk_1 {i : Im} (h : Tx.isName i.src.data.toList = false) : impOk i = false := by
  unfold impOk
  rw [h]
  rfl
theorem impOk_2 {i : Im} (h : Tx.isName i.src.data.toList = true) (h2 : Tx.isName i.name.data.toList = false) : impOk i = false := by
  unfold impOk
  rw [h, h2]
  rfl
theorem impOk_3 {i : Im} (h : Tx.isName i.src.data.toList = true) (h2 : Tx.isName i.name.data.toList = true) : impOk i = note i.t.data.toList := by
  unfold impOk
  rw [h, h2]
  rfl
end Culp.Mo
namespace Go.Proofs.YtidholghbjljaaaGreatDoor
set_option linter.unusedSimpArgs false
set_option linter.unusedVariables false
open Go.RowKit Culp
set_option maxRecDepth 100000 in
set_option maxHeartbeats 12800000 in
theorem rModules_any (L : List Md) (v : Value) (w : World) (hL : Mods w v L) (hl : L.length ≤ 1000000000000000) (hz : ∀ m ∈ L, MdSz m) : Calls Tryz.prog 11 #[v] w (Makes (.int .i64 (Mo.mods L : Nat)) w) := by
  have HL := Lib.hid hL
  have HZ := Lib.hid hz
  obtain ⟨A, C, rfl⟩ := hL.form
  clear hL hz
  go_enter Tryz.func11, Tryz.ntmps11
  by_cases hl8 : L.length ≤ 8
  case neg =>
    have i1 : (8 : Int) < (L.length : Int) := by omega
    have HR := Lib.hid (Mo.mods_many (Mo.few_len_no hl8))
    clear hl8
    go_wp2_with fail
    go_ret
    exact Makes.mk (by rw [HR.out]; rfl) (Below.refl _ _)
  have i1 : ¬ (8 : Int) < (L.length : Int) := by omega
  go_wp2_with fail
  clear i1
  go_loopw [3] (fun iv wr => ∃ k : Nat, k ≤ L.length ∧ iv = .int .i64 k ∧ Hid ((L.take k).all Mo.small = true) ∧ Hid (Below w.heap.size w wr)) (fun i _ => L.length - (intOf i).toNat)
  case atStart => exact ⟨0, Nat.zero_le _, rfl, Lib.hid rfl, Lib.hid (Below.refl _ _)⟩
  case round =>
    obtain ⟨k, hk, rfl, HA, HB⟩ := hrel
    by_cases hlt : k < L.length
    · obtain ⟨b, off, iv, dv, rfl, ⟨n0, n1, n2, n3, n4⟩, hi, hd⟩ := (HL.out.later HB.out).at_ hlt
      obtain ⟨Ai, ci, rfl⟩ := hi.form
      obtain ⟨Ad, cd, rfl⟩ := hd.form
      have hx : L[k]? = some L[k] := List.getElem?_eq_getElem hlt
      have hz := HZ.out _ (List.mem_of_getElem? hx)
      have b1 := hz.2.1.1
      have b2 := hz.2.2.1
      have HX := Lib.hid hx
      generalize L[k] = m at *
      have HBD := Lib.hid HB.out.drew
      have r1 : IntKind.i64.wrap ((m.imps.length : Int) + (m.defs.length : Int)) = (m.imps.length : Int) + (m.defs.length : Int) := IntWalk.i64_in _ (by omega)
      clear hx hi hd hz HL n0 n3 n4
      by_cases hs : m.imps.length + m.defs.length ≤ 64
      · have d1 : decide ((64 : Int) < (m.imps.length : Int) + (m.defs.length : Int)) = false := decide_eq_false (by omega)
        have HA1 : Hid ((L.take (k + 1)).all Mo.small = true) := Lib.hid (by
          rw [Mo.all_step HX.out, HA.out, Bool.true_and]
          exact decide_eq_true hs)
        clear hs HA HX HB
        go_wp2_with fail
        refine wp_region_plan (S := fun w' => w'.cell? ⟨b, off + k * 5 + 1, none⟩ = some (.slice Ai m.imps.length ci) ∧ w'.cell? ⟨b, off + k * 5 + 2, none⟩ = some (.slice Ad m.defs.length cd)) [(0, true), (1, true), (2, true), (3, true), (4, true), (5, true), (6, true), (7, true), (8, true), (9, true), (10, true), (11, true), (12, true), (13, true)] (by kernel_rfl) (by kernel_rfl) (by kernel_rfl) (fun _ _ _ _ _ h => h) ⟨n1, n2⟩ ?_
        intro HS
        repeat (first | (apply wpPlan_look; rfl; rfl; (intro wq hq; (try dsimp only at hq); go_split_ands; go_simp; (try rw [if_neg (by omega)]); (try rw [if_pos (by omega)]); try with_reducible rfl); simp only [Act.put, List.setIfInBounds_toArray, List.set_cons_zero, List.set_cons_succ]) | (apply wpPlan_skip; rfl; rfl; simp only [Act.put, List.setIfInBounds_toArray, List.set_cons_zero, List.set_cons_succ]) | (apply wpPlan_pass; rfl; rfl; assumption; simp only [Act.put, List.setIfInBounds_toArray, List.set_cons_zero, List.set_cons_succ]))
        apply wpPlan_done
        clear HS n1 n2 r1 d1
        go_wp2_with fail
        go_roundw
        case rel => exact ⟨k + 1, by omega, by go_num, HA1, HBD⟩
        case measure => simp [intOf]; omega
      · have d1 : decide ((64 : Int) < (m.imps.length : Int) + (m.defs.length : Int)) = true := decide_eq_true (by omega)
        have HR := Lib.hid (Mo.mods_many (Mo.few_no HX.out hs))
        clear hs HA HX HB
        go_wp2_with fail
        refine wp_region_plan (S := fun w' => w'.cell? ⟨b, off + k * 5 + 1, none⟩ = some (.slice Ai m.imps.length ci) ∧ w'.cell? ⟨b, off + k * 5 + 2, none⟩ = some (.slice Ad m.defs.length cd)) [(0, true), (1, true), (2, true), (3, true), (4, true), (5, true), (6, true), (7, true), (8, true), (9, true), (10, true), (11, true), (12, true), (13, true)] (by kernel_rfl) (by kernel_rfl) (by kernel_rfl) (fun _ _ _ _ _ h => h) ⟨n1, n2⟩ ?_
        intro HS
        repeat (first | (apply wpPlan_look; rfl; rfl; (intro wq hq; (try dsimp only at hq); go_split_ands; go_simp; (try rw [if_neg (by omega)]); (try rw [if_pos (by omega)]); try with_reducible rfl); simp only [Act.put, List.setIfInBounds_toArray, List.set_cons_zero, List.set_cons_succ]) | (apply wpPlan_skip; rfl; rfl; simp only [Act.put, List.setIfInBounds_toArray, List.set_cons_zero, List.set_cons_succ]) | (apply wpPlan_pass; rfl; rfl; assumption; simp only [Act.put, List.setIfInBounds_toArray, List.set_cons_zero, List.set_cons_succ]))
        apply wpPlan_done
        clear HS n1 n2 r1 d1
        go_wp2_with fail
        go_ret
        exact Makes.mk (by rw [HR.out]; rfl) HBD.out
    · have HF : Hid (Mo.few L = true) := Lib.hid (by
        have := HA.out
        rw [List.take_of_length_le (by omega)] at this
        exact Mo.few_yes hl8 this)
      have HF2 := Lib.hid (Mo.few_len HF.out).2
      clear HA
      go_wp2_with fail
      obtain ⟨wa, rfl⟩ : ∃ w0, w0 = wr := ⟨_, rfl⟩
      go_loopw [4, 5] (fun nv iv wr => ∃ k n : Nat, k ≤ L.length ∧ iv = .int .i64 k ∧ nv = .int .i64 n ∧ n ≤ 300000 * k ∧ Hid (n = Mo.nodesM (L.take k)) ∧ Hid (Mo.firstE ((L.take k).map Mo.modE) = 0) ∧ Hid (Below w.heap.size w wr)) (fun _ i _ => L.length - (intOf i).toNat)
      case atStart => exact ⟨0, 0, Nat.zero_le _, rfl, rfl, Nat.zero_le _, Lib.hid rfl, Lib.hid rfl, HB⟩
      case round =>
        clear HB hlt hk
        obtain ⟨k, n, hk, rfl, rfl, hn, HN, HE, HB⟩ := hrel
        by_cases hlt : k < L.length
        · obtain ⟨b, off, iv, dv, rfl, ⟨n0, n1, n2, n3, n4⟩, hi, hd⟩ := (HL.out.later HB.out).at_ hlt
          obtain ⟨Ai, ci, rfl⟩ := hi.form
          obtain ⟨Ad, cd, rfl⟩ := hd.form
          have hx : L[k]? = some L[k] := List.getElem?_eq_getElem hlt
          have HMZ := Lib.hid (HZ.out _ (List.mem_of_getElem? hx))
          have hfw := HF2.out _ (List.mem_of_getElem? hx)
          have HX := Lib.hid hx
          generalize L[k] = m at *
          have HI := Lib.hid hi
          have HD := Lib.hid hd
          clear hx hi hd n3 n4
          go_wp2_with fail
          refine (rIsName_any m.name _ HMZ.out.1).mono ?_
          rintro E w2 ⟨rfl, hb2⟩
          have HB2 := Lib.hid (below_later hb2 HB.out)
          have HI2 := Lib.hid (HI.out.later hb2)
          have HD2 := Lib.hid (HD.out.later hb2)
          have HN1 := Lib.hid (cell_later hb2 n1)
          have HN2 := Lib.hid (cell_later hb2 n2)
          clear hb2 n0 n1 n2 HI HD HB
          cases hnm : Tx.isName m.name.data.toList with
          | false =>
            have HR := Lib.hid (Mo.mods_head HF.out HE.out HX.out (Mo.head_name hnm))
            clear hnm
            go_wp2_with fail
            go_ret
            exact Makes.mk (by rw [HR.out]; rfl) HB2.out
          | true =>
            have HNM := Lib.hid hnm
            clear hnm
            go_wp2_with fail
            obtain ⟨wb, rfl⟩ : ∃ w0, w0 = wr := ⟨_, rfl⟩
            go_loopw [6] (fun iv wr => ∃ j : Nat, j ≤ m.imps.length ∧ iv = .int .i64 j ∧ Hid ((m.imps.take j).all Mo.impOk = true) ∧ Hid (Below w2.heap.size w2 wr)) (fun i _ => m.imps.length - (intOf i).toNat)
            case atStart => exact ⟨0, Nat.zero_le _, rfl, Lib.hid rfl, Lib.hid (Below.refl _ _)⟩
            case round =>
              obtain ⟨j, hj, rfl, HA, HBI⟩ := hrel
              have n1 := cell_later HBI.out HN1.out
              by_cases hlt2 : j < m.imps.length
              · obtain ⟨b2, off2, rfl, ⟨q0, q1, q2, q3, q4⟩⟩ := (HI2.out.later HBI.out).at_ hlt2
                have hx2 : m.imps[j]? = some m.imps[j] := List.getElem?_eq_getElem hlt2
                have HIZ := Lib.hid (HMZ.out.2.1.2 _ (List.mem_of_getElem? hx2))
                have HX2 := Lib.hid hx2
                generalize m.imps[j] = x at *
                have hb1 : Below wr.heap.size wr (wr.alloc (.cells #[.string x.src, .string x.name, .string x.t, .int .i64 x.line, .int .i64 x.col] 90)) := (Below.refl _ _).alloc (Nat.le_refl _) _
                have HB3 := Lib.hid (below_later hb1 HBI.out)
                have HK := Lib.hid (Blk.alloc wr #[.string x.src, .string x.name, .string x.t, .int .i64 x.line, .int .i64 x.col] 90)
                clear hx2 hb1
                go_wp2_with fail
                generalize wr.alloc (.cells #[.string x.src, .string x.name, .string x.t, .int .i64 x.line, .int .i64 x.col] 90) = w3 at *
                refine (rIsName_any x.src _ HIZ.out.1).mono ?_
                rintro E w4 ⟨rfl, hb4⟩
                have HB4 := Lib.hid (below_later hb4 HB3.out)
                have HK4 := Lib.hid (HK.out.later hb4)
                have k1 := HK4.out.cell (i := 1) rfl
                clear hb4 q0 q1 q2 q3 q4 HK HB3 n1
                cases h1 : Tx.isName x.src.data.toList with
                | false =>
                  have HR := Lib.hid (Mo.mods_head HF.out HE.out HX.out (Mo.head_imp HX2.out (Mo.impOk_1 h1)))
                  have HBR := Lib.hid (below_later HB4.out HB2.out)
                  clear h1
                  go_wp2_with fail
                  go_ret
                  exact Makes.mk (by rw [HR.out]; rfl) HBR.out
                | true =>
                  have H1 := Lib.hid h1
                  clear h1
                  go_wp2_with fail
                  refine (rIsName_any x.name _ HIZ.out.2.1).mono ?_
                  rintro E w5 ⟨rfl, hb5⟩
                  have HB5 := Lib.hid (below_later hb5 HB4.out)
                  have HK5 := Lib.hid (HK4.out.later hb5)
                  have k2 := HK5.out.cell (i := 2) rfl
                  clear hb5 k1 HK4 HB4
                  cases h2 : Tx.isName x.name.data.toList with
                  | false =>
                    have HR := Lib.hid (Mo.mods_head HF.out HE.out HX.out (Mo.head_imp HX2.out (Mo.impOk_2 H1.out h2)))
                    have HBR := Lib.hid (below_later HB5.out HB2.out)
                    clear h2
                    go_wp2_with fail
                    go_ret
                    exact Makes.mk (by rw [HR.out]; rfl) HBR.out
                  | true =>
                    have H2 := Lib.hid h2
                    clear h2
                    go_wp2_with fail
                    refine (rNote_any x.t _).mono ?_
                    rintro E w6 ⟨rfl, rfl⟩
                    have HOK := Lib.hid (Mo.impOk_3 H1.out H2.out)
                    cases h3 : Tr.note x.t.data.toList with
                    | false =>
                      have HR := Lib.hid (Mo.mods_head HF.out HE.out HX.out (Mo.head_imp HX2.out (by rw [HOK.out]; exact h3)))
                      have HBR := Lib.hid (below_later HB5.out HB2.out)
                      clear h3
                      go_wp2_with fail
                      go_ret
                      exact Makes.mk (by rw [HR.out]; rfl) HBR.out
                    | true =>
                      have HA2 := Lib.hid (Mo.imps_step HA.out HX2.out (by rw [HOK.out]; exact h3))
                      clear h3 HA
                      go_wp2_with fail
                      go_roundw
                      case rel => exact ⟨j + 1, by omega, by go_num, HA2, HB5⟩
                      case measure => simp [intOf]; omega
              · have HH := Lib.hid (Mo.head_yes HNM.out HA.out (by omega))
                have HB5 := Lib.hid (below_later HBI.out HB2.out)
                have HD5 := Lib.hid (HD2.out.later HBI.out)
                have HN5 := Lib.hid (cell_later HBI.out HN2.out)
                clear HI2 HA
                go_wp2_with fail
                clear n1
                obtain ⟨wo, rfl⟩ : ∃ w0, w0 = wr := ⟨_, rfl⟩
                go_loopw [4, 8] (fun nv iv wr => ∃ j q : Nat, j ≤ m.defs.length ∧ iv = .int .i64 j ∧ nv = .int .i64 q ∧ q ≤ 300000 * k + 4096 * j ∧ Hid (q = n + Mo.nodesD (m.defs.take j)) ∧ Hid (Mo.firstE ((m.defs.take j).map Mo.defE) = 0) ∧ Hid (Below wo.heap.size wo wr)) (fun _ i _ => m.defs.length - (intOf i).toNat)
                case atStart => exact ⟨0, n, Nat.zero_le _, rfl, rfl, by omega, Lib.hid rfl, Lib.hid rfl, Lib.hid (Below.refl _ _)⟩
                case round =>
                  obtain ⟨j, q, hj, rfl, rfl, hq, HQ, HE2, HBD⟩ := hrel
                  have n2 := cell_later HBD.out HN5.out
                  by_cases hlt3 : j < m.defs.length
                  · obtain ⟨b3, off3, tv, rfl, ⟨q0, q1, q2, q3, q4, q5⟩, ht⟩ := (HD5.out.later HBD.out).at_ hlt3
                    obtain ⟨At, ct, rfl⟩ := ht.form
                    have hx3 : m.defs[j]? = some m.defs[j] := List.getElem?_eq_getElem hlt3
                    have HDZ := Lib.hid (HMZ.out.2.2.2 _ (List.mem_of_getElem? hx3))
                    have HX3 := Lib.hid hx3
                    generalize m.defs[j] = d at *
                    have hb1 : Below wr.heap.size wr (wr.alloc (.cells #[.string d.name, .bool d.out, .string d.t, .slice At d.tree.length ct, .int .i64 d.line, .int .i64 d.col] 84)) := (Below.refl _ _).alloc (Nat.le_refl _) _
                    have HB6 := Lib.hid (below_later hb1 HBD.out)
                    have HK := Lib.hid (Blk.alloc wr #[.string d.name, .bool d.out, .string d.t, .slice At d.tree.length ct, .int .i64 d.line, .int .i64 d.col] 84)
                    have HT := Lib.hid (ht.later hb1)
                    clear hx3 ht hb1
                    go_wp2_with fail
                    generalize wr.alloc (.cells #[.string d.name, .bool d.out, .string d.t, .slice At d.tree.length ct, .int .i64 d.line, .int .i64 d.col] 84) = w3 at *
                    refine (rIsName_any d.name _ HDZ.out.1).mono ?_
                    rintro E w4 ⟨rfl, hb4⟩
                    have HB7 := Lib.hid (below_later hb4 HB6.out)
                    have HK4 := Lib.hid (HK.out.later hb4)
                    have HT4 := Lib.hid (HT.out.later hb4)
                    have k2 := HK4.out.cell (i := 2) rfl
                    have k3 := HK4.out.cell (i := 3) rfl
                    clear hb4 q0 q1 q2 q3 q4 q5 HK HT HB6 n2
                    cases h1 : Tx.isName d.name.data.toList with
                    | false =>
                      have HR := Lib.hid (Mo.mods_def HF.out HE.out HX.out HH.out HE2.out HX3.out (Mo.defE_no (by rw [h1]; rfl)) (by decide))
                      have HBR := Lib.hid (below_later HB7.out HB5.out)
                      clear h1
                      go_wp2_with fail
                      go_ret
                      exact Makes.mk (by rw [HR.out]; rfl) HBR.out
                    | true =>
                      have H1 := Lib.hid h1
                      clear h1
                      go_wp2_with fail
                      refine (rNote_any d.t _).mono ?_
                      rintro E w5 ⟨rfl, rfl⟩
                      cases h2 : Tr.note d.t.data.toList with
                      | false =>
                        have HR := Lib.hid (Mo.mods_def HF.out HE.out HX.out HH.out HE2.out HX3.out (Mo.defE_no (by rw [H1.out, h2]; rfl)) (by decide))
                        have HBR := Lib.hid (below_later HB7.out HB5.out)
                        clear h2
                        go_wp2_with fail
                        go_ret
                        exact Makes.mk (by rw [HR.out]; rfl) HBR.out
                      | true =>
                        have HDE := Lib.hid (Mo.defE_yes (d := d) (by rw [H1.out, h2]; rfl))
                        clear h2
                        go_wp2_with fail
                        refine (rCheck_any d.tree _ _ HT4.out (fun x hx => (HDZ.out.2.2.2.1 x hx).1) HDZ.out.2.2.2.2).mono ?_
                        rintro E w6 ⟨rfl, hb6⟩
                        have HB8 := Lib.hid (below_later hb6 HB7.out)
                        have HBR := Lib.hid (below_later HB8.out HB5.out)
                        have k4 := cell_later hb6 k3
                        clear hb6 k2 k3 HK4 HT4 HB7
                        by_cases h0 : (Tr.check d.tree).1 = 0
                        · have e0 : (((Tr.check d.tree).1 : Int) != 0) = false := neq_lit0 (by omega)
                          have hsm := Mo.check_small h0
                          have HQ2 : Hid (q + d.tree.length = n + Mo.nodesD (m.defs.take (j + 1))) := Lib.hid (by rw [Mo.nodesD_step HX3.out, HQ.out, Nat.add_assoc])
                          have HE3 : Hid (Mo.firstE ((m.defs.take (j + 1)).map Mo.defE) = 0) := Lib.hid (Mo.firstE_step HE2.out HX3.out (by rw [HDE.out]; exact h0))
                          clear h0 HDE
                          go_wp2_with fail
                          go_roundw
                          case rel => exact ⟨j + 1, q + d.tree.length, by omega, by go_num, by go_num, by omega, HQ2, HE3, HB8⟩
                          case measure => simp [intOf]; omega
                        · have e0 : (((Tr.check d.tree).1 : Int) != 0) = true := neq_lit (by omega)
                          have HR := Lib.hid (Mo.mods_def HF.out HE.out HX.out HH.out HE2.out HX3.out HDE.out h0)
                          clear h0 HDE
                          go_wp2_with fail
                          go_ret
                          exact Makes.mk (by rw [HR.out]; rfl) HBR.out
                  · have hjd : m.defs.length ≤ j := by omega
                    have HN6 : Hid (q = Mo.nodesM (L.take (k + 1))) := Lib.hid (by
                      have := HQ.out
                      rw [List.take_of_length_le hjd] at this
                      rw [Mo.nodesM_step HX.out, this, HN.out])
                    have HE4 : Hid (Mo.firstE ((L.take (k + 1)).map Mo.modE) = 0) := Lib.hid (Mo.firstE_step HE.out HX.out (by rw [Mo.modE_yes HH.out]; exact Mo.firstE_all HE2.out hjd))
                    have HB6 := Lib.hid (below_later HBD.out HB5.out)
                    go_wp2_with fail
                    go_roundw
                    case rel => exact ⟨k + 1, q, by omega, by go_num, rfl, by omega, HN6, HE4, HB6⟩
                    case measure => simp [intOf]; omega
        · have HE2 := Lib.hid (Mo.firstE_all HE.out (by omega : L.length ≤ k))
          have HN2 : Hid (n = Mo.nodesM L) := Lib.hid (by
            have := HN.out
            rwa [List.take_of_length_le (by omega)] at this)
          have hn2 : n ≤ 3000000 := by omega
          by_cases hbig : 4096 < n
          · have i1 : (4096 : Int) < (n : Int) := by omega
            have HR := Lib.hid (Mo.mods_big HF.out HE2.out (by rw [← HN2.out]; exact hbig))
            clear hbig
            go_wp2_with fail
            go_ret
            exact Makes.mk (by rw [HR.out]; rfl) HB.out
          · have i1 : ¬ (4096 : Int) < (n : Int) := by omega
            have HR := Lib.hid (Mo.mods_ok HF.out HE2.out (by rw [← HN2.out]; exact hbig))
            clear hbig
            go_wp2_with fail
            go_ret
            exact Makes.mk (by rw [HR.out]; rfl) HB.out
end Go.Proofs.YtidholghbjljaaaGreatDoor

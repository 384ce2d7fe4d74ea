
/- Walks of trees, the document's: the checker. -/
import Derived.Test.YtdobaililmkkcaaGreatDoorTrJ
namespace Culp.Tr
set_option linter.unusedSimpArgs false
set_option linter.unusedVariables false
theorem firstBad_cons (n : Nat) (x : Nd) (l : List Nd) (i : Nat) : firstBad n (x :: l) i = if may x = true ∧ i < n then firstBad n l (i + 1) else some i := rfl
theorem firstDeep_cons (d : Nat) (l : List Nat) (i : Nat) : firstDeep (d :: l) i = if 64 < d then some i else firstDeep l (i + 1) := rfl
end Culp.Tr
namespace Go.Proofs.YtdobaililmkkcaaGreatDoor
open Go.RowKit Go.Maps Culp

theorem deps_len : ∀ (l : List Nd) (S : List Int), (Tr.deps l S).length ≤ l.length
  | [], S => by rw [Tr.deps_nil]; exact Nat.le_refl _
  | x :: l, S => by
    rw [Tr.deps]
    split
    · simp
    · rw [List.length_cons, List.length_cons]
      exact Nat.succ_le_succ (deps_len l _)
theorem bad_all : ∀ (n : Nat) (l : List Nd) (i : Nat), Tr.firstBad n l i = none → l ≠ [] → i + l.length ≤ n
  | n, [], i, _, h => absurd rfl h
  | n, x :: l, i, h, _ => by
    rw [Tr.firstBad_cons] at h
    split at h
    · rename_i hx
      cases l with
      | nil => simp; omega
      | cons y l =>
        have := bad_all n (y :: l) (i + 1) h (by simp)
        simp only [List.length_cons] at this ⊢
        omega
    · cases h
set_option maxRecDepth 100000 in
set_option maxHeartbeats 3200000 in
theorem rCheck_any (T : List Nd) (tv : Value) (w : World) (hn : Nodes w tv T) (hz : ∀ x ∈ T, x.s.size ≤ 140737488351232) (hk : ∀ x ∈ T, x.kids ≤ 9223372036854775807) :
    Calls Tryz.prog 58 #[tv] w (Makes (.tuple #[.int .i64 (Tr.check T).1, .int .i64 (Tr.check T).2]) w) := by
  rw [← Tr.check_eq]
  have HN := Lib.hid hn
  have HZ := Lib.hid hz
  have HK := Lib.hid hk
  obtain ⟨A, c, rfl, hlc, _⟩ := hn
  clear hz hk
  by_cases hlen : T.length = 0 ∨ 4096 < T.length
  · have HC : Hid (Tr.refCheck T = (17, 0)) := Lib.hid (by unfold Tr.refCheck; rw [if_pos hlen])
    go_enter Tryz.func58, Tryz.ntmps58
    rcases hlen with h0 | h0
    · have h1 : T.length < 1 := by omega
      go_wp2_with fail
      go_ret2
      exact Makes.mk (by rw [HC.out]; rfl) (Below.refl _ _)
    · have h1 : ¬ T.length < 1 := by omega
      go_wp2_with fail
      go_ret2
      exact Makes.mk (by rw [HC.out]; rfl) (Below.refl _ _)
  have h0 : ¬ T.length < 1 := by omega
  have h1 : T.length ≤ 4096 := by omega
  have HC : Hid (Tr.refCheck T = match Tr.firstBad (Tr.deps T [1]).length T 0 with
    | some j => (18, j)
    | none => if Tr.behind T 0 = T.length then (match Tr.firstDeep (Tr.deps T [1]) 0 with | some j => (16, j) | none => (0, 0)) else (18, T.length)) := Lib.hid (by unfold Tr.refCheck; rw [if_neg hlen]; rfl)
  have HNE : Hid (T ≠ []) := Lib.hid (by rintro rfl; simp at h0)
  have HDL := Lib.hid (deps_len T [1])
  clear hlen
  go_enter Tryz.func58, Tryz.ntmps58
  go_wp2_with fail
  refine (Depths_any T _ _ HN.out (by omega) HK.out).mono ?_
  rintro e w1 ⟨v, rfl, hown, hb1⟩
  obtain ⟨A1, c1, rfl⟩ := own_shape hown
  have HO1 := Lib.hid hown
  have HB1 := Lib.hid hb1
  have hnl := HDL.out
  generalize hD : Tr.deps T [1] = D at *
  generalize hn0 : D.length = n at *
  have HN0 := Lib.hid hn0
  clear hown hb1 hD hn0
  go_wp2_with fail
  go_loopw [6] (fun i wr => ∃ k : Nat, k ≤ T.length ∧ i = .int .i64 k ∧ Hid (Tr.firstBad n T 0 = Tr.firstBad n (T.drop k) k) ∧ Hid (Below w1.heap.size w1 wr)) (fun i _ => T.length - (intOf i).toNat)
  case atStart => exact ⟨0, Nat.zero_le _, rfl, Lib.hid (by rw [List.drop_zero]), Lib.hid (Below.refl _ _)⟩
  case round =>
    obtain ⟨k, hk, rfl, HF, HBr⟩ := hrel
    have HB2 := Lib.hid (below_later HBr.out HB1.out)
    by_cases hlt : k < T.length
    · obtain ⟨A2, c2, e2, _, hN⟩ := HN.out.later HB2.out
      simp only [Value.slice.injEq] at e2
      obtain ⟨rfl, _, rfl⟩ := e2
      obtain ⟨b, off, rfl, hM⟩ := hN (by omega)
      have hx : T[k]? = some T[k] := List.getElem?_eq_getElem hlt
      obtain ⟨n0, n1, n2, n3, n4, n5, n6, n7⟩ := hM.at_ hx
      have HZX := Lib.hid (HZ.out _ (List.mem_of_getElem? hx))
      have hdrop : T.drop k = T[k] :: T.drop (k + 1) := List.drop_eq_getElem_cons hlt
      rw [hdrop, Tr.firstBad_cons] at HF
      generalize T[k] = x at *
      clear hx hN hM hdrop
      go_wp2_with fail
      refine (rmay_any x _ HZX.out).mono ?_
      rintro e w3 ⟨rfl, hb3⟩
      have HB3 := Lib.hid (below_later hb3 HBr.out)
      have HB4 := Lib.hid (below_later hb3 HB2.out)
      clear hb3 n0 n1 n2 n3 n4 n5 n6 n7 HBr HB2
      cases hm : Tr.may x with
      | false =>
        have HG : Hid (Tr.refCheck T = (18, k)) := Lib.hid (by rw [HC.out, HF.out, hm]; rfl)
        clear hm
        go_wp2_with fail
        go_ret2
        exact Makes.mk (by rw [HG.out]; rfl) HB4.out
      | true =>
        by_cases hkn : k < n
        · have HF2 : Hid (Tr.firstBad n T 0 = Tr.firstBad n (T.drop (k + 1)) (k + 1)) := Lib.hid (by rw [HF.out, if_pos ⟨hm, hkn⟩])
          clear hm HF
          go_wp2_with fail
          go_roundw
          case rel => exact ⟨k + 1, by omega, by go_num, HF2, HB3⟩
          case measure => simp [intOf]; omega
        · have HG : Hid (Tr.refCheck T = (18, k)) := Lib.hid (by rw [HC.out, HF.out, if_neg (fun h => hkn h.2)])
          clear hm
          go_wp2_with fail
          go_ret2
          exact Makes.mk (by rw [HG.out]; rfl) HB4.out
    · have hkT : k = T.length := by omega
      have hnone : Tr.firstBad n T 0 = none := by rw [HF.out, hkT, List.drop_length]; rfl
      have hall := bad_all n T 0 hnone HNE.out
      have HC2 : Hid (Tr.refCheck T = if Tr.behind T 0 = T.length then (match Tr.firstDeep D 0 with | some j => (16, j) | none => (0, 0)) else (18, T.length)) := Lib.hid (by rw [HC.out, hnone])
      have HO2 := Lib.hid (own_later HO1.out HBr.out)
      have hnT : n = T.length := by omega
      clear HF HC hkT hnone hall HBr
      go_wp2_with fail
      refine (rBehind_any T _ 0 _ (HN.out.later HB2.out) (by omega)).mono ?_
      rintro e w3 ⟨rfl, rfl⟩
      by_cases hbe : Tr.behind T 0 = T.length
      · have HC3 : Hid (Tr.refCheck T = match Tr.firstDeep D 0 with | some j => (16, j) | none => (0, 0)) := Lib.hid (by rw [HC2.out, if_pos hbe])
        rw [hbe]
        clear HC2 hbe
        go_wp2_with fail
        go_loopw [8] (fun i wx => wr = wx ∧ ∃ j : Nat, j ≤ T.length ∧ i = .int .i64 j ∧ Hid (Tr.firstDeep D 0 = Tr.firstDeep (D.drop j) j)) (fun i _ => T.length - (intOf i).toNat)
        case atStart => exact ⟨rfl, 0, Nat.zero_le _, rfl, Lib.hid (by rw [List.drop_zero])⟩
        case round =>
          obtain ⟨rfl, j, hj, rfl, HF⟩ := hrel
          by_cases hjl : j < T.length
          · have hjD : j < D.length := by rw [HN0.out, hnT]; exact hjl
            obtain ⟨A3, c3, hv3, hl3, hA3⟩ := own_form HO2.out
            simp only [Value.slice.injEq] at hv3
            obtain ⟨rfl, _, rfl⟩ := hv3
            obtain ⟨g, rfl, _, hc3⟩ := hA3 (by omega)
            have hdj : D[j]? = some D[j] := List.getElem?_eq_getElem hjD
            have n0 : wr.cell? ⟨g, j, none⟩ = some (.int .i64 (D[j] : Nat)) := hc3 j _ (by rw [List.getElem?_map, hdj]; rfl)
            have hdrop : D.drop j = D[j] :: D.drop (j + 1) := List.drop_eq_getElem_cons hjD
            rw [hdrop, Tr.firstDeep_cons] at HF
            generalize D[j] = y at *
            clear hdj hdrop hc3 hA3 hl3 hjD
            by_cases hy : 64 < y
            · have HG : Hid (Tr.refCheck T = (16, j)) := Lib.hid (by rw [HC3.out, HF.out, if_pos hy])
              clear HF
              go_wp2_with fail
              go_ret2
              exact Makes.mk (by rw [HG.out]; rfl) HB2.out
            · have HF2 : Hid (Tr.firstDeep D 0 = Tr.firstDeep (D.drop (j + 1)) (j + 1)) := Lib.hid (by rw [HF.out, if_neg hy])
              clear HF
              go_wp2_with fail
              go_roundw
              case rel => exact ⟨trivial, j + 1, by omega, by go_num, HF2⟩
              case measure => simp [intOf]; omega
          · have HG : Hid (Tr.refCheck T = (0, 0)) := Lib.hid (by
              rw [HC3.out, HF.out, List.drop_of_length_le (by rw [HN0.out]; omega)]; rfl)
            clear HF
            go_wp2_with fail
            go_ret2
            exact Makes.mk (by rw [HG.out]; rfl) HB2.out
      · have HG : Hid (Tr.refCheck T = (18, T.length)) := Lib.hid (by rw [HC2.out, if_neg hbe])
        have e1 : (((Tr.behind T 0 : Nat) : Int) != ((T.length : Nat) : Int)) = true := by rw [bne, beq_no (by omega)]; rfl
        clear HC2
        go_wp2_with fail
        go_ret2
        exact Makes.mk (by rw [HG.out]; rfl) HB2.out
end Go.Proofs.YtdobaililmkkcaaGreatDoor

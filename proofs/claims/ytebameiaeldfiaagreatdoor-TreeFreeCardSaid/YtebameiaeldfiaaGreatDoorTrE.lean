
/- Walks of trees, the document's: the two names of a function that calls itself. -/
import Derived.Test.YtebameiaeldfiaaGreatDoorTrB
namespace Go.Proofs.YtebameiaeldfiaaGreatDoor
set_option linter.unusedSimpArgs false
set_option linter.unusedVariables false
open Go.RowKit Go.Maps Culp

/-- What twoNames answers, with the names told. -/
def TwoNm (s : ByteArray) (w : World) (e : Ending) (w' : World) : Prop := ∃ a b : ByteArray, e = .returned (.tuple #[.string a, .string b, .bool (Tr.twoOk s.data.toList)]) ∧ (∀ x y, Tr.two s.data.toList = some (x, y) → a = ⟨x.toArray⟩ ∧ b = ⟨y.toArray⟩) ∧ Below w.heap.size w w'
set_option maxRecDepth 100000 in
set_option maxHeartbeats 1600000 in
theorem rTwo_names (s : ByteArray) (w : World) (hs : s.size ≤ 140737488351232) : Calls Tryz.prog 89 #[.string s] w (TwoNm s w) := by
  go_enter Tryz.func89, Tryz.ntmps89
  go_wp2_with fail
  go_loop [5] (fun i => ∃ k : Nat, k ≤ s.size ∧ i = .int .i64 k ∧ Hid (∀ j : Nat, j < k → s.data.toList[j]? ≠ some 32)) (fun i => s.size - (intOf i).toNat)
  case atStart => exact ⟨0, Nat.zero_le _, rfl, Lib.hid (fun j hj => by omega)⟩
  case round =>
    obtain ⟨k, hk, rfl, HN⟩ := hrel
    by_cases hlt : k < s.size
    · have hg := get_byte' s k hlt
      by_cases hc : s[k].toNat = 32
      · have e32 := eq_lit (n := s[k].toNat) (z := 32) (by omega)
        have h32 : s.data.toList[k]? = some 32 := by rw [hg]; congr 1; exact UInt8.toNat_inj.1 hc
        have HT := Lib.hid (Tr.twoOk_some (Tr.two_some _ k h32 HN.out))
        have HNS : Hid (∀ x y, Tr.two s.data.toList = some (x, y) → s.extract 0 k = ⟨x.toArray⟩ ∧ s.extract (k + 1) s.size = ⟨y.toArray⟩) := Lib.hid (by
          intro x y hxy
          rw [Tr.two_some _ k h32 HN.out] at hxy
          simp only [Option.some.injEq, Prod.mk.injEq] at hxy
          obtain ⟨rfl, rfl⟩ := hxy
          exact ⟨take_ext _ _, drop_ext _ _⟩)
        have r1 : IntKind.i64.wrap ((k : Int) + 1) = (k : Int) + 1 := IntWalk.i64_in _ (by omega)
        have HZ1 : Hid ((s.extract 0 k).size ≤ 140737488351232) := Lib.hid (by rw [take_ext, bs_size, List.length_take, size_list]; omega)
        have HZ2 : Hid ((s.extract (k + 1) s.size).size ≤ 140737488351232) := Lib.hid (by rw [drop_ext, bs_size, List.length_drop, size_list]; omega)
        have h1 : (s.extract 0 k).data.toList = s.data.toList.take k := by rw [take_ext, bs_list]
        have h2 : (s.extract (k + 1) s.size).data.toList = s.data.toList.drop (k + 1) := by rw [drop_ext, bs_list]
        clear hg hc h32 HN
        cases ha : Tx.isName (s.data.toList.take k) with
        | false =>
          have HA : Hid (Tx.isName (s.extract 0 k).data.toList = false) := Lib.hid (by rw [h1]; exact ha)
          rw [ha] at HT
          clear h1 h2 ha
          go_wp2_with fail
          refine wp_region_plan (S := fun w' => Below w.heap.size w w') [(0, true), (1, true), (2, true), (3, true), (4, true), (5, true), (6, true), (7, true), (8, true), (9, true), (10, false), (11, true), (12, true), (13, true), (14, true), (15, true), (16, false), (17, true), (18, true), (19, true), (20, true)] (by kernel_rfl) (by kernel_rfl) (by kernel_rfl) (fun _ _ _ _ _ h => h) (Below.refl _ _).drew ?_
          intro HS
          repeat (first | (apply wpPlan_look; rfl; rfl; (intro wq hq; (try dsimp only at hq); go_split_ands; go_simp; (try rw [if_neg (by omega)]); (try rw [if_pos (by omega)]); try with_reducible rfl); simp only [Act.put, List.setIfInBounds_toArray, List.set_cons_zero, List.set_cons_succ]) | (apply wpPlan_skip; rfl; rfl; simp only [Act.put, List.setIfInBounds_toArray, List.set_cons_zero, List.set_cons_succ]) | (apply wpPlan_pass; rfl; rfl; assumption; simp only [Act.put, List.setIfInBounds_toArray, List.set_cons_zero, List.set_cons_succ]))
          apply wpPlan_call; rfl; rfl; rfl; rfl; kernel_rfl; exact rIsName_any (s.extract 0 k) _ HZ1.out; rfl; rintro e w2 ⟨rfl, hb2⟩
          rw [HA.out]
          have HS2 := below_later hb2 HS
          refine ⟨_, rfl, HS2, ?_⟩
          clear HS hb2
          simp only [Act.put, List.setIfInBounds_toArray, List.set_cons_zero, List.set_cons_succ]
          repeat (first | (apply wpPlan_look; rfl; rfl; (intro wq hq; (try dsimp only at hq); go_split_ands; go_simp; (try rw [if_neg (by omega)]); (try rw [if_pos (by omega)]); try with_reducible rfl); simp only [Act.put, List.setIfInBounds_toArray, List.set_cons_zero, List.set_cons_succ]) | (apply wpPlan_skip; rfl; rfl; simp only [Act.put, List.setIfInBounds_toArray, List.set_cons_zero, List.set_cons_succ]) | (apply wpPlan_pass; rfl; rfl; assumption; simp only [Act.put, List.setIfInBounds_toArray, List.set_cons_zero, List.set_cons_succ]))
          apply wpPlan_done
          go_wp2_with fail
          go_ret3
          exact ⟨s.extract 0 k, s.extract (k + 1) s.size, by rw [HT.out]; rfl, HNS.out, HS2⟩
        | true =>
          have HA : Hid (Tx.isName (s.extract 0 k).data.toList = true) := Lib.hid (by rw [h1]; exact ha)
          rw [ha, Bool.true_and, ← h2] at HT
          clear h1 h2 ha
          go_wp2_with fail
          refine wp_region_plan (S := fun w' => Below w.heap.size w w') [(0, true), (1, true), (2, true), (3, true), (4, true), (5, true), (6, true), (7, true), (8, true), (9, true), (10, false), (11, true), (12, true), (13, true), (14, true), (15, true), (16, false), (17, true), (18, true), (19, true), (20, true)] (by kernel_rfl) (by kernel_rfl) (by kernel_rfl) (fun _ _ _ _ _ h => h) (Below.refl _ _).drew ?_
          intro HS
          repeat (first | (apply wpPlan_look; rfl; rfl; (intro wq hq; (try dsimp only at hq); go_split_ands; go_simp; (try rw [if_neg (by omega)]); (try rw [if_pos (by omega)]); try with_reducible rfl); simp only [Act.put, List.setIfInBounds_toArray, List.set_cons_zero, List.set_cons_succ]) | (apply wpPlan_skip; rfl; rfl; simp only [Act.put, List.setIfInBounds_toArray, List.set_cons_zero, List.set_cons_succ]) | (apply wpPlan_pass; rfl; rfl; assumption; simp only [Act.put, List.setIfInBounds_toArray, List.set_cons_zero, List.set_cons_succ]))
          apply wpPlan_call; rfl; rfl; rfl; rfl; kernel_rfl; exact rIsName_any (s.extract 0 k) _ HZ1.out; rfl; rintro e w2 ⟨rfl, hb2⟩
          rw [HA.out]
          have HS2 := below_later hb2 HS
          refine ⟨_, rfl, HS2, ?_⟩
          clear HS hb2
          simp only [Act.put, List.setIfInBounds_toArray, List.set_cons_zero, List.set_cons_succ]
          repeat (first | (apply wpPlan_look; rfl; rfl; (intro wq hq; (try dsimp only at hq); go_split_ands; go_simp; (try rw [if_neg (by omega)]); (try rw [if_pos (by omega)]); try with_reducible rfl); simp only [Act.put, List.setIfInBounds_toArray, List.set_cons_zero, List.set_cons_succ]) | (apply wpPlan_skip; rfl; rfl; simp only [Act.put, List.setIfInBounds_toArray, List.set_cons_zero, List.set_cons_succ]) | (apply wpPlan_pass; rfl; rfl; assumption; simp only [Act.put, List.setIfInBounds_toArray, List.set_cons_zero, List.set_cons_succ]))
          apply wpPlan_call; rfl; rfl; rfl; rfl; kernel_rfl; exact rIsName_any (s.extract (k + 1) s.size) _ HZ2.out; rfl; rintro e w3 ⟨rfl, hb3⟩
          rw [← HT.out]
          have HS3 := below_later hb3 HS2
          refine ⟨_, rfl, HS3, ?_⟩
          clear HS2 hb3
          simp only [Act.put, List.setIfInBounds_toArray, List.set_cons_zero, List.set_cons_succ]
          repeat (first | (apply wpPlan_look; rfl; rfl; (intro wq hq; (try dsimp only at hq); go_split_ands; go_simp; (try rw [if_neg (by omega)]); (try rw [if_pos (by omega)]); try with_reducible rfl); simp only [Act.put, List.setIfInBounds_toArray, List.set_cons_zero, List.set_cons_succ]) | (apply wpPlan_skip; rfl; rfl; simp only [Act.put, List.setIfInBounds_toArray, List.set_cons_zero, List.set_cons_succ]) | (apply wpPlan_pass; rfl; rfl; assumption; simp only [Act.put, List.setIfInBounds_toArray, List.set_cons_zero, List.set_cons_succ]))
          apply wpPlan_done
          go_wp2_with fail
          go_ret3
          exact ⟨s.extract 0 k, s.extract (k + 1) s.size, rfl, HNS.out, HS3⟩
      · have e32 := ne_lit (n := s[k].toNat) (z := 32) (by omega)
        have HN2 : Hid (∀ j : Nat, j < k + 1 → s.data.toList[j]? ≠ some 32) := Lib.hid (fun j hj => by
          rcases Nat.lt_or_ge j k with h | h
          · exact HN.out j h
          · obtain rfl : j = k := by omega
            rw [hg]; intro e
            injection e with e
            exact hc (by rw [e]; rfl))
        clear hg hc HN
        go_wp2_with fail
        go_round
        case rel => exact ⟨k + 1, by omega, by go_num, HN2⟩
        case measure => simp [intOf]; omega
    · have HTN := Lib.hid (Tr.two_none s.data.toList (fun j => by
        rcases Nat.lt_or_ge j k with h | h
        · exact HN.out j h
        · rw [List.getElem?_eq_none (by rw [size_list]; omega)]; simp))
      have HT := Lib.hid (Tr.twoOk_none HTN.out)
      clear HN
      go_wp2_with fail
      go_ret3
      exact ⟨{ data := #[] }, { data := #[] }, by rw [HT.out]; rfl, (fun x y h => by rw [HTN.out] at h; cases h), Below.refl _ _⟩
theorem rTwo_any (s : ByteArray) (w : World) (hs : s.size ≤ 140737488351232) : Calls Tryz.prog 89 #[.string s] w (TwoRes s w) :=
  (rTwo_names s w hs).mono fun _ _ ⟨a, b, h1, _, h2⟩ => ⟨a, b, h1, h2⟩
end Go.Proofs.YtebameiaeldfiaaGreatDoor

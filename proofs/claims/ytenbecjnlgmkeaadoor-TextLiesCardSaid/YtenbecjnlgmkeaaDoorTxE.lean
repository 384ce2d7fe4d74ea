/- Walks of package text: the reader's letters, blanks, places. -/
import Derived.Test.YtenbecjnlgmkeaaDoorTxD
namespace Go.Proofs.YtenbecjnlgmkeaaDoor
set_option linter.unusedSimpArgs false
set_option linter.unusedVariables false
open Go.RowKit Culp

set_option maxHeartbeats 800000 in
theorem trun_any (s : ByteArray) (r b o c : Nat) (m : Value) (at_ : Nat) (line beg : Int) (w : World) (hr : Rd r (.slice (some ⟨b, o, none⟩) s.size c) at_ line beg m w) (hB : Lib.Bytes w b o s) (hc : s.size ≤ c) (hat : at_ < s.size) (hin : Tx.inner s[at_] = true) (hs : s.size ≤ 1000000000000000) :
    Calls Tryd.prog 47 #[.pointer (some ⟨r, 0, none⟩)] w (Makes (.string (bs (Tx.run (s.data.toList.drop at_)))) w) := by
  have HB := Lib.hid hB
  have HI := Lib.hid hin
  have q0 := hr.c0
  have q1 := hr.c1
  clear hB hin hr
  go_enter Tryd.func47, Tryd.ntmps47
  go_wp2_with fail
  go_loop [3] (fun i => ∃ k : Nat, at_ ≤ k ∧ k ≤ s.size ∧ i = .int .i64 k ∧ Hid (∀ i (h : i < s.size), at_ ≤ i → i < k → Tx.inner s[i] = true)) (fun i => s.size - (intOf i).toNat)
  case atStart => exact ⟨at_, Nat.le_refl _, by omega, rfl, Lib.hid (fun i h h1 h2 => by omega)⟩
  case round =>
    obtain ⟨k, hk1, hk2, rfl, HA⟩ := hrel
    by_cases hlt : k < s.size
    · have hcell := HB.out k hlt
      cases hik : Tx.inner s[k]
      · have hgt : at_ < k := by
          rcases Nat.lt_or_ge at_ k with h | h
          · exact h
          · have : at_ = k := by omega
            subst this
            rw [HI.out] at hik; cases hik
        have HE := Lib.hid (run_ends hk1 hk2 HA.out (fun _ => hik))
        have HK := Lib.hid hik
        clear hik
        go_wp2_with fail
        refine (inner_any s[k] _).mono ?_
        rw [HK.out]
        rintro e w' ⟨rfl, rfl⟩
        go_wp2_with fail
        refine wp_region_plan (S := fun w' => w'.cell? ⟨r, 0, none⟩ = some (.slice (some ⟨b, o, none⟩) s.size c) ∧ w'.cell? ⟨r, 1, none⟩ = some (.int .i64 at_) ∧
            (Instr.slice 22 (.slice (some ⟨b, o, none⟩) s.size c) (some (.int .i64 (at_ : Int))) (some (.int .i64 (k : Int))) none).run Tryd.prog w' = .ok (.slice (some ⟨b, o + at_, none⟩) (k - at_) (c - at_)) w' ∧
            (convert 22 9 (.slice (some ⟨b, o + at_, none⟩) (k - at_) (c - at_))).run Tryd.prog w' = .ok (.string (bs ((s.data.toList.drop at_).take (k - at_)))) w')
          [(0, true), (1, true), (2, true), (3, true), (4, true), (5, true), (6, true), (7, true), (8, true), (9, true), (10, true), (11, true)] (by kernel_rfl) (by kernel_rfl) (by kernel_rfl) (fun _ _ _ _ _ h => h) ⟨q0, q1, cut_text w.drew b o s.size c at_ k s HB.out hgt hk2 hc⟩ ?_
        intro HS
        repeat (first | (apply wpPlan_look; rfl; rfl; (intro wq hq; (try dsimp only at hq); go_split_ands; go_simp; (try rw [if_neg (by omega)]); (try rw [if_pos (by omega)]); try with_reducible rfl); simp only [Act.put, List.setIfInBounds_toArray, List.set_cons_zero, List.set_cons_succ]) | (apply wpPlan_skip; rfl; rfl; simp only [Act.put, List.setIfInBounds_toArray, List.set_cons_zero, List.set_cons_succ]) | (apply wpPlan_pass; rfl; rfl; assumption; simp only [Act.put, List.setIfInBounds_toArray, List.set_cons_zero, List.set_cons_succ]))
        apply wpPlan_done
        go_wp2_with fail
        go_ret
        exact Makes.mk (by rw [HE.out]; rfl) ((Below.refl _ _).drew)
      · have HN : Hid (∀ i (h : i < s.size), at_ ≤ i → i < k + 1 → Tx.inner s[i] = true) := Lib.hid (fun i h h1 h2 => by
          by_cases e : i = k
          · subst e; exact hik
          · exact HA.out i h h1 (by omega))
        have HK := Lib.hid hik
        clear hik
        go_wp2_with fail
        refine (inner_any s[k] _).mono ?_
        rw [HK.out]
        rintro e w' ⟨rfl, rfl⟩
        go_wp2_with fail
        go_round
        case rel => exact ⟨k + 1, by omega, by omega, by go_num, HN⟩
        case measure => simp [intOf]; omega
    · have hgt : at_ < k := by omega
      have HE := Lib.hid (run_ends hk1 hk2 HA.out (fun h => absurd h hlt))
      go_wp2_with fail
      refine wp_region_plan (S := fun w' => w'.cell? ⟨r, 0, none⟩ = some (.slice (some ⟨b, o, none⟩) s.size c) ∧ w'.cell? ⟨r, 1, none⟩ = some (.int .i64 at_) ∧
          (Instr.slice 22 (.slice (some ⟨b, o, none⟩) s.size c) (some (.int .i64 (at_ : Int))) (some (.int .i64 (k : Int))) none).run Tryd.prog w' = .ok (.slice (some ⟨b, o + at_, none⟩) (k - at_) (c - at_)) w' ∧
          (convert 22 9 (.slice (some ⟨b, o + at_, none⟩) (k - at_) (c - at_))).run Tryd.prog w' = .ok (.string (bs ((s.data.toList.drop at_).take (k - at_)))) w')
        [(0, true), (1, true), (2, true), (3, true), (4, true), (5, true), (6, true), (7, true), (8, true), (9, true), (10, true), (11, true)] (by kernel_rfl) (by kernel_rfl) (by kernel_rfl) (fun _ _ _ _ _ h => h) ⟨q0, q1, cut_text w.drew b o s.size c at_ k s HB.out hgt hk2 hc⟩ ?_
      intro HS
      repeat (first | (apply wpPlan_look; rfl; rfl; (intro wq hq; (try dsimp only at hq); go_split_ands; go_simp; (try rw [if_neg (by omega)]); (try rw [if_pos (by omega)]); try with_reducible rfl); simp only [Act.put, List.setIfInBounds_toArray, List.set_cons_zero, List.set_cons_succ]) | (apply wpPlan_skip; rfl; rfl; simp only [Act.put, List.setIfInBounds_toArray, List.set_cons_zero, List.set_cons_succ]) | (apply wpPlan_pass; rfl; rfl; assumption; simp only [Act.put, List.setIfInBounds_toArray, List.set_cons_zero, List.set_cons_succ]))
      apply wpPlan_done
      go_wp2_with fail
      go_ret
      exact Makes.mk (by rw [HE.out]; rfl) ((Below.refl _ _).drew)
end Go.Proofs.YtenbecjnlgmkeaaDoor

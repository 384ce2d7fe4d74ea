/- What the statement TextTokens leans on: bytes and lists of tokens that are alike. -/
import Derived.Test.YtenbecjnlgmkeaaDoorTyI
namespace Go.Proofs.YtenbecjnlgmkeaaDoor
set_option linter.unusedSimpArgs false
set_option linter.unusedVariables false
open Go.RowKit Go.Maps Culp

set_option maxRecDepth 100000 in
set_option maxHeartbeats 1600000 in
theorem alike_same (M : List ((Tx.Tk × (Nat × Nat)) × (Nat × Nat))) (u v : Value) (w : World) (hu : Toks w u (M.map Prod.fst)) (hv : RToks w v M) (hL : M.length ≤ 1000000) :
    Calls Tryd.prog 14 #[u, v] w (Makes (.bool true) w) := by
  obtain ⟨A, c, rfl, hA⟩ := hu
  obtain ⟨B, d, rfl, hB⟩ := hv
  rw [List.length_map] at hA ⊢
  have HA := Lib.hid hA
  have HB := Lib.hid hB
  clear hA hB
  go_enter Tryd.func14, Tryd.ntmps14
  go_wp2_with fail
  go_loopw [5] (fun i wr => ∃ k : Nat, k ≤ M.length ∧ i = .int .i64 k ∧ Hid (Below w.heap.size w wr)) (fun i _ => M.length - (intOf i).toNat)
  case atStart => exact ⟨0, Nat.zero_le _, rfl, Lib.hid (Below.refl _ _)⟩
  case round =>
    obtain ⟨k, hk, rfl, HBE⟩ := hrel
    by_cases hlt : k < M.length
    · obtain ⟨g, o, rfl, hA⟩ := HA.out (by omega)
      obtain ⟨g2, o2, rfl, hB⟩ := HB.out (by omega)
      have hy : M[k]? = some M[k] := List.getElem?_eq_getElem hlt
      have hx : (M.map Prod.fst)[k]? = some M[k].1 := by rw [List.getElem?_map, hy]; rfl
      have a0 := cell_later HBE.out (hA k _ hx 0 _ rfl)
      have a1 := cell_later HBE.out (hA k _ hx 1 _ rfl)
      have a2 := cell_later HBE.out (hA k _ hx 2 _ rfl)
      have a3 := cell_later HBE.out (hA k _ hx 3 _ rfl)
      have a4 := cell_later HBE.out (hA k _ hx 4 _ rfl)
      have b0 := cell_later HBE.out (hB k _ hy 0 _ rfl)
      have b1 := cell_later HBE.out (hB k _ hy 1 _ rfl)
      have b2 := cell_later HBE.out (hB k _ hy 2 _ rfl)
      have b3 := cell_later HBE.out (hB k _ hy 3 _ rfl)
      have b4 := cell_later HBE.out (hB k _ hy 4 _ rfl)
      rw [Nat.add_zero] at a0 b0
      generalize M[k] = y at *
      clear hx hy hA hB
      go_wp2_with fail
      refine wp_region_plan (S := fun w' => (w'.cell? ⟨g, o + k * 5, none⟩ = some (.int .i8 y.1.1.kind) ∧ w'.cell? ⟨g, o + k * 5 + 1, none⟩ = some (.int .i64 y.1.1.n) ∧ w'.cell? ⟨g, o + k * 5 + 2, none⟩ = some (.string (bs y.1.1.s)) ∧ w'.cell? ⟨g, o + k * 5 + 3, none⟩ = some (.int .i64 y.1.2.1) ∧ w'.cell? ⟨g, o + k * 5 + 4, none⟩ = some (.int .i64 y.1.2.2)) ∧
          (w'.cell? ⟨g2, o2 + k * 7, none⟩ = some (.int .i8 y.1.1.kind) ∧ w'.cell? ⟨g2, o2 + k * 7 + 1, none⟩ = some (.int .i64 y.1.1.n) ∧ w'.cell? ⟨g2, o2 + k * 7 + 2, none⟩ = some (.string (bs y.1.1.s)) ∧ w'.cell? ⟨g2, o2 + k * 7 + 3, none⟩ = some (.int .i64 y.1.2.1) ∧ w'.cell? ⟨g2, o2 + k * 7 + 4, none⟩ = some (.int .i64 y.1.2.2)))
        [(0, true), (1, true), (2, true), (3, true), (4, true), (5, true), (6, true), (7, true), (8, true), (9, true), (10, true), (11, true), (12, true), (13, true), (14, true), (15, true), (16, true), (17, true), (18, true), (19, true), (20, true), (21, true), (22, true), (23, true), (24, true), (25, true), (26, true), (27, true), (28, true), (29, true), (30, true), (31, true), (32, true), (33, true), (34, true), (35, true), (36, true), (37, true), (38, true), (39, true), (40, true), (41, true), (42, true), (43, true), (44, true), (45, true), (46, true), (47, true), (48, true), (49, true)] (by kernel_rfl) (by kernel_rfl) (by kernel_rfl) (fun _ _ _ _ _ h => h) ⟨⟨a0, a1, a2, a3, a4⟩, ⟨b0, b1, b2, b3, b4⟩⟩ ?_
      intro HS
      repeat (first | (apply wpPlan_look; rfl; rfl; (intro wq hq; (try dsimp only at hq); go_split_ands; go_simp; (try rw [if_neg (by omega)]); (try rw [if_pos (by omega)]); try with_reducible rfl); simp only [Act.put, List.setIfInBounds_toArray, List.set_cons_zero, List.set_cons_succ]) | (apply wpPlan_skip; rfl; rfl; simp only [Act.put, List.setIfInBounds_toArray, List.set_cons_zero, List.set_cons_succ]) | (apply wpPlan_pass; rfl; rfl; assumption; simp only [Act.put, List.setIfInBounds_toArray, List.set_cons_zero, List.set_cons_succ]))
      apply wpPlan_done
      go_wp2_with fail
      go_roundw
      case rel => exact ⟨k + 1, by omega, by go_num, Lib.hid HBE.out.drew⟩
      case measure => simp [intOf]; omega
    · go_wp2_with fail
      go_ret
      exact Makes.mk rfl HBE.out
set_option maxRecDepth 100000 in
set_option maxHeartbeats 1600000 in
theorem EqBytes_same (s : ByteArray) (u v : Value) (w : World) (hu : BytesV w u s) (hv : BytesV w v s) (hs : s.size ≤ 1000000000000000) :
    Calls Tryd.prog 15 #[u, v] w (Makes (.bool true) w) := by
  obtain ⟨A, c, rfl, _, hA⟩ := hu
  obtain ⟨B, d, rfl, _, hB⟩ := hv
  have HA := Lib.hid hA
  have HB := Lib.hid hB
  clear hA hB
  go_enter Tryd.func15, Tryd.ntmps15
  go_wp2_with fail
  go_loopw [5] (fun i wr => ∃ k : Nat, k ≤ s.size ∧ i = .int .i64 k ∧ Hid (Below w.heap.size w wr)) (fun i _ => s.size - (intOf i).toNat)
  case atStart => exact ⟨0, Nat.zero_le _, rfl, Lib.hid (Below.refl _ _)⟩
  case round =>
    obtain ⟨k, hk, rfl, HBE⟩ := hrel
    by_cases hlt : k < s.size
    · obtain ⟨g, o, rfl, hA⟩ := HA.out (by omega)
      obtain ⟨g2, o2, rfl, hB⟩ := HB.out (by omega)
      have a0 := cell_later HBE.out (hA k hlt)
      have b0 := cell_later HBE.out (hB k hlt)
      generalize (s[k].toNat : Int) = x at *
      clear hA hB
      go_wp2_with fail
      refine wp_region_plan (S := fun w' => w'.cell? ⟨g, o + k, none⟩ = some (.int .u8 x) ∧ w'.cell? ⟨g2, o2 + k, none⟩ = some (.int .u8 x))
        [(0, true), (1, true), (2, true), (3, true), (4, true), (5, true), (6, true), (7, true), (8, true)] (by kernel_rfl) (by kernel_rfl) (by kernel_rfl) (fun _ _ _ _ _ h => h) ⟨a0, b0⟩ ?_
      intro HS
      repeat (first | (apply wpPlan_look; rfl; rfl; (intro wq hq; (try dsimp only at hq); go_split_ands; go_simp; (try rw [if_neg (by omega)]); (try rw [if_pos (by omega)]); try with_reducible rfl); simp only [Act.put, List.setIfInBounds_toArray, List.set_cons_zero, List.set_cons_succ]) | (apply wpPlan_skip; rfl; rfl; simp only [Act.put, List.setIfInBounds_toArray, List.set_cons_zero, List.set_cons_succ]) | (apply wpPlan_pass; rfl; rfl; assumption; simp only [Act.put, List.setIfInBounds_toArray, List.set_cons_zero, List.set_cons_succ]))
      apply wpPlan_done
      go_wp2_with fail
      go_roundw
      case rel => exact ⟨k + 1, by omega, by go_num, Lib.hid HBE.out.drew⟩
      case measure => simp [intOf]; omega
    · go_wp2_with fail
      go_ret
      exact Makes.mk rfl HBE.out
end Go.Proofs.YtenbecjnlgmkeaaDoor

/- What the statement TextLies leans on: lists of tokens alike but for their places. -/
import Derived.Test.YtenbecjnlgmkeaaDoorTyN
namespace Go.Proofs.YtenbecjnlgmkeaaDoor
set_option linter.unusedSimpArgs false
set_option linter.unusedVariables false
open Go.RowKit Go.Maps Culp

set_option maxRecDepth 100000 in
set_option maxHeartbeats 1600000 in
theorem butPlaces_same (L M : List (Tx.Tk × (Nat × Nat))) (u v : Value) (w : World) (hu : Toks w u L) (hv : Toks w v M) (hLM : L.map Prod.fst = M.map Prod.fst) (hL : L.length ≤ 1000000) :
    Calls Tryd.prog 21 #[u, v] w (Makes (.bool true) w) := by
  obtain ⟨A, c, rfl, hA⟩ := hu
  obtain ⟨B, d, rfl, hB⟩ := hv
  have hlen : M.length = L.length := by have := congrArg List.length hLM; simpa using this.symm
  rw [hlen] at hB ⊢
  have HA := Lib.hid hA
  have HB := Lib.hid hB
  have HLM := Lib.hid hLM
  have HLN := Lib.hid hlen
  clear hA hB hLM hlen
  go_enter Tryd.func21, Tryd.ntmps21
  go_wp2_with fail
  go_loopw [5] (fun i wr => ∃ k : Nat, k ≤ L.length ∧ i = .int .i64 k ∧ Hid (Below w.heap.size w wr)) (fun i _ => L.length - (intOf i).toNat)
  case atStart => exact ⟨0, Nat.zero_le _, rfl, Lib.hid (Below.refl _ _)⟩
  case round =>
    obtain ⟨k, hk, rfl, HBE⟩ := hrel
    by_cases hlt : k < L.length
    · obtain ⟨g, o, rfl, hA⟩ := HA.out (by omega)
      obtain ⟨g2, o2, rfl, hB⟩ := HB.out (by omega)
      have hx : L[k]? = some L[k] := List.getElem?_eq_getElem hlt
      obtain ⟨y, hy, hxy⟩ : ∃ y, M[k]? = some y ∧ y.1 = L[k].1 := by
        have h := congrArg (fun l => l[k]?) HLM.out
        simp only [List.getElem?_map, hx, Option.map_some] at h
        cases hm : M[k]? with
        | none => rw [hm] at h; cases h
        | some y => rw [hm] at h; injection h with h; exact ⟨y, rfl, h.symm⟩
      have a0 := cell_later HBE.out (hA k _ hx 0 _ rfl)
      have a1 := cell_later HBE.out (hA k _ hx 1 _ rfl)
      have a2 := cell_later HBE.out (hA k _ hx 2 _ rfl)
      have b0 := cell_later HBE.out (hB k _ hy 0 _ rfl)
      have b1 := cell_later HBE.out (hB k _ hy 1 _ rfl)
      have b2 := cell_later HBE.out (hB k _ hy 2 _ rfl)
      rw [Nat.add_zero] at a0 b0
      replace b0 : wr.cell? ⟨g2, o2 + k * 5, none⟩ = some (.int .i8 y.1.kind) := b0
      replace b1 : wr.cell? ⟨g2, o2 + k * 5 + 1, none⟩ = some (.int .i64 y.1.n) := b1
      replace b2 : wr.cell? ⟨g2, o2 + k * 5 + 2, none⟩ = some (.string (bs y.1.s)) := b2
      rw [hxy] at b0 b1 b2
      generalize L[k] = x at *
      clear hx hy hxy hA hB
      go_wp2_with fail
      refine wp_region_plan (S := fun w' => (w'.cell? ⟨g, o + k * 5, none⟩ = some (.int .i8 x.1.kind) ∧ w'.cell? ⟨g, o + k * 5 + 1, none⟩ = some (.int .i64 x.1.n) ∧ w'.cell? ⟨g, o + k * 5 + 2, none⟩ = some (.string (bs x.1.s))) ∧
          (w'.cell? ⟨g2, o2 + k * 5, none⟩ = some (.int .i8 x.1.kind) ∧ w'.cell? ⟨g2, o2 + k * 5 + 1, none⟩ = some (.int .i64 x.1.n) ∧ w'.cell? ⟨g2, o2 + k * 5 + 2, none⟩ = some (.string (bs x.1.s))))
        [(0, true), (1, true), (2, true), (3, true), (4, true), (5, true), (6, true), (7, true), (8, true), (9, true), (10, true), (11, true), (12, true), (13, true), (14, true), (15, true), (16, true), (17, true), (18, true), (19, true), (20, true), (21, true), (22, true), (23, true), (24, true), (25, true), (26, true), (27, true), (28, true), (29, true), (30, true), (31, true), (32, true), (33, true), (34, true), (35, true), (36, true)] (by kernel_rfl) (by kernel_rfl) (by kernel_rfl) (fun _ _ _ _ _ h => h) ⟨⟨a0, a1, a2⟩, ⟨b0, b1, b2⟩⟩ ?_
      intro HS
      repeat (first | (apply wpPlan_look; rfl; rfl; (intro wq hq; (try dsimp only at hq); go_split_ands; go_simp; (try rw [if_neg (by omega)]); (try rw [if_pos (by omega)]); try with_reducible rfl); simp only [Act.put, List.setIfInBounds_toArray, List.set_cons_zero, List.set_cons_succ]) | (apply wpPlan_skip; rfl; rfl; simp only [Act.put, List.setIfInBounds_toArray, List.set_cons_zero, List.set_cons_succ]) | (apply wpPlan_pass; rfl; rfl; assumption; simp only [Act.put, List.setIfInBounds_toArray, List.set_cons_zero, List.set_cons_succ]))
      apply wpPlan_done
      go_wp2_with fail
      go_roundw
      case rel => exact ⟨k + 1, by omega, by go_num, Lib.hid HBE.out.drew⟩
      case measure => simp [intOf]; omega
    · go_wp2_with fail
      go_ret
      exact Makes.mk rfl HBE.out
end Go.Proofs.YtenbecjnlgmkeaaDoor


/- Walks of the statement EraseSlots: are the slots of both alike? -/
import Derived.Test.YtidholghbjljaaaGreatDoorXg
namespace Culp.Er
set_option linter.unusedSimpArgs false
set_option linter.unusedVariables false
open Go Go.RowKit Culp
/-- A row of the document's slots, as it is read. -/
theorem doc_row {w : World} {base : Nat} {e : TypeId} {v : Value} {S : List Sl} {f : Pos → ByteArray} (h : w.ownsRow base e 8 v S.length (docs S f)) (hn : 0 < S.length) : ∃ g cap, v = .slice (some ⟨g, 0, none⟩) S.length cap ∧ ∀ W, Below w.heap.size w W → ∀ (k : Nat) s, S[k]? = some s →
    W.cell? ⟨g, k * 8, none⟩ = some (.string s.mod) ∧ W.cell? ⟨g, k * 8 + 1, none⟩ = some (.bool s.imp) ∧ W.cell? ⟨g, k * 8 + 2, none⟩ = some (.int .i64 s.item) ∧ W.cell? ⟨g, k * 8 + 3, none⟩ = some (.int .i64 s.node) ∧ W.cell? ⟨g, k * 8 + 4, none⟩ = some (.bool s.res) ∧ W.cell? ⟨g, k * 8 + 5, none⟩ = some (.string (f s.pos)) := by
  obtain ⟨g, cap, rfl, -, hc⟩ := own_at h hn
  refine ⟨g, cap, rfl, fun W hW k s hs => ?_⟩
  have K : ∀ j u, (docC s (f s.pos))[j]? = some u → W.cell? ⟨g, k * 8 + j, none⟩ = some u := fun j u hu => cell_later hW (hc _ _ (flat_at (fun s => docC s (f s.pos)) 8 (fun _ => rfl) S k s j u hs hu))
  exact ⟨K 0 _ rfl, K 1 _ rfl, K 2 _ rfl, K 3 _ rfl, K 4 _ rfl, K 5 _ rfl⟩
end Culp.Er
namespace Go.Proofs.YtidholghbjljaaaGreatDoor
open Go.RowKit Go.Maps Culp Culp.Er
set_option maxRecDepth 100000 in
set_option maxHeartbeats 3200000 in
theorem lalike_any (S : List Sl) (f : Pos → ByteArray) (u v : Value) (b1 b2 : Nat) (w : World) (hu : w.ownsRow b1 42 6 u S.length (S.flatMap fun s => slotC s (f s.pos))) (hv : w.ownsRow b2 38 8 v S.length (docs S f)) (hS : S.length ≤ 1000000000) :
    Calls Tryz.prog 14 #[u, v] w (Makes (.bool true) w) := by
  rcases Nat.eq_zero_or_pos S.length with h0 | h0
  · obtain ⟨A, c, rfl⟩ := own_shape hu
    obtain ⟨B, d, rfl⟩ := own_shape hv
    rw [h0]
    clear hu hv
    go_enter Tryz.func14, Tryz.ntmps14
    go_wp2_with fail
    go_loopw [5] (fun i wr => i = .int .i64 0 ∧ Hid (Below w.heap.size w wr)) (fun _ _ => 0)
    case atStart => exact ⟨rfl, Lib.hid (Below.refl _ _)⟩
    case round =>
      obtain ⟨rfl, HB⟩ := hrel
      go_wp2_with fail
      go_ret
      exact Makes.mk rfl HB.out
  obtain ⟨g1, c1, rfl, hr1⟩ := slot_row hu h0
  obtain ⟨g2, c2, rfl, hr2⟩ := doc_row hv h0
  have HR1 := Lib.hid hr1
  have HR2 := Lib.hid hr2
  clear hu hv hr1 hr2
  go_enter Tryz.func14, Tryz.ntmps14
  go_wp2_with fail
  go_loopw [5] (fun i wr => ∃ k : Nat, k ≤ S.length ∧ i = .int .i64 k ∧ Hid (Below w.heap.size w wr)) (fun i _ => S.length - (intOf i).toNat)
  case atStart => exact ⟨0, Nat.zero_le _, rfl, Lib.hid (Below.refl _ _)⟩
  case round =>
    obtain ⟨k, hk, rfl, HB⟩ := hrel
    by_cases hlt : k < S.length
    · obtain ⟨s, hs⟩ : ∃ s, S[k]? = some s := ⟨_, List.getElem?_eq_getElem hlt⟩
      obtain ⟨a0, a1, a2, a3, a4, a5⟩ := HR1.out wr HB.out k s hs
      obtain ⟨b0, b1, b2, b3, b4, b5⟩ := HR2.out wr HB.out k s hs
      clear hs
      have HBD := Lib.hid HB.out.drew
      clear HB
      go_wp2_with fail
      refine wp_region_plan (S := fun w' => (w'.cell? ⟨g1, k * 6, none⟩ = some (.string s.mod) ∧ w'.cell? ⟨g1, k * 6 + 1, none⟩ = some (.bool s.imp) ∧ w'.cell? ⟨g1, k * 6 + 2, none⟩ = some (.int .i64 s.item) ∧ w'.cell? ⟨g1, k * 6 + 3, none⟩ = some (.int .i64 s.node) ∧ w'.cell? ⟨g1, k * 6 + 4, none⟩ = some (.bool s.res) ∧ w'.cell? ⟨g1, k * 6 + 5, none⟩ = some (.string (f s.pos))) ∧
          (w'.cell? ⟨g2, k * 8, none⟩ = some (.string s.mod) ∧ w'.cell? ⟨g2, k * 8 + 1, none⟩ = some (.bool s.imp) ∧ w'.cell? ⟨g2, k * 8 + 2, none⟩ = some (.int .i64 s.item) ∧ w'.cell? ⟨g2, k * 8 + 3, none⟩ = some (.int .i64 s.node) ∧ w'.cell? ⟨g2, k * 8 + 4, none⟩ = some (.bool s.res) ∧ w'.cell? ⟨g2, k * 8 + 5, none⟩ = some (.string (f s.pos))))
        [(0, true), (1, true), (2, true), (3, true), (4, true), (5, true), (6, true), (7, true), (8, true), (9, true), (10, true), (11, true), (12, true), (13, true), (14, true), (15, true), (16, true), (17, true), (18, true), (19, true), (20, true), (21, true), (22, true), (23, true), (24, true), (25, true), (26, true), (27, true), (28, true), (29, true), (30, true), (31, true), (32, true), (33, true), (34, true), (35, true), (36, true), (37, true), (38, true), (39, true), (40, true), (41, true), (42, true), (43, true), (44, true), (45, true), (46, true), (47, true), (48, true), (49, true), (50, true), (51, true), (52, true), (53, true), (54, true), (55, true), (56, true), (57, true), (58, true), (59, true), (60, true), (61, true), (62, true), (63, true), (64, true), (65, true), (66, true), (67, true), (68, true), (69, true), (70, true), (71, true), (72, true), (73, true), (74, true), (75, true)] (by kernel_rfl) (by kernel_rfl) (by kernel_rfl) (fun _ _ _ _ _ h => h) ⟨⟨a0, a1, a2, a3, a4, a5⟩, ⟨b0, b1, b2, b3, b4, b5⟩⟩ ?_
      clear a0 a1 a2 a3 a4 a5 b0 b1 b2 b3 b4 b5
      intro HP
      repeat (first | (apply wpPlan_look; rfl; rfl; (intro wq hq; (try dsimp only at hq); go_split_ands; go_simp; (try rw [if_neg (by omega)]); (try rw [if_pos (by omega)]); try with_reducible rfl); simp only [Act.put, List.setIfInBounds_toArray, List.set_cons_zero, List.set_cons_succ]) | (apply wpPlan_skip; rfl; rfl; simp only [Act.put, List.setIfInBounds_toArray, List.set_cons_zero, List.set_cons_succ]) | (apply wpPlan_pass; rfl; rfl; assumption; simp only [Act.put, List.setIfInBounds_toArray, List.set_cons_zero, List.set_cons_succ]))
      apply wpPlan_done
      clear HP
      go_wp2_with fail
      go_roundw
      case rel => exact ⟨k + 1, by omega, by go_num, HBD⟩
      case measure => simp [intOf]; omega
    · go_wp2_with fail
      go_ret
      exact Makes.mk rfl HB.out
end Go.Proofs.YtidholghbjljaaaGreatDoor

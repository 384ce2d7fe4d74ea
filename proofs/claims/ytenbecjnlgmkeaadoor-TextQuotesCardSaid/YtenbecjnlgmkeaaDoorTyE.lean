/- The walk of the statement TextQuotes. -/
import Derived.Test.YtenbecjnlgmkeaaDoorTyD
namespace Go.Proofs.YtenbecjnlgmkeaaDoor
set_option linter.unusedSimpArgs false
set_option linter.unusedVariables false
open Go.RowKit Go.Maps Culp

set_option maxRecDepth 100000 in
set_option maxHeartbeats 1600000 in
theorem eq_same (L : List (Tx.Tk × (Nat × Nat))) (u v : Value) (w : World) (hu : Toks w u L) (hv : Toks w v L) (hL : L.length ≤ 1000000) :
    Calls Tryd.prog 29 #[u, v] w (Makes (.bool true) w) := by
  obtain ⟨A, c, rfl, hA⟩ := hu
  obtain ⟨B, d, rfl, hB⟩ := hv
  have HA := Lib.hid hA
  have HB := Lib.hid hB
  clear hA hB
  go_enter Tryd.func29, Tryd.ntmps29
  go_wp2_with fail
  go_loopw [5] (fun i wr => ∃ k : Nat, k ≤ L.length ∧ i = .int .i64 k ∧ Hid (Below w.heap.size w wr)) (fun i _ => L.length - (intOf i).toNat)
  case atStart => exact ⟨0, Nat.zero_le _, rfl, Lib.hid (Below.refl _ _)⟩
  case round =>
    obtain ⟨k, hk, rfl, HBE⟩ := hrel
    by_cases hlt : k < L.length
    · obtain ⟨g, o, rfl, hA⟩ := HA.out (by omega)
      obtain ⟨g2, o2, rfl, hB⟩ := HB.out (by omega)
      have hx : L[k]? = some L[k] := List.getElem?_eq_getElem hlt
      have a0 := cell_later HBE.out (hA k _ hx 0 _ rfl)
      have a1 := cell_later HBE.out (hA k _ hx 1 _ rfl)
      have a2 := cell_later HBE.out (hA k _ hx 2 _ rfl)
      have a3 := cell_later HBE.out (hA k _ hx 3 _ rfl)
      have a4 := cell_later HBE.out (hA k _ hx 4 _ rfl)
      have b0 := cell_later HBE.out (hB k _ hx 0 _ rfl)
      have b1 := cell_later HBE.out (hB k _ hx 1 _ rfl)
      have b2 := cell_later HBE.out (hB k _ hx 2 _ rfl)
      have b3 := cell_later HBE.out (hB k _ hx 3 _ rfl)
      have b4 := cell_later HBE.out (hB k _ hx 4 _ rfl)
      rw [Nat.add_zero] at a0 b0
      generalize L[k] = x at *
      clear hx hA hB
      go_wp2_with fail
      refine wp_region_plan (S := fun w' => (w'.cell? ⟨g, o + k * 5, none⟩ = some (.int .i8 x.1.kind) ∧ w'.cell? ⟨g, o + k * 5 + 1, none⟩ = some (.int .i64 x.1.n) ∧ w'.cell? ⟨g, o + k * 5 + 2, none⟩ = some (.string (bs x.1.s)) ∧ w'.cell? ⟨g, o + k * 5 + 3, none⟩ = some (.int .i64 x.2.1) ∧ w'.cell? ⟨g, o + k * 5 + 4, none⟩ = some (.int .i64 x.2.2)) ∧
          (w'.cell? ⟨g2, o2 + k * 5, none⟩ = some (.int .i8 x.1.kind) ∧ w'.cell? ⟨g2, o2 + k * 5 + 1, none⟩ = some (.int .i64 x.1.n) ∧ w'.cell? ⟨g2, o2 + k * 5 + 2, none⟩ = some (.string (bs x.1.s)) ∧ w'.cell? ⟨g2, o2 + k * 5 + 3, none⟩ = some (.int .i64 x.2.1) ∧ w'.cell? ⟨g2, o2 + k * 5 + 4, none⟩ = some (.int .i64 x.2.2)))
        [(0, true), (1, true), (2, true), (3, true), (4, true), (5, true), (6, true), (7, true), (8, true)] (by kernel_rfl) (by kernel_rfl) (by kernel_rfl) (fun _ _ _ _ _ h => h) ⟨⟨a0, a1, a2, a3, a4⟩, ⟨b0, b1, b2, b3, b4⟩⟩ ?_
      intro HS
      repeat (first | (apply wpPlan_look; rfl; rfl; (intro wq hq; (try dsimp only at hq); go_split_ands; go_simp; (try rw [if_neg (by omega)]); (try rw [if_pos (by omega)]); try with_reducible rfl); simp only [Act.put, List.setIfInBounds_toArray, List.set_cons_zero, List.set_cons_succ]) | (apply wpPlan_skip; rfl; rfl; simp only [Act.put, List.setIfInBounds_toArray, List.set_cons_zero, List.set_cons_succ]) | (apply wpPlan_pass; rfl; rfl; assumption; simp only [Act.put, List.setIfInBounds_toArray, List.set_cons_zero, List.set_cons_succ]))
      apply wpPlan_done
      go_wp2_with fail
      go_roundw
      case rel => exact ⟨k + 1, by omega, by go_num, Lib.hid HBE.out.drew⟩
      case measure => simp [intOf]; omega
    · go_wp2_with fail
      go_ret
      exact Makes.mk rfl HBE.out

theorem lit_tok (w : World) (x : Tx.Tk × (Nat × Nat)) (g : Nat) (hg : w.heap.size = g) : Toks (w.alloc (.cells (tcells x).toArray 40)) (.slice (some ⟨g, 0, none⟩) 1 1) [x] := by
  subst hg
  refine ⟨_, 1, rfl, fun _ => ⟨w.heap.size, 0, rfl, fun i y hy j u hu => ?_⟩⟩
  match i, hy with
  | 0, hy =>
    cases hy
    rw [World.cell?_alloc_at _ _ _ _ rfl]
    simpa using hu
set_option maxRecDepth 100000 in
set_option maxHeartbeats 3200000 in
theorem TextQuotes_any (s : ByteArray) (w : World) (hs : s.size ≤ 140737488351232) (hS : Sp w) : Calls Tryd.prog 8 #[.string s] w (Makes (.bool true) w) := by
  have HS := Lib.hid hS
  clear hS
  go_enter Tryd.func8, Tryd.ntmps8
  go_wp2_with fail
  refine (works_any _ HS.out).mono ?_
  rintro e w1 ⟨rfl, hb1⟩
  have HB1 := Lib.hid hb1
  clear hb1
  go_wp2_with fail
  refine (Long_any' _ _).mono ?_
  rintro e w' ⟨rfl, rfl⟩
  by_cases hlong : 2147483647 < s.size
  · go_wp2_with fail
    go_ret
    exact Makes.mk rfl HB1.out
  go_wp2_with fail
  refine (tQuote_any s _ hs).mono ?_
  rintro e w2 ⟨hb2, hq1⟩
  have HB2 := Lib.hid (below_later hb2 HB1.out)
  clear hb2
  cases hq : Tx.quote s.data.toList with
  | none =>
    rw [hq] at hq1
    obtain rfl := hq1
    have HQ := Lib.hid hq
    clear hq
    go_wp2_with fail
    refine (rQuote_any s _ hs).mono ?_
    rintro e w3 ⟨hb3, hq2⟩
    have HB3 := Lib.hid (below_later hb3 HB2.out)
    rw [HQ.out] at hq2
    obtain rfl := hq2
    clear hb3
    go_wp2_with fail
    go_ret
    exact Makes.mk rfl HB3.out
  | some q =>
    rw [hq] at hq1
    obtain rfl := hq1
    have HQ := Lib.hid hq
    have hqs := (Tx.quote_some hq).choose_spec.2.2.2
    have HTK := Lib.hid (Tx.quote_toks hq)
    clear hq
    go_wp2_with fail
    refine (rQuote_any s _ hs).mono ?_
    rintro e w3 ⟨hb3, hq2⟩
    have HB3 := Lib.hid (below_later hb3 HB2.out)
    rw [HQ.out] at hq2
    obtain rfl := hq2
    clear hb3
    have hcv := conv_bytes w3 (bs q)
    obtain ⟨hbv, hb4⟩ := bytes_of w3 (bs q)
    have HBV := Lib.hid hbv
    have HB4 := Lib.hid (below_later hb4 HB3.out)
    clear hbv hb4
    go_wp2_with fail
    clear hcv
    refine (tTokens_any (bs q) _ _ HBV.out (by rw [bs_size]; omega) (HS.out.later HB4.out)).mono ?_
    rintro e w5 ⟨hb5, hres⟩
    rw [bs_list, HTK.out] at hres
    obtain ⟨v, rfl, hown⟩ := hres
    have hst := own_structs tcells_len hown
    have HST := Lib.hid hst
    have HB5 := Lib.hid (below_later hb5 HB4.out)
    clear hown hst hb5
    go_wp2_with fail
    have hb6 : Below w5.heap.size w5 ((w5.alloc (.cells #[.int .i64 0, .int .i64 0] 29)).alloc (.cells #[.int .i8 4, .int .i64 0, .string s, .int .i64 1, .int .i64 1] 40)) := ((Below.refl _ _).alloc (Nat.le_refl _) _).alloc (by simp) _
    have hlit := lit_tok (w5.alloc (.cells #[.int .i64 0, .int .i64 0] 29)) (⟨4, 0, s.data.toList⟩, (1, 1)) (w5.heap.size + 1) (by simp)
    have hcs : tcells (⟨4, 0, s.data.toList⟩, (1, 1)) = [.int .i8 4, .int .i64 0, .string s, .int .i64 1, .int .i64 1] := by unfold tcells; rw [bs_self]; rfl
    rw [hcs] at hlit
    have HL := Lib.hid hlit
    have HB6 := Lib.hid (below_later hb6 HB5.out)
    refine (eq_same _ _ _ _ (HST.out.later hb6) HL.out (by simp)).mono ?_
    clear hb6 hlit hcs
    rintro e w7 ⟨rfl, hb7⟩
    have HB7 := Lib.hid (below_later hb7 HB6.out)
    clear hb7
    go_wp2_with fail
    go_ret
    exact Makes.mk rfl HB7.out
end Go.Proofs.YtenbecjnlgmkeaaDoor

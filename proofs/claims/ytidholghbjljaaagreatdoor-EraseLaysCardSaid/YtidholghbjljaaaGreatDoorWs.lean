
/- Walks of erase: modules copied into memory of their own. -/
import Derived.Test.YtidholghbjljaaaGreatDoorWr
import Derived.Test.YtidholghbjljaaaGreatDoorWk
import Derived.Test.YtidholghbjljaaaGreatDoorR4W
namespace Culp.Er
set_option linter.unusedSimpArgs false
set_option linter.unusedVariables false
open Go Go.RowKit Culp
/-- Lengths that are numbers. -/
structure Lens (L : List Md) : Prop where
  len : L.length ≤ 1000000000000
  imps : ∀ md ∈ L, md.imps.length ≤ 1000000000000
  defs : ∀ md ∈ L, md.defs.length ≤ 1000000000000
  trees : ∀ md ∈ L, ∀ d ∈ md.defs, d.tree.length ≤ 1000000000000
/-- The rows of the first modules. -/
def firstM (m : Nat) : Row → Prop
  | .all => True
  | .imp j => j < m
  | .dfs j => j < m
  | .nds j _ => j < m
def firstD (m k : Nat) (r : Row) : Prop := ((firstM m r ∨ r = .imp m) ∨ r = .dfs m) ∨ ∃ i, i < k ∧ r = .nds m i
/-- What a copy of modules comes to. -/
def CopiedRes (L : List Md) (f : Pos → ByteArray) (w : World) (E : Ending) (w' : World) : Prop := ∃ v sk, E = .returned v ∧ SlOk v sk.b sk.o L.length ∧ Below w.heap.size w w' ∧ MAt sk w' L f ∧ Mixed sk w.heap.size L (fun _ => True) w' ∧ sk.v = v
end Culp.Er
namespace Go.Proofs.YtidholghbjljaaaGreatDoor
set_option linter.unusedSimpArgs false
set_option linter.unusedVariables false
open Go.RowKit Culp Culp.Er
theorem md_info : (Tryz.prog.info? 88).map (fun i => (i.zero, i.size, i.bytes)) = some (some (.agg #[.string ByteArray.empty, .slice none 0 0, .slice none 0 0, .int .i64 0, .int .i64 0]), 5, 80) := by kernel_rfl
theorem im_info : (Tryz.prog.info? 90).map (fun i => (i.zero, i.size, i.bytes)) = some (some (.agg #[.string ByteArray.empty, .string ByteArray.empty, .string ByteArray.empty, .int .i64 0, .int .i64 0]), 5, 64) := by kernel_rfl
theorem df_info : (Tryz.prog.info? 84).map (fun i => (i.zero, i.size, i.bytes)) = some (some (.agg #[.string ByteArray.empty, .bool false, .string ByteArray.empty, .slice none 0 0, .int .i64 0, .int .i64 0]), 6, 80) := by kernel_rfl
theorem nd_info : (Tryz.prog.info? 81).map (fun i => (i.zero, i.size, i.bytes)) = some (some (.agg #[.int .i8 0, .int .i64 0, .int .i64 0, .string ByteArray.empty, .string ByteArray.empty, .string ByteArray.empty, .int .i64 0, .int .i64 0]), 8, 88) := by kernel_rfl
set_option maxRecDepth 100000 in
set_option maxHeartbeats 6400000 in
theorem copied_any (sk : Sk) (L : List Md) (f : Pos → ByteArray) (A : Option Addr) (c : Nat) (w : World) (hA : 0 < L.length → A = some ⟨sk.b, sk.o, none⟩) (hM : MAt sk w L f) (hu : Under sk w.heap.size L) (hl : Lens L) : Calls Tryz.prog 65 #[.slice A L.length c] w (CopiedRes L f w) := by
  have hlen := hl.len
  have HLn := Lib.hid hl
  obtain ⟨v0, w0, g, hr0, hb0, hs0, hn0, hg0⟩ := run_append_copy (P := Tryz.prog) (w := w) 22 22 88 _ 5 80 Tryz.underlying22 md_info rfl (by decide) A L.length c sk.b sk.o hA hM.all_cells (by omega) (by omega)
  have h0 : CpSt (sk.row g v0) L f w g v0 (firstM 0) w0 := by
    refine ⟨hb0, hM.row hu hb0 (fun h => (hg0 h).2.2), ⟨fun r r' a b _ _ _ => ?_, fun r a b => ?_, fun r a _ b => ?_, fun r a b => ?_⟩, rfl, rfl, rfl, trivial⟩
    · cases r <;> cases r' <;> first | rfl | exact absurd a (Nat.not_lt_zero _) | exact absurd b (Nat.not_lt_zero _)
    · cases r with
      | all =>
        obtain ⟨h1, h2, _⟩ := hg0 b
        refine ⟨h1, ?_, h2⟩
        obtain ⟨_, _, _, _, _, _, h3, _⟩ := h2
        exact (Array.getElem?_eq_some_iff.1 h3).1
      | _ => exact absurd a (Nat.not_lt_zero _)
    · cases r with
      | all => exact hn0 (Nat.eq_zero_of_not_pos b)
      | _ => exact absurd a (Nat.not_lt_zero _)
    · cases r with
      | all => exact absurd trivial a
      | imp m => obtain ⟨md, hm, hp⟩ := b; exact hu.ib m md hm hp
      | dfs m => obtain ⟨md, hm, hp⟩ := b; exact hu.db m md hm hp
      | nds m i => obtain ⟨md, d, hm, hd, hp⟩ := b; exact hu.tb m md hm i d hd hp
  obtain ⟨A0, c0, rfl, hc0, hA0⟩ := hs0
  have H0 := Lib.hid h0
  have HC0 := Lib.hid hc0
  clear hb0 hg0 hn0 h0 hc0 hl hM hu hA
  go_enter Tryz.func65, Tryz.ntmps65
  go_wp2_with (at_builtin; refine wpList_valr rfl (exec_append rfl rfl rfl rfl hr0) ?_)
  clear hr0
  go_wp2_with fail
  go_loopw [10] (fun iv wr => ∃ (m : Nat) (sk : Sk), m ≤ L.length ∧ iv = .int .i64 m ∧ Hid (CpSt sk L f w g (.slice A0 L.length c0) (firstM m) wr)) (fun iv _ => L.length - (intOf iv).toNat)
  case atStart => exact ⟨0, _, Nat.zero_le _, rfl, H0⟩
  case round =>
    clear H0
    obtain ⟨m, sk, hm, rfl, HS⟩ := hrel
    by_cases hlt : m < L.length
    · obtain rfl := hA0 (by omega)
      have hx : L[m]? = some L[m] := List.getElem?_eq_getElem hlt
      have hmem := List.mem_of_getElem? hx
      have li := HLn.out.imps _ hmem
      have ld := HLn.out.defs _ hmem
      have LT := Lib.hid (HLn.out.trees _ hmem)
      have HX := Lib.hid hx
      generalize L[m] = md at *
      obtain ⟨⟨q0, q1, q2, q3, q4⟩, ⟨Ai, ci, hiv, hci, hAi⟩, -, -, -, -⟩ := HS.out.mat m md hx
      rw [HS.out.b, HS.out.o, Nat.zero_add] at q1
      rw [hiv] at q1
      obtain ⟨v1, w1, g1, hr1, hb1, hs1, hn1, hg1⟩ := run_append_copy (P := Tryz.prog) (w := wr) 85 85 90 _ 5 64 Tryz.underlying85 im_info rfl (by decide) Ai md.imps.length ci (sk.ib m) (sk.io m) hAi (HS.out.mat.imp_cells hx) (by omega) (by omega)
      have H1 := Lib.hid (HS.out.imp (fun h => absurd h (Nat.lt_irrefl _)) hx hb1 hs1 hn1 hg1)
      have p1 : w1.cell? ⟨g, m * 5 + 1, none⟩ = some (.slice Ai md.imps.length ci) := cell_later hb1 q1
      have f1 : w1.frozen? ⟨g, m * 5 + 1, none⟩ = false := by
        have := HS.out.free (by omega) (m * 5 + 1)
        have hlt2 := World.block_lt_of_cell? wr _ q1
        unfold World.frozen? at this ⊢
        rw [hb1.block _ hlt2]; exact this
      obtain ⟨A1, c1, rfl, -, -⟩ := hs1
      obtain ⟨w2, hw2⟩ : ∃ w2, w1.setCell ⟨g, m * 5 + 1, none⟩ (.slice A1 md.imps.length c1) = w2 := ⟨_, rfl⟩
      rw [hw2] at H1
      clear q0 q2 q3 q4 hiv hci hAi hg1 hn1 hb1 HS
      obtain ⟨⟨q0, -, q2, q3, q4⟩, -, ⟨Ad, cd, hdv, hcd, hAd⟩, -, -, -⟩ := H1.out.mat m md hx
      rw [H1.out.b, H1.out.o, Nat.zero_add] at q2
      rw [hdv] at q2
      obtain ⟨v3, w3, g3, hr3, hb3, hs3, hn3, hg3⟩ := run_append_copy (P := Tryz.prog) (w := w2) 86 86 84 _ 6 80 Tryz.underlying86 df_info rfl (by decide) Ad md.defs.length cd _ _ hAd (H1.out.mat.dfs_cells hx) (by omega) (by omega)
      have H3 := Lib.hid (H1.out.dfs (fun h => by
        rcases h with h | h
        · exact absurd h (Nat.lt_irrefl _)
        · cases h) hx hb3 hs3 hn3 hg3)
      have p3 : w3.cell? ⟨g, m * 5 + 2, none⟩ = some (.slice Ad md.defs.length cd) := cell_later hb3 q2
      have f3 : w3.frozen? ⟨g, m * 5 + 2, none⟩ = false := by
        have := H1.out.free (by omega) (m * 5 + 2)
        have hlt2 := World.block_lt_of_cell? w2 _ q2
        unfold World.frozen? at this ⊢
        rw [hb3.block _ hlt2]; exact this
      obtain ⟨A3, c3, rfl, -, -⟩ := hs3
      obtain ⟨w4, hw4⟩ : ∃ w4, w3.setCell ⟨g, m * 5 + 2, none⟩ (.slice A3 md.defs.length c3) = w4 := ⟨_, rfl⟩
      rw [hw4] at H3
      clear q0 q3 q4 hdv hcd hAd hg3 hn3 hb3 H1
      obtain ⟨⟨-, -, p4, -, -⟩, -, ⟨Ae, ce, hev, hce, hAe⟩, -, -, -⟩ := H3.out.mat m md hx
      rw [H3.out.b, H3.out.o, Nat.zero_add] at p4
      rw [hev] at p4
      clear hx hmem
      go_wp2_with (at_builtin; first | (refine wpList_valr rfl (exec_append rfl rfl rfl rfl hr1) ?_) | (refine wpList_valr rfl (exec_append rfl rfl rfl rfl hr3) ?_))
      clear hr1 hr3 p1 f1 p3 f3 q1 q2 hw2 hw4
      have H4 : Hid (CpSt _ L f w g (.slice (some ⟨g, 0, none⟩) L.length c0) (firstD m 0) w4) := Lib.hid (H3.out.mono (fun r _ => ⟨fun h => by
        rcases h with h | ⟨i, hi, _⟩
        · exact h
        · exact absurd hi (Nat.not_lt_zero _), fun h => .inl h⟩) (.inl (.inl (.inl trivial))))
      clear H3 p4 hev hce hAe
      go_loopw [39] (fun iv wr => ∃ (k : Nat) (sk : Sk), k ≤ md.defs.length ∧ iv = .int .i64 k ∧ Hid (CpSt sk L f w g (.slice (some ⟨g, 0, none⟩) L.length c0) (firstD m k) wr)) (fun iv _ => md.defs.length - (intOf iv).toNat)
      case atStart => exact ⟨0, _, Nat.zero_le _, rfl, H4⟩
      case round =>
        clear H4
        obtain ⟨k, sk, hk, rfl, HK⟩ := hrel
        have hx := HX.out
        by_cases hltk : k < md.defs.length
        · have hd : md.defs[k]? = some md.defs[k] := List.getElem?_eq_getElem hltk
          have lt := LT.out _ (List.mem_of_getElem? hd)
          have HD := Lib.hid hd
          generalize md.defs[k] = d at *
          obtain ⟨⟨-, -, q2, -, -⟩, -, ⟨Af, cf, hfv, hcf, hAf⟩, -, hdf, -⟩ := HK.out.drew.mat m md hx
          rw [HK.out.b, HK.out.o, Nat.zero_add] at q2
          rw [hfv] at q2
          obtain rfl := hAf (by omega)
          obtain ⟨⟨-, -, -, q3, -, -⟩, Ag, cg, hgv, hcg, hAg⟩ := hdf k d hd
          rw [hgv] at q3
          obtain ⟨v5, w5, g5, hr5, hb5, hs5, hn5, hg5⟩ := run_append_copy (P := Tryz.prog) (w := wr.drew) 82 82 81 _ 8 88 Tryz.underlying82 nd_info rfl (by decide) Ag d.tree.length cg _ _ hAg (HK.out.drew.mat.nds_cells hx hd) (by omega) (by omega)
          have H5 := Lib.hid (HK.out.drew.nds (fun h => by
            rcases h with ((h | h) | h) | ⟨i, hi, h⟩
            · exact absurd h (Nat.lt_irrefl _)
            · cases h
            · cases h
            · cases h; exact absurd hi (Nat.lt_irrefl _)) (.inl (.inr rfl)) hx hd hb5 hs5 hn5 hg5)
          have r2 : w5.cell? ⟨g, m * 5 + 2, none⟩ = some (.slice (some ⟨sk.db m, sk.do_ m, none⟩) md.defs.length cf) := cell_later hb5 q2
          have r3 : w5.cell? ⟨sk.db m, sk.do_ m + k * 6 + 3, none⟩ = some (.slice Ag d.tree.length cg) := cell_later hb5 q3
          have f3 : w5.frozen? ⟨sk.db m, sk.do_ m + k * 6 + 3, none⟩ = false := by
            obtain ⟨_, _, _, _, cs, _, _, _, hh, _⟩ := HK.out.drew.mix.own (.dfs m) (.inl (.inr rfl)) ⟨md, hx, by omega⟩
            have hh : wr.drew.heap[sk.db m]? = some (.cells cs (Row.ty (.dfs m)) (0, 0)) := hh
            have hlt2 : sk.db m < wr.drew.heap.size := World.block_lt_of_cell? wr.drew _ q3
            unfold World.frozen?
            rw [hb5.block _ hlt2, hh]
            simp
          obtain ⟨A5, c5, rfl, -, -⟩ := hs5
          clear hdf hfv hcf hAf hgv hcg hAg hg5 hn5 hb5 hx hd
          go_wp2_with fail
          refine wp_region_last (S := fun w' => w'.cell? ⟨g, m * 5 + 2, none⟩ = some (.slice (some ⟨sk.db m, sk.do_ m, none⟩) md.defs.length cf) ∧ w'.cell? ⟨sk.db m, sk.do_ m + k * 6 + 3, none⟩ = some (.slice Ag d.tree.length cg)) 18 [(0, true), (1, true), (2, true), (3, true), (4, true), (5, true), (6, true), (7, true), (8, true), (9, true), (10, true), (11, true), (12, true), (13, true), (14, true), (15, false), (16, true), (17, true)] (by kernel_rfl) (by kernel_rfl) (by kernel_rfl) (fun _ _ _ _ _ h => h) ⟨q2, q3⟩ ?_
          intro HSS
          repeat (first | (apply wpPlan_look; rfl; rfl; (intro wq hq; (try dsimp only at hq); go_split_ands; go_simp; (try rw [if_neg (by omega)]); (try rw [if_pos (by omega)]); try with_reducible rfl); simp only [Act.put, List.setIfInBounds_toArray, List.set_cons_zero, List.set_cons_succ]) | (apply wpPlan_skip; rfl; rfl; simp only [Act.put, List.setIfInBounds_toArray, List.set_cons_zero, List.set_cons_succ]) | (apply wpPlan_pass; rfl; rfl; assumption; simp only [Act.put, List.setIfInBounds_toArray, List.set_cons_zero, List.set_cons_succ]))
          refine wpPlan_run rfl rfl (exec_append rfl rfl rfl rfl hr5) _ (fun _ h => h) ⟨r2, r3⟩ ?_
          simp only [Act.put, List.setIfInBounds_toArray, List.set_cons_zero, List.set_cons_succ]
          repeat (first | (apply wpPlan_look; rfl; rfl; (intro wq hq; (try dsimp only at hq); go_split_ands; go_simp; (try rw [if_neg (by omega)]); (try rw [if_pos (by omega)]); try with_reducible rfl); simp only [Act.put, List.setIfInBounds_toArray, List.set_cons_zero, List.set_cons_succ]) | (apply wpPlan_skip; rfl; rfl; simp only [Act.put, List.setIfInBounds_toArray, List.set_cons_zero, List.set_cons_succ]) | (apply wpPlan_pass; rfl; rfl; assumption; simp only [Act.put, List.setIfInBounds_toArray, List.set_cons_zero, List.set_cons_succ]))
          refine wpPlan_last_run0 (w' := w5.setCell ⟨sk.db m, sk.do_ m + k * 6 + 3, none⟩ (.slice A5 d.tree.length c5)) rfl rfl (by simp [execOp, go_sem, r3, f3]) ?_
          clear r2 r3 f3 q2 q3 hr5 HSS
          go_wp2_with fail
          have H6 : Hid (CpSt _ L f w g (.slice (some ⟨g, 0, none⟩) L.length c0) (firstD m (k + 1)) (w5.setCell ⟨sk.db m, sk.do_ m + k * 6 + 3, none⟩ (.slice A5 d.tree.length c5))) := Lib.hid (H5.out.mono (fun r _ => ⟨fun h => by
            rcases h with h | ⟨i, hi, h⟩
            · exact .inl (.inl h)
            · rcases Nat.lt_or_ge i k with h2 | h2
              · exact .inl (.inr ⟨i, h2, h⟩)
              · obtain rfl : i = k := by omega
                exact .inr h, fun h => by
            rcases h with (h | ⟨i, hi, h⟩) | h
            · exact .inl h
            · exact .inr ⟨i, by omega, h⟩
            · exact .inr ⟨k, by omega, h⟩⟩) (.inl (.inl (.inl trivial))))
          clear H5 HK
          go_roundw
          case rel => exact ⟨k + 1, _, by omega, by go_num, H6⟩
          case measure => simp [intOf]; omega
        · have H7 : Hid (CpSt sk L f w g (.slice (some ⟨g, 0, none⟩) L.length c0) (firstM (m + 1)) wr) := Lib.hid (HK.out.mono (fun r hr => by
            have hke : k = md.defs.length := by omega
            cases r with
            | all => exact ⟨fun _ => .inl (.inl (.inl trivial)), fun _ => trivial⟩
            | imp j => exact ⟨fun h => by
                rcases Nat.lt_or_ge j m with h2 | h2
                · exact .inl (.inl (.inl h2))
                · have h : j < m + 1 := h
                  obtain rfl : j = m := by omega
                  exact .inl (.inl (.inr rfl)), fun h => by
                show j < m + 1
                rcases h with ((h | h) | h) | ⟨i, hi, h⟩
                · have h : j < m := h
                  omega
                · cases h; omega
                · cases h
                · cases h⟩
            | dfs j => exact ⟨fun h => by
                rcases Nat.lt_or_ge j m with h2 | h2
                · exact .inl (.inl (.inl h2))
                · have h : j < m + 1 := h
                  obtain rfl : j = m := by omega
                  exact .inl (.inr rfl), fun h => by
                show j < m + 1
                rcases h with ((h | h) | h) | ⟨i, hi, h⟩
                · have h : j < m := h
                  omega
                · cases h
                · cases h; omega
                · cases h⟩
            | nds j i => exact ⟨fun h => by
                rcases Nat.lt_or_ge j m with h2 | h2
                · exact .inl (.inl (.inl h2))
                · have h : j < m + 1 := h
                  obtain rfl : j = m := by omega
                  obtain ⟨md', d', hm', hd'⟩ := hr
                  rw [hx] at hm'
                  cases hm'
                  have := (List.getElem?_eq_some_iff.1 hd').1
                  exact .inr ⟨i, by omega, rfl⟩, fun h => by
                show j < m + 1
                rcases h with ((h | h) | h) | ⟨i, hi, h⟩
                · have h : j < m := h
                  omega
                · cases h
                · cases h
                · cases h; omega⟩) trivial)
          clear HK hx
          go_wp2_with fail
          go_roundw
          case rel => exact ⟨m + 1, _, by omega, by go_num, H7⟩
          case measure => simp [intOf]; omega
    · have hme : m = L.length := by omega
      have HR : Hid (CopiedRes L f w (.returned (.slice A0 L.length c0)) wr) := Lib.hid (by
        refine ⟨_, sk, rfl, ⟨A0, c0, rfl, HC0.out, fun h => by rw [HS.out.b, HS.out.o]; exact hA0 h⟩, HS.out.below, HS.out.mat, (HS.out.mono (D' := fun _ => True) (fun r hr => ⟨fun _ => ?_, fun _ => trivial⟩) trivial).mix, HS.out.v⟩
        cases r with
        | all => exact trivial
        | imp j => obtain ⟨md, hm⟩ := hr; have := (List.getElem?_eq_some_iff.1 hm).1; show j < m; omega
        | dfs j => obtain ⟨md, hm⟩ := hr; have := (List.getElem?_eq_some_iff.1 hm).1; show j < m; omega
        | nds j i => obtain ⟨md, _, hm, _⟩ := hr; have := (List.getElem?_eq_some_iff.1 hm).1; show j < m; omega)
      clear HS hA0 HC0 hme
      go_wp2_with fail
      go_ret
      exact HR.out
end Go.Proofs.YtidholghbjljaaaGreatDoor

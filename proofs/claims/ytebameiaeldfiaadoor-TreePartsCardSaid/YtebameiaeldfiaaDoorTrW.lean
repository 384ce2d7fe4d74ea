
/- Walks of trees, the document's: kids, depth; lists of ints alike. -/
import Derived.Test.YtebameiaeldfiaaDoorTrO
namespace Go.Proofs.YtebameiaeldfiaaDoor
set_option linter.unusedSimpArgs false
set_option linter.unusedVariables false
open Go.RowKit Go.Maps Culp

set_option maxRecDepth 100000 in
set_option maxHeartbeats 1600000 in
theorem rKids_any (T : List Nd) (tv : Value) (a : Int) (w : World) (hn : Nodes w tv T) (hT : T.length ≤ 1000000) :
    Calls Tryd.prog 30 #[tv, .int .i64 a] w (KidRes T a w) := by
  have HN := Lib.hid hn
  have HBH := Lib.hid (rBehind_any T tv a w hn hT)
  obtain ⟨A, c, rfl, hlc, _⟩ := hn
  by_cases hb : Tr.behind T a = 0
  · have HK := Lib.hid (kids_nil hb)
    rw [hb] at HBH
    clear hb
    go_enter Tryd.func30, Tryd.ntmps30
    go_wp2_with fail
    refine HBH.out.mono ?_
    rintro e w1 ⟨rfl, rfl⟩
    go_wp2_with fail
    go_ret
    exact ⟨.slice none 0 0, rfl, by rw [HK.out]; exact World.ownsRow_nil _ _ _ _, Below.refl _ _⟩
  · obtain ⟨m, x, q, rfl, hm, hx, hk0, hk1, hq, hbe⟩ := Tr.behind_pos hb
    have HK := Lib.hid (kids_some hb hx)
    have HX := Lib.hid hx
    have HQ := Lib.hid hq
    have e0 := ne_lit (n := Tr.behind T (m : Int)) (z := 0) (by omega)
    obtain ⟨n, hn0⟩ := Int.eq_ofNat_of_zero_le hk0
    have HN0 := Lib.hid hn0
    generalize Tr.behind T (m : Int) = bh at *
    have hnT : n ≤ 1000000 := by omega
    rw [HN0.out, Int.toNat_natCast] at HK
    rw [HN0.out] at HQ
    clear hb hbe hx hq hn0 hk0 hk1
    obtain ⟨A2, c2, e2, _, hN⟩ := HN.out
    simp only [Value.slice.injEq] at e2
    obtain ⟨rfl, _, rfl⟩ := e2
    obtain ⟨b, off, rfl, hM⟩ := hN (by omega)
    have n1' := (hM.at_ HX.out).2.1
    rw [HN0.out] at n1'
    have HC1 := Lib.hid n1'
    clear hN hM n1'
    go_enter Tryd.func30, Tryd.ntmps30
    go_wp2_with fail
    refine HBH.out.mono ?_
    rintro e w1 ⟨rfl, rfl⟩
    clear HBH
    go_wp2_with fail
    go_loopw [5, 7, 8] (fun v pv i wr => ∃ (k p r : Nat) (D : List Nat) (u : Value), u = v ∧ pv = .int .i64 p ∧ i = .int .i64 k ∧ k + r = n ∧ p ≤ T.length + 1 ∧ D.length = k ∧ Hid (Tr.kidsOf T m = D ++ Tr.kidsFrom T r p) ∧ Hid (∃ q, Tr.beh T.length (T.drop p) (r : Int) = some q) ∧ Hid (wr.ownsRow w.heap.size 3 1 u D.length (D.map natV)) ∧ Hid (Below w.heap.size w wr)) (fun _ _ i _ => n - (intOf i).toNat)
    case atStart => exact ⟨0, m + 1, n, [], _, rfl, by go_num, rfl, by omega, by omega, rfl, Lib.hid (by rw [HK.out]; rfl), Lib.hid ⟨_, HQ.out⟩, Lib.hid (World.ownsRow_nil _ _ _ _), Lib.hid (Below.refl _ _)⟩
    case round =>
      clear HQ HK
      obtain ⟨k, p, r, D, u, rfl, rfl, rfl, hkr, hp, hD, HKD, HQE, HOW, HB⟩ := hrel
      have n1 := cell_later HB.out HC1.out
      by_cases hlt : k < n
      · obtain ⟨r', rfl⟩ : ∃ r', r = r' + 1 := ⟨r - 1, by omega⟩
        obtain ⟨q', hq'⟩ := HQE.out
        obtain ⟨j, hj1, hj2, hj3, hj4⟩ := Tr.part_end hq'
        have HKD2 : Hid (Tr.kidsOf T m = (D ++ [p]) ++ Tr.kidsFrom T r' (p + j)) := Lib.hid (by rw [HKD.out, Tr.kidsFrom, hj2]; simp)
        have HQ2 : Hid (∃ q, Tr.beh T.length (T.drop (p + j)) (r' : Int) = some q) := Lib.hid ⟨_, hj3⟩
        have HBJ := Lib.hid hj2
        have own4 := HOW.out
        clear HKD HQE HOW hq' hj1 hj2 hj3
        go_wp2_with (at_builtin; refine append_agg rfl (.tmp 25) (.tmp 27) 36 3 rfl w.heap.size _ 1 8 Tryd.underlying36 int_info rfl (by decide) _ _ _ rfl own4 [.int .i64 (p : Int)] rfl wr.heap.size rfl rfl ?_ ?_ ?_ ?_ ?_)
        · first
            | rfl
            | (intro y hy; simp only [List.mem_cons, List.not_mem_nil, or_false] at hy; subst hy; rfl)
        · omega
        · omega
        · exact HB.out.size
        intro v' w5 hown' hg' hb'
        have HO5 : Hid (w5.ownsRow w.heap.size 3 1 v' (D ++ [p]).length ((D ++ [p]).map natV)) := Lib.hid (by
          rw [List.length_append, List.map_append]
          first
            | exact hown'
            | (rw [hD]; exact hown'))
        have HB5 := Lib.hid (HB.out.trans hb')
        clear own4 hown' hg' hb' HB n1
        go_wp2_with fail
        refine (rBehind_any T _ p _ (HN.out.later HB5.out) hT).mono ?_
        rw [HBJ.out]
        rintro e w6 ⟨rfl, rfl⟩
        go_wp2_with fail
        go_roundw
        case rel => exact ⟨k + 1, p + j, r', D ++ [p], v', rfl, by go_num, by go_num, by omega, by omega, by rw [List.length_append, hD]; rfl, HKD2, HQ2, HO5, HB5⟩
        case measure => simp [intOf]; omega
      · have hr0 : r = 0 := by omega
        have HF : Hid (Tr.kidsOf T m = D) := Lib.hid (by rw [HKD.out, hr0, Tr.kidsFrom, List.append_nil])
        clear HKD HQE hr0
        go_wp2_with fail
        go_ret
        exact ⟨u, rfl, by rw [HF.out]; exact HOW.out, HB.out⟩
end Go.Proofs.YtebameiaeldfiaaDoor

/- Walks of trees: lists of ints alike; the document's depth. -/
namespace Culp.Tr
theorem fold_take (D : List Nat) (k : Nat) (h : k < D.length) : (D.take (k + 1)).foldl max 0 = max ((D.take k).foldl max 0) D[k] := by
  rw [List.take_add_one, List.getElem?_eq_getElem h]
  simp only [Option.toList_some]
  rw [fold_snoc]
theorem deps_bound : ∀ (l : List Nd) (S : List Int), ∀ y ∈ deps l S, y ≤ S.length + l.length
  | [], S, y, h => by rw [deps_nil] at h; cases h
  | x :: l, S, y, h => by
    rw [deps] at h
    split at h
    · cases h
    · rename_i c r hp
      have hl : r.length + 1 ≤ S.length := by
        have := (List.dropWhile_sublist (p := (· == (0 : Int))) (l := S)).length_le
        unfold pop at hp
        rw [hp, List.length_cons] at this
        exact this
      rcases List.mem_cons.1 h with rfl | h
      · omega
      · have := deps_bound l _ y h
        simp only [List.length_cons] at this ⊢
        omega
end Culp.Tr
namespace Go.Proofs.YtebameiaeldfiaaDoor
open Go.RowKit Go.Maps Culp

set_option maxRecDepth 100000 in
set_option maxHeartbeats 1600000 in
theorem EqInts_same (D : List Nat) (u v : Value) (b1 b2 : Nat) (w : World) (hu : w.ownsRow b1 3 1 u D.length (D.map natV)) (hv : w.ownsRow b2 3 1 v D.length (D.map natV)) (hD : D.length ≤ 1000000000) :
    Calls Tryd.prog 29 #[u, v] w (Makes (.bool true) w) := by
  obtain ⟨A, c, rfl, _, hA⟩ := own_form hu
  obtain ⟨B, d, rfl, _, hB⟩ := own_form hv
  have HA := Lib.hid hA
  have HBB := Lib.hid hB
  clear hA hB hu hv
  go_enter Tryd.func29, Tryd.ntmps29
  go_wp2_with fail
  go_loopw [5] (fun i wr => ∃ k : Nat, k ≤ D.length ∧ i = .int .i64 k ∧ Hid (Below w.heap.size w wr)) (fun i _ => D.length - (intOf i).toNat)
  case atStart => exact ⟨0, Nat.zero_le _, rfl, Lib.hid (Below.refl _ _)⟩
  case round =>
    obtain ⟨k, hk, rfl, HB⟩ := hrel
    by_cases hlt : k < D.length
    · obtain ⟨g, rfl, _, hA⟩ := HA.out (by omega)
      obtain ⟨g2, rfl, _, hB⟩ := HBB.out (by omega)
      have hx : (D.map natV)[k]? = some (natV D[k]) := by rw [List.getElem?_map, List.getElem?_eq_getElem hlt]; rfl
      have a0 : wr.cell? ⟨g, k, none⟩ = some (.int .i64 (D[k] : Nat)) := cell_later HB.out (hA k _ hx)
      have b0 : wr.cell? ⟨g2, k, none⟩ = some (.int .i64 (D[k] : Nat)) := cell_later HB.out (hB k _ hx)
      generalize D[k] = x at *
      clear hA hB hx
      go_wp2_with fail
      refine wp_region_plan (S := fun w' => w'.cell? ⟨g, k, none⟩ = some (.int .i64 (x : Nat)) ∧ w'.cell? ⟨g2, k, none⟩ = some (.int .i64 (x : Nat)))
        [(0, true), (1, true), (2, true), (3, true), (4, true), (5, true), (6, true), (7, true), (8, true)] (by kernel_rfl) (by kernel_rfl) (by kernel_rfl) (fun _ _ _ _ _ h => h) ⟨a0, b0⟩ ?_
      clear a0 b0
      intro HP
      repeat (first | (apply wpPlan_look; rfl; rfl; (intro wq hq; (try dsimp only at hq); go_split_ands; go_simp; (try rw [if_neg (by omega)]); (try rw [if_pos (by omega)]); try with_reducible rfl); simp only [Act.put, List.setIfInBounds_toArray, List.set_cons_zero, List.set_cons_succ]) | (apply wpPlan_skip; rfl; rfl; simp only [Act.put, List.setIfInBounds_toArray, List.set_cons_zero, List.set_cons_succ]) | (apply wpPlan_pass; rfl; rfl; assumption; simp only [Act.put, List.setIfInBounds_toArray, List.set_cons_zero, List.set_cons_succ]))
      apply wpPlan_done
      clear HP
      have HB2 := Lib.hid HB.out.drew
      go_wp2_with fail
      go_roundw
      case rel => exact ⟨k + 1, by omega, by go_num, HB2⟩
      case measure => simp [intOf]; omega
    · go_wp2_with fail
      go_ret
      exact Makes.mk rfl HB.out
set_option maxRecDepth 100000 in
set_option maxHeartbeats 1600000 in
theorem rDeep_any (T : List Nd) (tv : Value) (w : World) (hn : Nodes w tv T) (hT : T.length ≤ 1000000) (hk : ∀ x ∈ T, x.kids ≤ 9223372036854775807) :
    Calls Tryd.prog 32 #[tv] w (Makes (.int .i64 (Tr.deepOf T)) w) := by
  have HN := Lib.hid hn
  have HBH := Lib.hid (rBehind_any T tv 0 w hn hT)
  have HDP := Lib.hid (Depths_any T tv w hn hT hk)
  obtain ⟨A, c, rfl, hlc, _⟩ := hn
  by_cases h0 : T.length = 0
  · have HC : Hid (Tr.deepOf T = 0) := Lib.hid (by unfold Tr.deepOf; rw [if_pos (.inl h0)])
    have e0 := eq_lit (n := T.length) (z := 0) (by omega)
    go_enter Tryd.func32, Tryd.ntmps32
    go_wp2_with fail
    go_ret
    exact Makes.mk (by rw [HC.out]; rfl) (Below.refl _ _)
  have e0 := ne_lit (n := T.length) (z := 0) (by omega)
  by_cases hb : Tr.behind T 0 = T.length
  · have HC : Hid (Tr.deepOf T = (Tr.deps T [1]).foldl max 0) := Lib.hid (by unfold Tr.deepOf; rw [if_neg (by rintro (h | h); exact h0 h; exact h hb)])
    have HBD := Lib.hid (Tr.deps_bound T [1])
    have HDL := deps_len T [1]
    rw [hb] at HBH
    go_enter Tryd.func32, Tryd.ntmps32
    go_wp2_with fail
    refine HBH.out.mono ?_
    rintro e w1 ⟨rfl, rfl⟩
    go_wp2_with fail
    refine HDP.out.mono ?_
    rintro e w2 ⟨v, rfl, hown, hb2⟩
    have HB2 := Lib.hid hb2
    obtain ⟨A1, c1, rfl, _, hA1⟩ := own_form hown
    have HA1 := Lib.hid hA1
    clear HBH HDP hown hb2 hA1 hb
    generalize Tr.deps T [1] = D at *
    go_wp2_with fail
    go_loopw [5, 6] (fun dv i wr => ∃ k md : Nat, k ≤ D.length ∧ md ≤ 2000000 ∧ dv = .int .i64 md ∧ i = .int .i64 k ∧ Hid (md = (D.take k).foldl max 0) ∧ w2 = wr) (fun _ i _ => D.length - (intOf i).toNat)
    case atStart => exact ⟨0, 0, Nat.zero_le _, by omega, rfl, rfl, Lib.hid rfl, rfl⟩
    case round =>
      obtain ⟨k, md, hk, hmd, rfl, rfl, HM, rfl⟩ := hrel
      by_cases hlt : k < D.length
      · obtain ⟨g, rfl, _, hA⟩ := HA1.out (by omega)
        have hx : (D.map natV)[k]? = some (natV D[k]) := by rw [List.getElem?_map, List.getElem?_eq_getElem hlt]; rfl
        have a0 : w2.cell? ⟨g, k, none⟩ = some (.int .i64 (D[k] : Nat)) := hA k _ hx
        have HM2 : Hid (max md D[k] = (D.take (k + 1)).foldl max 0) := Lib.hid (by rw [Tr.fold_take D k hlt, ← HM.out])
        have hbd := HBD.out D[k] (List.getElem_mem hlt)
        generalize D[k] = y at *
        have hy : y ≤ 2000000 := by simp at hbd; omega
        clear hA hx hbd HM
        go_wp2_with fail
        go_roundw
        case rel => exact ⟨k + 1, max md y, by omega, by omega, by go_num, by go_num, HM2, trivial⟩
        case measure => simp [intOf]; omega
      · have hkD : k = D.length := by omega
        have HF : Hid (Tr.deepOf T = md) := Lib.hid (by rw [HC.out, HM.out, hkD, List.take_length])
        clear hkD HM
        go_wp2_with fail
        go_ret
        exact Makes.mk (by rw [HF.out]; rfl) HB2.out
  · have HC : Hid (Tr.deepOf T = 0) := Lib.hid (by unfold Tr.deepOf; rw [if_pos (.inr hb)])
    have e1 : (((Tr.behind T 0 : Nat) : Int) != ((T.length : Nat) : Int)) = true := by rw [bne, beq_no (by omega)]; rfl
    go_enter Tryd.func32, Tryd.ntmps32
    go_wp2_with fail
    refine HBH.out.mono ?_
    rintro e w1 ⟨rfl, rfl⟩
    go_wp2_with fail
    go_ret
    exact Makes.mk (by rw [HC.out]; rfl) (Below.refl _ _)
end Go.Proofs.YtebameiaeldfiaaDoor


/- Walks of trees, the document's: kids, depth; lists of ints alike. -/
import Derived.Test.YtdobaililmkkcaaGreatDoorTrO
namespace Go.Proofs.YtdobaililmkkcaaGreatDoor
set_option linter.unusedSimpArgs false
set_option linter.unusedVariables false
open Go.RowKit Go.Maps Culp

set_option maxRecDepth 100000 in
set_option maxHeartbeats 1600000 in
theorem rKids_any (T : List Nd) (tv : Value) (a : Int) (w : World) (hn : Nodes w tv T) (hT : T.length ≤ 1000000) :
    Calls Tryz.prog 85 #[tv, .int .i64 a] w (KidRes T a w) := by
  have HN := Lib.hid hn
  have HBH := Lib.hid (rBehind_any T tv a w hn hT)
  obtain ⟨A, c, rfl, hlc, _⟩ := hn
  by_cases hb : Tr.behind T a = 0
  · have HK := Lib.hid (kids_nil hb)
    rw [hb] at HBH
    clear hb
    go_enter Tryz.func85, Tryz.ntmps85
    go_wp2_with fail
    refine HBH.out.mono ?_
    rintro e w1 ⟨rfl, rfl⟩
    go_wp2_with fail
    go_ret
    exact ⟨.slice none 0 0, rfl, by rw [HK.out]; exact World.ownsRow_nil _ _ _ _, Below.refl _ _⟩
  · obtain ⟨m, x, q, rfl, hm, hx, hk0, hk1, hq, hbe⟩ := Tr.behind_pos hb
    have HK := Lib.hid (kids_some hb hx)
    have HX := Lib.hid hx
    have HQ := Lib.hid hq
    have e0 := ne_lit (n := Tr.behind T (m : Int)) (z := 0) (by omega)
    obtain ⟨n, hn0⟩ := Int.eq_ofNat_of_zero_le hk0
    have HN0 := Lib.hid hn0
    generalize Tr.behind T (m : Int) = bh at *
    have hnT : n ≤ 1000000 := by omega
    rw [HN0.out, Int.toNat_natCast] at HK
    rw [HN0.out] at HQ
    clear hb hbe hx hq hn0 hk0 hk1
    obtain ⟨A2, c2, e2, _, hN⟩ := HN.out
    simp only [Value.slice.injEq] at e2
    obtain ⟨rfl, _, rfl⟩ := e2
    obtain ⟨b, off, rfl, hM⟩ := hN (by omega)
    have n1' := (hM.at_ HX.out).2.1
    rw [HN0.out] at n1'
    have HC1 := Lib.hid n1'
    clear hN hM n1'
    go_enter Tryz.func85, Tryz.ntmps85
    go_wp2_with fail
    refine HBH.out.mono ?_
    rintro e w1 ⟨rfl, rfl⟩
    clear HBH
    go_wp2_with fail
    go_loopw [5, 7, 8] (fun v pv i wr => ∃ (k p r : Nat) (D : List Nat) (u : Value), u = v ∧ pv = .int .i64 p ∧ i = .int .i64 k ∧ k + r = n ∧ p ≤ T.length + 1 ∧ D.length = k ∧ Hid (Tr.kidsOf T m = D ++ Tr.kidsFrom T r p) ∧ Hid (∃ q, Tr.beh T.length (T.drop p) (r : Int) = some q) ∧ Hid (wr.ownsRow w.heap.size 3 1 u D.length (D.map natV)) ∧ Hid (Below w.heap.size w wr)) (fun _ _ i _ => n - (intOf i).toNat)
    case atStart => exact ⟨0, m + 1, n, [], _, rfl, by go_num, rfl, by omega, by omega, rfl, Lib.hid (by rw [HK.out]; rfl), Lib.hid ⟨_, HQ.out⟩, Lib.hid (World.ownsRow_nil _ _ _ _), Lib.hid (Below.refl _ _)⟩
    case round =>
      clear HQ HK
      obtain ⟨k, p, r, D, u, rfl, rfl, rfl, hkr, hp, hD, HKD, HQE, HOW, HB⟩ := hrel
      have n1 := cell_later HB.out HC1.out
      by_cases hlt : k < n
      · obtain ⟨r', rfl⟩ : ∃ r', r = r' + 1 := ⟨r - 1, by omega⟩
        obtain ⟨q', hq'⟩ := HQE.out
        obtain ⟨j, hj1, hj2, hj3, hj4⟩ := Tr.part_end hq'
        have HKD2 : Hid (Tr.kidsOf T m = (D ++ [p]) ++ Tr.kidsFrom T r' (p + j)) := Lib.hid (by rw [HKD.out, Tr.kidsFrom, hj2]; simp)
        have HQ2 : Hid (∃ q, Tr.beh T.length (T.drop (p + j)) (r' : Int) = some q) := Lib.hid ⟨_, hj3⟩
        have HBJ := Lib.hid hj2
        have own4 := HOW.out
        clear HKD HQE HOW hq' hj1 hj2 hj3
        go_wp2_with (at_builtin; refine append_agg rfl (.tmp 25) (.tmp 27) 83 3 rfl w.heap.size _ 1 8 Tryz.underlying83 int_info rfl (by decide) _ _ _ rfl own4 [.int .i64 (p : Int)] rfl wr.heap.size rfl rfl ?_ ?_ ?_ ?_ ?_)
        · first
            | rfl
            | (intro y hy; simp only [List.mem_cons, List.not_mem_nil, or_false] at hy; subst hy; rfl)
        · omega
        · omega
        · exact HB.out.size
        intro v' w5 hown' hg' hb'
        have HO5 : Hid (w5.ownsRow w.heap.size 3 1 v' (D ++ [p]).length ((D ++ [p]).map natV)) := Lib.hid (by
          rw [List.length_append, List.map_append]
          first
            | exact hown'
            | (rw [hD]; exact hown'))
        have HB5 := Lib.hid (HB.out.trans hb')
        clear own4 hown' hg' hb' HB n1
        go_wp2_with fail
        refine (rBehind_any T _ p _ (HN.out.later HB5.out) hT).mono ?_
        rw [HBJ.out]
        rintro e w6 ⟨rfl, rfl⟩
        go_wp2_with fail
        go_roundw
        case rel => exact ⟨k + 1, p + j, r', D ++ [p], v', rfl, by go_num, by go_num, by omega, by omega, by rw [List.length_append, hD]; rfl, HKD2, HQ2, HO5, HB5⟩
        case measure => simp [intOf]; omega
      · have hr0 : r = 0 := by omega
        have HF : Hid (Tr.kidsOf T m = D) := Lib.hid (by rw [HKD.out, hr0, Tr.kidsFrom, List.append_nil])
        clear HKD HQE hr0
        go_wp2_with fail
        go_ret
        exact ⟨u, rfl, by rw [HF.out]; exact HOW.out, HB.out⟩
end Go.Proofs.YtdobaililmkkcaaGreatDoor

/- Walks of trees: lists of ints alike; the document's depth. -/
namespace Culp.Tr
theorem fold_take (D : List Nat) (k : Nat) (h : k < D.length) : (D.take (k + 1)).foldl max 0 = max ((D.take k).foldl max 0) D[k] := by
  rw [List.take_add_one, List.getElem?_eq_getElem h]
  simp only [Option.toList_some]
  rw [fold_snoc]
theorem deps_bound : ∀ (l : List Nd) (S : List Int), ∀ y ∈ deps l S, y ≤ S.length + l.length
  | [], S, y, h => by rw [deps_nil] at h; cases h
  | x :: l, S, y, h => by
    rw [deps] at h
    split at h
    · cases h
    · rename_i c r hp
      have hl : r.length + 1 ≤ S.length := by
        have := (List.dropWhile_sublist (p := (· == (0 : Int))) (l := S)).length_le
        unfold pop at hp
        rw [hp, List.length_cons] at this
        exact this
      rcases List.mem_cons.1 h with rfl | h
      · omega
      · have := deps_bound l _ y h
        simp only [List.length_cons] at this ⊢
        omega
end Culp.Tr
namespace Go.Proofs.YtdobaililmkkcaaGreatDoor
open Go.RowKit Go.Maps Culp

end Go.Proofs.YtdobaililmkkcaaGreatDoor

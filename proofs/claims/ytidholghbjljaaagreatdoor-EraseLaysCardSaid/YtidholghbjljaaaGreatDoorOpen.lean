
/- Walks of what statements lean on: sizes, marks. -/
import Derived.Test.YtidholghbjljaaaGreatDoorR4W
import Derived.OwnWalk
import Derived.Deep.Slices
import Derived.ChangeSame
import Derived.SizedLaws
import Derived.OpenShut
namespace Go.Proofs.YtidholghbjljaaaGreatDoor
set_option linter.unusedSimpArgs false
set_option linter.unusedVariables false
open Go.RowKit Culp

def szOk (x : Nd) : Prop := x.s.size ≤ 1000000000000000 ∧ x.t.size ≤ 1000000000000000 ∧ x.u.size ≤ 1000000000000000
/-- Some number that is not too large. -/
def SomeInt (n : Int) (w : World) (e : Ending) (w' : World) : Prop := ∃ v : Int, 0 ≤ v ∧ v ≤ n ∧ e = .returned (.int .i64 v) ∧ w = w'
set_option maxHeartbeats 400000 in
theorem sizeType_any (s : ByteArray) (w : World) (hs : s.size ≤ 1000000000000000) : Calls Tryz.prog 33 #[.string s] w (SomeInt 1000000000000000 w) := by
  go_enter Tryz.func33, Tryz.ntmps33
  go_wp2_with fail
  refine (Deep_any s _ hs).mono ?_
  rintro e w' ⟨b, rfl, rfl⟩
  cases b
  all_goals
    go_wp2_with fail
    go_ret
    exact ⟨_, by omega, by omega, rfl, rfl⟩
set_option maxHeartbeats 400000 in
theorem hnum_any (i : Nat) (hi : i ≤ 1000000000000) (w : World) : Calls Tryz.prog 64 #[.int .i64 9, .int .i64 i] w (Gives (.int .i64 (9437184 + (i : Int) + 1)) w) := by
  go_enter Tryz.func64, Tryz.ntmps64
  go_wp2_with fail
  go_ret
  exact Gives.mk rfl
/-- The same, and no number that is beyond counting. -/
def SizeUp (T : List Nd) (w : World) (e : Ending) (w' : World) : Prop := ∃ v : Int, (T.length : Int) ≤ v ∧ v ≤ 4000000000000000 ∧ (v ≤ 2147483647 → ∀ x ∈ T, (x.s.size : Int) ≤ v) ∧ e = .returned (.int .i64 v) ∧ Below w.heap.size w w'
set_option maxHeartbeats 1600000 in
theorem SizeNodes_up (T : List Nd) (tv : Value) (w : World) (hn : Nodes w tv T) (hT : T.length ≤ 1000000000000000) (hsz : ∀ x ∈ T, szOk x) : Calls Tryz.prog 34 #[tv] w (SizeUp T w) := by
  have HN := Lib.hid hn
  have HSZ := Lib.hid hsz
  obtain ⟨A, c, rfl, hlc, hN⟩ := hn
  clear hN hsz
  go_enter Tryz.func34, Tryz.ntmps34
  go_wp2_with fail
  go_loopw [3, 4] (fun a i wr => ∃ (k : Nat) (n : Int), k ≤ T.length ∧ i = .int .i64 k ∧ a = .int .i64 n ∧ (T.length : Int) ≤ n ∧ n ≤ 4000000000000000 ∧ Hid (∀ x ∈ T.take k, (x.s.size : Int) ≤ n) ∧ Hid (Below w.heap.size w wr)) (fun _ i _ => T.length - (intOf i).toNat)
  case atStart => exact ⟨0, T.length, by omega, rfl, rfl, Int.le_refl _, by omega, Lib.hid (by simp), Lib.hid (Below.refl _ _)⟩
  case round =>
    obtain ⟨k, n, hk, rfl, rfl, hn0, hn1, HT, HB⟩ := hrel
    by_cases hlt : k < T.length
    · by_cases hb : n ≤ 2147483647
      · obtain ⟨A2, c2, e2, _, hN⟩ := (HN.out.later HB.out)
        simp only [Value.slice.injEq] at e2
        obtain ⟨rfl, _, rfl⟩ := e2
        obtain ⟨b, off, rfl, hM⟩ := hN (by omega)
        have hx : T[k]? = some T[k] := List.getElem?_eq_getElem hlt
        obtain ⟨n0, n1, n2, n3, n4, n5, n6, n7⟩ := hM.at_ hx
        have htk : T.take (k + 1) = T.take k ++ [T[k]] := by rw [List.take_add_one, hx]; rfl
        have HTK := Lib.hid htk
        clear htk
        have hz := HSZ.out _ (List.mem_of_getElem? hx)
        generalize T[k] = x at *
        obtain ⟨hz1, hz2, hz3⟩ := hz
        have HM := Lib.hid hM
        clear hx hN hM n0 n1 n2 n6 n7
        go_wp2_with fail
        refine wp_region_plan (S := fun w' => w'.cell? ⟨b, off + k * 8 + 3, none⟩ = some (.string x.s) ∧ w'.cell? ⟨b, off + k * 8 + 4, none⟩ = some (.string x.t) ∧ w'.cell? ⟨b, off + k * 8 + 5, none⟩ = some (.string x.u))
          [(0, true), (1, true), (2, true), (3, true), (4, true), (5, true), (6, true), (7, true), (8, true), (9, true), (10, true), (11, true), (12, true), (15, true), (16, true), (17, true), (18, true), (19, true), (13, false), (14, true), (20, false), (21, true), (22, true)] (by kernel_rfl) (by kernel_rfl) (by kernel_rfl) (fun _ _ _ _ _ h => h) ⟨n3, n4, n5⟩ ?_
        intro HS
        repeat (first | (apply wpPlan_look; rfl; rfl; (intro wq hq; (try dsimp only at hq); go_split_ands; go_simp; (try rw [if_neg (by omega)]); (try rw [if_pos (by omega)]); try with_reducible rfl); simp only [Act.put, List.setIfInBounds_toArray, List.set_cons_zero, List.set_cons_succ]) | (apply wpPlan_skip; rfl; rfl; simp only [Act.put, List.setIfInBounds_toArray, List.set_cons_zero, List.set_cons_succ]) | (apply wpPlan_pass; rfl; rfl; assumption; simp only [Act.put, List.setIfInBounds_toArray, List.set_cons_zero, List.set_cons_succ]))
        apply wpPlan_call; rfl; rfl; rfl; rfl; kernel_rfl; exact sizeType_any x.t _ hz2; rfl; rintro e w' ⟨v, hv0, hv1, rfl, rfl⟩
        refine ⟨_, rfl, HS, ?_⟩
        simp only [Act.put, List.setIfInBounds_toArray, List.set_cons_zero, List.set_cons_succ]
        repeat (first | (apply wpPlan_look; rfl; rfl; (intro wq hq; (try dsimp only at hq); go_split_ands; go_simp; (try rw [if_neg (by omega)]); (try rw [if_pos (by omega)]); try with_reducible rfl); simp only [Act.put, List.setIfInBounds_toArray, List.set_cons_zero, List.set_cons_succ]) | (apply wpPlan_skip; rfl; rfl; simp only [Act.put, List.setIfInBounds_toArray, List.set_cons_zero, List.set_cons_succ]) | (apply wpPlan_pass; rfl; rfl; assumption; simp only [Act.put, List.setIfInBounds_toArray, List.set_cons_zero, List.set_cons_succ]))
        apply wpPlan_call; rfl; rfl; rfl; rfl; kernel_rfl; exact sizeType_any x.u _ hz3; rfl; rintro e w' ⟨u, hu0, hu1, rfl, rfl⟩
        refine ⟨_, rfl, HS, ?_⟩
        have r1 : IntKind.i64.wrap (n + (x.s.size : Int)) = n + (x.s.size : Int) := IntWalk.i64_in _ (by omega)
        have r2 : IntKind.i64.wrap (n + (x.s.size : Int) + v) = n + (x.s.size : Int) + v := IntWalk.i64_in _ (by omega)
        have r3 : IntKind.i64.wrap (n + (x.s.size : Int) + v + u) = n + (x.s.size : Int) + v + u := IntWalk.i64_in _ (by omega)
        have HR := Lib.hid (show (T.length : Int) ≤ n + (x.s.size : Int) + v + u ∧ n + (x.s.size : Int) + v + u ≤ 4000000000000000 by omega)
        simp only [Act.put, List.setIfInBounds_toArray, List.set_cons_zero, List.set_cons_succ]
        repeat (first | (apply wpPlan_look; rfl; rfl; (intro wq hq; (try dsimp only at hq); go_split_ands; go_simp; (try rw [if_neg (by omega)]); (try rw [if_pos (by omega)]); try with_reducible rfl); simp only [Act.put, List.setIfInBounds_toArray, List.set_cons_zero, List.set_cons_succ]) | (apply wpPlan_skip; rfl; rfl; simp only [Act.put, List.setIfInBounds_toArray, List.set_cons_zero, List.set_cons_succ]) | (apply wpPlan_pass; rfl; rfl; assumption; simp only [Act.put, List.setIfInBounds_toArray, List.set_cons_zero, List.set_cons_succ]))
        apply wpPlan_done
        have HB2 := Lib.hid HB.out.drew
        have HT2 : Hid (∀ y ∈ T.take (k + 1), (y.s.size : Int) ≤ n + (x.s.size : Int) + v + u) := Lib.hid (by
          intro y hy
          rw [HTK.out] at hy
          rcases List.mem_append.1 hy with hy | hy
          · have := HT.out y hy; omega
          · rw [List.mem_singleton.1 hy]; have : (0 : Int) ≤ n := by omega
            omega)
        clear HS HM r1 r2 r3 HT HTK
        go_wp2_with fail
        go_roundw
        case rel => exact ⟨k + 1, _, by omega, by go_num, rfl, HR.out.1, HR.out.2, HT2, HB2⟩
        case measure => simp [intOf]; omega
      · have hb' : decide (n ≤ 2147483647) = false := decide_eq_false hb
        go_wp2_with fail
        go_ret
        exact ⟨_, hn0, hn1, fun h => absurd h (by omega), rfl, HB.out⟩
    · have hkT : k = T.length := by omega
      have HA : Hid (∀ x ∈ T, (x.s.size : Int) ≤ n) := Lib.hid (fun x hx => HT.out x (by rw [hkT, List.take_length]; exact hx))
      clear hkT
      go_wp2_with fail
      go_ret
      exact ⟨_, hn0, hn1, fun _ => HA.out, rfl, HB.out⟩

set_option maxHeartbeats 1600000 in
theorem EqNodes_same (T : List Nd) (tv uv : Value) (w : World) (hn : Nodes w tv T) (hu : Nodes w uv T) (hT : T.length ≤ 100000000000) : Calls Tryz.prog 135 #[tv, uv] w (Makes (.bool true) w) := by
  have HN := Lib.hid hn
  have HU := Lib.hid hu
  obtain ⟨A, c, rfl, hlc, hN⟩ := hn
  obtain ⟨B, d, rfl, hld, hU⟩ := hu
  clear hN hU
  go_enter Tryz.func135, Tryz.ntmps135
  go_wp2_with fail
  go_loopw [5] (fun i wr => ∃ k : Nat, k ≤ T.length ∧ i = .int .i64 k ∧ Hid (Below w.heap.size w wr)) (fun i _ => T.length - (intOf i).toNat)
  case atStart => exact ⟨0, by omega, rfl, Lib.hid (Below.refl _ _)⟩
  case round =>
    obtain ⟨k, hk, rfl, HB⟩ := hrel
    by_cases hlt : k < T.length
    · obtain ⟨A2, c2, e2, _, hN⟩ := (HN.out.later HB.out)
      simp only [Value.slice.injEq] at e2
      obtain ⟨rfl, _, rfl⟩ := e2
      obtain ⟨b, off, rfl, hM⟩ := hN (by omega)
      obtain ⟨B2, d2, e3, _, hN2⟩ := (HU.out.later HB.out)
      simp only [Value.slice.injEq] at e3
      obtain ⟨rfl, _, rfl⟩ := e3
      obtain ⟨b2, off2, rfl, hM2⟩ := hN2 (by omega)
      have hx : T[k]? = some T[k] := List.getElem?_eq_getElem hlt
      obtain ⟨n0, n1, n2, n3, n4, n5, n6, n7⟩ := hM.at_ hx
      obtain ⟨q0, q1, q2, q3, q4, q5, q6, q7⟩ := hM2.at_ hx
      generalize T[k] = x at *
      clear hx hN hM hN2 hM2
      go_wp2_with fail
      refine wp_region_plan (S := fun w' => (w'.cell? ⟨b, off + k * 8, none⟩ = some (.int .i8 x.kind) ∧ w'.cell? ⟨b, off + k * 8 + 1, none⟩ = some (.int .i64 x.kids) ∧ w'.cell? ⟨b, off + k * 8 + 2, none⟩ = some (.int .i64 x.n) ∧ w'.cell? ⟨b, off + k * 8 + 3, none⟩ = some (.string x.s) ∧ w'.cell? ⟨b, off + k * 8 + 4, none⟩ = some (.string x.t) ∧ w'.cell? ⟨b, off + k * 8 + 5, none⟩ = some (.string x.u) ∧ w'.cell? ⟨b, off + k * 8 + 6, none⟩ = some (.int .i64 x.line) ∧ w'.cell? ⟨b, off + k * 8 + 7, none⟩ = some (.int .i64 x.col)) ∧
          (w'.cell? ⟨b2, off2 + k * 8, none⟩ = some (.int .i8 x.kind) ∧ w'.cell? ⟨b2, off2 + k * 8 + 1, none⟩ = some (.int .i64 x.kids) ∧ w'.cell? ⟨b2, off2 + k * 8 + 2, none⟩ = some (.int .i64 x.n) ∧ w'.cell? ⟨b2, off2 + k * 8 + 3, none⟩ = some (.string x.s) ∧ w'.cell? ⟨b2, off2 + k * 8 + 4, none⟩ = some (.string x.t) ∧ w'.cell? ⟨b2, off2 + k * 8 + 5, none⟩ = some (.string x.u) ∧ w'.cell? ⟨b2, off2 + k * 8 + 6, none⟩ = some (.int .i64 x.line) ∧ w'.cell? ⟨b2, off2 + k * 8 + 7, none⟩ = some (.int .i64 x.col)))
        [(0, true), (1, true), (2, true), (3, true), (4, true), (5, true), (6, true), (7, true), (8, true)] (by kernel_rfl) (by kernel_rfl) (by kernel_rfl) (fun _ _ _ _ _ h => h) ⟨⟨n0, n1, n2, n3, n4, n5, n6, n7⟩, ⟨q0, q1, q2, q3, q4, q5, q6, q7⟩⟩ ?_
      intro HS
      repeat (first | (apply wpPlan_look; rfl; rfl; (intro wq hq; (try dsimp only at hq); go_split_ands; go_simp; (try rw [if_neg (by omega)]); (try rw [if_pos (by omega)]); try with_reducible rfl); simp only [Act.put, List.setIfInBounds_toArray, List.set_cons_zero, List.set_cons_succ]) | (apply wpPlan_skip; rfl; rfl; simp only [Act.put, List.setIfInBounds_toArray, List.set_cons_zero, List.set_cons_succ]) | (apply wpPlan_pass; rfl; rfl; assumption; simp only [Act.put, List.setIfInBounds_toArray, List.set_cons_zero, List.set_cons_succ]))
      apply wpPlan_done
      have HB2 := Lib.hid HB.out.drew
      clear HS n0 n1 n2 n3 n4 n5 n6 n7 q0 q1 q2 q3 q4 q5 q6 q7
      go_wp2_with fail
      go_roundw
      case rel => exact ⟨k + 1, by omega, by go_num, HB2⟩
      case measure => simp [intOf]; omega
    · go_wp2_with fail
      go_ret
      exact Makes.mk rfl HB.out

/-- The marks behind a list. -/
def markN (i : Nat) : Nd := ⟨0, 9437184 + (i : Int) + 1, 0, ⟨#[]⟩, ⟨#[]⟩, ⟨#[]⟩, 0, 0⟩
def marks (n : Nat) : List Nd := (List.range 64).map fun k => markN (n + k)
theorem marks_at {T : List Nd} {i : Nat} (h1 : T.length ≤ i) (h2 : i < T.length + 64) : (T ++ marks T.length)[i]? = some (markN i) := by
  rw [List.getElem?_append_right h1]
  unfold marks
  rw [List.getElem?_map, List.getElem?_range (by omega)]
  simp only [Option.map_some, Option.some.injEq]
  congr 1
  omega
set_option maxHeartbeats 1600000 in
theorem SpareNodes_any (T : List Nd) (g : Nat) (w : World) (hn : NodesAt w g 0 (T ++ marks T.length)) (hT : T.length ≤ 100000000000) : Calls Tryz.prog 136 #[.slice (some ⟨g, 0, none⟩) T.length (T.length + 64 : Nat)] w (Makes (.bool true) w) := by
  have HN := Lib.hid hn
  clear hn
  go_enter Tryz.func136, Tryz.ntmps136
  go_wp2_with fail
  go_loopw [4] (fun i wr => ∃ k : Nat, T.length ≤ k ∧ k ≤ T.length + 64 ∧ i = .int .i64 k ∧ Hid (Below w.heap.size w wr)) (fun i _ => T.length + 64 - (intOf i).toNat)
  case atStart => exact ⟨T.length, by omega, by omega, rfl, Lib.hid (Below.refl _ _)⟩
  case round =>
    obtain ⟨k, hk0, hk, rfl, HB⟩ := hrel
    by_cases hlt : k < T.length + 64
    · have hx := marks_at hk0 hlt
      obtain ⟨n0, n1, n2, n3, n4, n5, n6, n7⟩ := (HN.out.later HB.out).at_ hx
      simp only [markN, Nat.zero_add] at n0 n1 n2 n3 n4 n5 n6 n7
      clear hx
      have hkb : k ≤ 1000000000000 := by omega
      go_wp2_with fail
      have hB0 : Below wr.heap.size wr (wr.alloc (.cells #[.int .i8 0, .int .i64 (9437184 + (k : Int) + 1), .int .i64 0, .string ⟨#[]⟩, .string ⟨#[]⟩, .string ⟨#[]⟩, .int .i64 0, .int .i64 0] 81)) := (Below.refl _ _).alloc (Nat.le_refl _) _
      have hB2 := below_later hB0.drew HB.out
      refine wp_region_plan (S := fun w' => w'.cell? ⟨wr.heap.size, 0, none⟩ = some (.int .i8 0) ∧ w'.cell? ⟨wr.heap.size, 1, none⟩ = some (.int .i64 (9437184 + (k : Int) + 1)) ∧ w'.cell? ⟨wr.heap.size, 2, none⟩ = some (.int .i64 0) ∧ w'.cell? ⟨wr.heap.size, 3, none⟩ = some (.string ⟨#[]⟩) ∧ w'.cell? ⟨wr.heap.size, 4, none⟩ = some (.string ⟨#[]⟩) ∧ w'.cell? ⟨wr.heap.size, 5, none⟩ = some (.string ⟨#[]⟩) ∧ w'.cell? ⟨wr.heap.size, 6, none⟩ = some (.int .i64 0) ∧ w'.cell? ⟨wr.heap.size, 7, none⟩ = some (.int .i64 0))
        [(0, true), (1, true), (2, false), (3, true), (4, true), (5, true)] (by kernel_rfl) (by kernel_rfl) (by kernel_rfl) (fun _ _ _ _ _ h => h) (by refine ⟨?_, ?_, ?_, ?_, ?_, ?_, ?_, ?_⟩ <;> go_simp) ?_
      intro HS
      repeat (first | (apply wpPlan_look; rfl; rfl; (intro wq hq; (try dsimp only at hq); go_split_ands; go_simp; (try rw [if_neg (by omega)]); (try rw [if_pos (by omega)]); try with_reducible rfl); simp only [Act.put, List.setIfInBounds_toArray, List.set_cons_zero, List.set_cons_succ]) | (apply wpPlan_skip; rfl; rfl; simp only [Act.put, List.setIfInBounds_toArray, List.set_cons_zero, List.set_cons_succ]) | (apply wpPlan_pass; rfl; rfl; assumption; simp only [Act.put, List.setIfInBounds_toArray, List.set_cons_zero, List.set_cons_succ]))
      apply wpPlan_call; rfl; rfl; rfl; rfl; kernel_rfl; exact hnum_any k hkb _; rfl; rintro e w' ⟨rfl, rfl⟩
      refine ⟨_, rfl, HS, ?_⟩
      simp only [Act.put, List.setIfInBounds_toArray, List.set_cons_zero, List.set_cons_succ]
      repeat (first | (apply wpPlan_look; rfl; rfl; (intro wq hq; (try dsimp only at hq); go_split_ands; go_simp; (try rw [if_neg (by omega)]); (try rw [if_pos (by omega)]); try with_reducible rfl); simp only [Act.put, List.setIfInBounds_toArray, List.set_cons_zero, List.set_cons_succ]) | (apply wpPlan_skip; rfl; rfl; simp only [Act.put, List.setIfInBounds_toArray, List.set_cons_zero, List.set_cons_succ]) | (apply wpPlan_pass; rfl; rfl; assumption; simp only [Act.put, List.setIfInBounds_toArray, List.set_cons_zero, List.set_cons_succ]))
      apply wpPlan_done
      have HB2 := Lib.hid hB2
      clear HS hB0 hB2 n0 n1 n2 n3 n4 n5 n6 n7
      go_wp2_with fail
      go_roundw
      case rel => exact ⟨k + 1, by omega, by omega, by go_num, HB2⟩
      case measure => simp [intOf]; omega
    · go_wp2_with fail
      go_ret
      exact Makes.mk rfl HB.out

theorem node_info : (Tryz.prog.info? 81).map (fun i => (i.zero, i.size, i.bytes)) = some (some (.agg #[.int .i8 0, .int .i64 0, .int .i64 0, .string ByteArray.empty, .string ByteArray.empty, .string ByteArray.empty, .int .i64 0, .int .i64 0]), 8, 88) := by kernel_rfl
end Go.Proofs.YtidholghbjljaaaGreatDoor

/- Arguments: a list of nodes that came in, as its cells. -/
namespace Go.Proofs.YtidholghbjljaaaGreatDoor
set_option linter.unusedSimpArgs false
set_option linter.unusedVariables false
open Go.RowKit Culp Go.ChangeShapes Go.WideShapes Go.Deep

/-- A node's datum. -/
def nodeD {H : Type} (x : Nd) : DataW H := .agg [.lit (.int .i8 x.kind), .lit (.int .i64 x.kids), .lit (.int .i64 x.n), .lit (.string x.s.data.toList), .lit (.string x.t.data.toList), .lit (.string x.u.data.toList), .agg [.lit (.int .i64 x.line), .lit (.int .i64 x.col)]]
theorem k1 : Tryz.prog.cellsOf 77 = 1 := by kernel_rfl
theorem k2 : Tryz.prog.cellsOf 3 = 1 := by kernel_rfl
theorem k3 : Tryz.prog.cellsOf 2 = 1 := by kernel_rfl
theorem k4 : Tryz.prog.cellsOf 9 = 1 := by kernel_rfl
theorem k5 : Tryz.prog.cellsOf 79 = 2 := by kernel_rfl
theorem k6 : Tryz.prog.cellsOf 81 = 8 := by kernel_rfl

section
variable {H : Type} {enc : TypeId × Value → H} {w : World} {base : Nat} {spare : Nat → Bool} {held : Bool}
/-- A node's numbers fit. -/
def NumOk (x : Nd) : Prop := x.kids ≤ 9223372036854775807 ∧ x.n ≤ 9223372036854775807
set_option maxRecDepth 100000 in
theorem open_node {n : Nat} {cs : List Value} {y : DataW H × List MemPlace} (h : DataW.trod enc Tryz.prog w base spare held n 81 cs = some y) : ∃ x : Nd, cs = x.cells ∧ y.1 = nodeD x ∧ NumOk x := by
  obtain ⟨ys, n', _, rfl, hlen, hyl, hf⟩ := DataW.trod_struct Tryz.underlying81 h
  rw [k6] at hlen
  match cs, hlen, ys, hyl with
  | [c0, c1, c2, c3, c4, c5, c6, c7], _, [y0, y1, y2, y3, y4, y5, y6], _ =>
    have h0 := hf 0 _ rfl
    have h1 := hf 1 _ rfl
    have h2 := hf 2 _ rfl
    have h3 := hf 3 _ rfl
    have h4 := hf 4 _ rfl
    have h5 := hf 5 _ rfl
    have h6 := hf 6 _ rfl
    simp [k1, k2, k3, k4, k5] at h0 h1 h2 h3 h4 h5 h6
    obtain ⟨a0, e0, z0, _⟩ := DataW.trod_int Tryz.underlying77 h0
    obtain ⟨a1, e1, z1, w1⟩ := DataW.trod_int Tryz.underlying3 h1
    obtain ⟨a2, e2, z2, w2⟩ := DataW.trod_int Tryz.underlying2 h2
    obtain ⟨a3, e3, z3, _⟩ := DataW.trod_string Tryz.underlying9 h3
    obtain ⟨a4, e4, z4, _⟩ := DataW.trod_string Tryz.underlying9 h4
    obtain ⟨a5, e5, z5, _⟩ := DataW.trod_string Tryz.underlying9 h5
    obtain ⟨zs, m, _, z6, hl6, hyl6, hf6⟩ := DataW.trod_struct Tryz.underlying79 h6
    match zs, hyl6 with
    | [x0, x1], _ =>
      have g0 := hf6 0 _ rfl
      have g1 := hf6 1 _ rfl
      simp [k2] at g0 g1
      obtain ⟨b0, f0, q0, _⟩ := DataW.trod_int Tryz.underlying3 g0
      obtain ⟨b1, f1, q1, _⟩ := DataW.trod_int Tryz.underlying3 g1
      simp at e0 e1 e2 e3 e4 e5 f0 f1
      subst e0 e1 e2 e3 e4 e5 f0 f1
      refine ⟨⟨a0, a1, a2, a3, a4, a5, b0, b1⟩, rfl, ?_, (bounds_i64 w1).2, (bounds_i64 w2).2⟩
      subst z0 z1 z2 z3 z4 z5 q0 q1 z6
      rfl
set_option maxRecDepth 100000 in
/-- A list of nodes that came in. -/
theorem open_nodesN {A : Option Addr} {len cap : Nat} {v : Value} (hv : v = .slice A len cap) {d : DataW H} {p : List MemPlace} (h : DataW.Trod enc Tryz.prog w base spare held 82 v d p) :
    ∃ T : List Nd, Nodes w v T ∧ T.length ≤ maxLen ∧ ((d = .nil ∧ T = []) ∨ ∃ more : List (DataW H), d = .slice (T.map nodeD) more) ∧ (0 < T.length → ∃ a, v = .slice (some a) T.length (match v with | .slice _ _ c => c | _ => 0) ∧ base ≤ a.block) ∧ ∀ x ∈ T, NumOk x := by
  subst hv
  obtain ⟨fuel, hf⟩ := h
  rcases open_slice Tryz.underlying82 hf with ⟨h0, h1⟩ | ⟨a, len', cap', m, n, D, Pl, hcs, hb, hl, hm, hmm, hx, hi⟩
  · simp [Value.cells] at h0
    obtain ⟨rfl, rfl, rfl⟩ := h0
    simp only [Prod.mk.injEq] at h1
    exact ⟨[], ⟨none, 0, rfl, by simp, fun h => by simp at h⟩, by unfold maxLen; simp, .inl ⟨h1.1, rfl⟩, (fun h => by simp at h), by simp⟩
  · simp [Value.cells] at hcs
    obtain ⟨rfl, rfl, rfl⟩ := hcs
    have hlm : len ≤ m := by rw [hmm]; split <;> omega
    have hch : ∀ i, ∃ x : Nd, i < m → (∀ j u, x.cells[j]? = some u → w.cell? (a.add (i * 8 + j)) = some u) ∧ D i = nodeD x ∧ NumOk x := by
      intro i
      by_cases him : i < m
      · obtain ⟨cs', hc, ht⟩ := hi i him
        obtain ⟨x, rfl, hD⟩ := open_node ht
        refine ⟨x, fun _ => ⟨fun j u hu => ?_, hD⟩⟩
        obtain ⟨_, hcl, hat⟩ := World.cells?_some hc
        have hj : j < 8 := by have := (List.getElem?_eq_some_iff.1 hu).1; simpa [Nd.cells] using this
        have := hat j (by rw [k6]; exact hj)
        rw [k6, Go.Deep.add_add] at this
        rw [this]; exact hu
      · exact ⟨⟨0, 0, 0, ⟨#[]⟩, ⟨#[]⟩, ⟨#[]⟩, 0, 0⟩, fun h => absurd h him⟩
    let X : Nat → Nd := fun i => (hch i).choose
    have hX : ∀ i, i < m → (∀ j u, (X i).cells[j]? = some u → w.cell? (a.add (i * 8 + j)) = some u) ∧ D i = nodeD (X i) ∧ NumOk (X i) := fun i => (hch i).choose_spec
    have hlen : ((List.range len).map X).length = len := by simp
    refine ⟨(List.range len).map X, ⟨some a, cap, by rw [hlen], by rw [hlen]; exact hl, fun h0 => ?_⟩, by rw [hlen]; omega, .inr ?_, (fun _ => ⟨a, by rw [hlen], hb⟩), ?_⟩
    · rw [hlen] at h0
      have hsp : a.spot = none := by
        have := (hX 0 (by omega)).1 0 _ rfl
        simpa [Addr.add] using World.cell?_spot this
      obtain ⟨b, off, sp⟩ := a
      simp only at hsp
      subst hsp
      refine ⟨b, off, rfl, fun i x hx j u hu => ?_⟩
      have hil : i < len := by have := (List.getElem?_eq_some_iff.1 hx).1; simpa using this
      rw [List.getElem?_map, List.getElem?_range hil] at hx
      simp at hx
      subst hx
      have := (hX i (by omega)).1 j u hu
      have hadd : (⟨b, off, none⟩ : Addr).add (i * 8 + j) = ⟨b, off + i * 8 + j, none⟩ := by
        unfold Addr.add; split
        · rename_i h0; simp [show i = 0 by omega, show j = 0 by omega]
        · simp [Nat.add_assoc]
      rw [hadd] at this
      exact this
    · simp only [Prod.mk.injEq] at hx
      refine ⟨(List.range (m - len)).map fun j => D (len + j), hx.1.trans ?_⟩
      congr 1
      rw [List.map_map]
      refine List.map_congr_left fun i hi => ?_
      exact (hX i (by have := List.mem_range.1 hi; omega)).2.1
    · intro x hx2
      obtain ⟨i, hi, rfl⟩ := List.mem_map.1 hx2
      exact (hX i (by have := List.mem_range.1 hi; omega)).2.2
end

theorem weightsAll_mem {H : Type} {P : Program} {t : TypeId} {d : DataW H} {n : Nat} : ∀ {l : List (DataW H)}, d ∈ l → n ∈ d.weights P t → n ∈ DataW.weightsAll P t l
  | [], h, _ => by cases h
  | x :: l, h, hn => by
    simp only [DataW.weightsAll, List.mem_append]
    rcases List.mem_cons.1 h with rfl | h
    · exact .inl hn
    · exact .inr (weightsAll_mem h hn)
theorem node_weights {H : Type} (x : Nd) : x.s.data.toList.length ∈ (nodeD x : DataW H).weights Tryz.prog 81 ∧ x.t.data.toList.length ∈ (nodeD x : DataW H).weights Tryz.prog 81 ∧ x.u.data.toList.length ∈ (nodeD x : DataW H).weights Tryz.prog 81 := by
  simp [nodeD, DataW.weights, Tryz.underlying81, DataW.weightsEach]
end Go.Proofs.YtidholghbjljaaaGreatDoor

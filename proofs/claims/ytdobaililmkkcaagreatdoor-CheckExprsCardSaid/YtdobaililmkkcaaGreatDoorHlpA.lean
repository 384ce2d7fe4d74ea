
/- Walks of what statements lean on: sizes, marks. -/
import Derived.Test.YtdobaililmkkcaaGreatDoorR4W
import Derived.Test.YtdobaililmkkcaaGreatDoorNode
import Derived.Test.YtdobaililmkkcaaGreatDoorPlan
import Derived.Test.YtdobaililmkkcaaGreatDoorTr
import Derived.OwnWalk
namespace Go.Proofs.YtdobaililmkkcaaGreatDoor
set_option linter.unusedSimpArgs false
set_option linter.unusedVariables false
open Go.RowKit Culp

def szOk (x : Nd) : Prop := x.s.size ≤ 1000000000000000 ∧ x.t.size ≤ 1000000000000000 ∧ x.u.size ≤ 1000000000000000
/-- Some number that is not too large. -/
def SomeInt (n : Int) (w : World) (e : Ending) (w' : World) : Prop := ∃ v : Int, 0 ≤ v ∧ v ≤ n ∧ e = .returned (.int .i64 v) ∧ w = w'
set_option maxHeartbeats 400000 in
theorem hnum_any (i : Nat) (hi : i ≤ 1000000000000) (w : World) : Calls Tryz.prog 29 #[.int .i64 9, .int .i64 i] w (Gives (.int .i64 (9437184 + (i : Int) + 1)) w) := by
  go_enter Tryz.func29, Tryz.ntmps29
  go_wp2_with fail
  go_ret
  exact Gives.mk rfl
/-- Some number, and new memory perhaps. -/
def SomeSize (w : World) (e : Ending) (w' : World) : Prop := ∃ v : Int, e = .returned (.int .i64 v) ∧ Below w.heap.size w w'
/-- Some number, no less than the nodes are and what each says, and new memory perhaps. -/
def SizeGe (T : List Nd) (w : World) (e : Ending) (w' : World) : Prop := ∃ v : Int, (T.length : Int) ≤ v ∧ (v ≤ 2147483647 → ∀ x ∈ T, (x.s.size : Int) ≤ v) ∧ e = .returned (.int .i64 v) ∧ Below w.heap.size w w'
/-- A law's bound on sizes lets a list of nodes by. -/
def LongRes (T : List Nd) (w : World) (e : Ending) (w' : World) : Prop := ∃ b : Bool, e = .returned (.bool b) ∧ (b = false → T.length ≤ 32768) ∧ Below w.heap.size w w'
theorem nd_eq (x y : Nd) : x.val = y.val ↔ x = y := by
  obtain ⟨a1, a2, a3, a4, a5, a6, a7, a8⟩ := x
  obtain ⟨b1, b2, b3, b4, b5, b6, b7, b8⟩ := y
  simp [Nd.val, Nd.cells]

set_option maxHeartbeats 1600000 in
theorem EqNodes_same (T : List Nd) (tv uv : Value) (w : World) (hn : Nodes w tv T) (hu : Nodes w uv T) (hT : T.length ≤ 100000000000) : Calls Tryz.prog 18 #[tv, uv] w (Makes (.bool true) w) := by
  have HN := Lib.hid hn
  have HU := Lib.hid hu
  obtain ⟨A, c, rfl, hlc, hN⟩ := hn
  obtain ⟨B, d, rfl, hld, hU⟩ := hu
  clear hN hU
  go_enter Tryz.func18, Tryz.ntmps18
  go_wp2_with fail
  go_loopw [5] (fun i wr => ∃ k : Nat, k ≤ T.length ∧ i = .int .i64 k ∧ Hid (Below w.heap.size w wr)) (fun i _ => T.length - (intOf i).toNat)
  case atStart => exact ⟨0, by omega, rfl, Lib.hid (Below.refl _ _)⟩
  case round =>
    obtain ⟨k, hk, rfl, HB⟩ := hrel
    by_cases hlt : k < T.length
    · obtain ⟨A2, c2, e2, _, hN⟩ := (HN.out.later HB.out)
      simp only [Value.slice.injEq] at e2
      obtain ⟨rfl, _, rfl⟩ := e2
      obtain ⟨b, off, rfl, hM⟩ := hN (by omega)
      obtain ⟨B2, d2, e3, _, hN2⟩ := (HU.out.later HB.out)
      simp only [Value.slice.injEq] at e3
      obtain ⟨rfl, _, rfl⟩ := e3
      obtain ⟨b2, off2, rfl, hM2⟩ := hN2 (by omega)
      have hx : T[k]? = some T[k] := List.getElem?_eq_getElem hlt
      obtain ⟨n0, n1, n2, n3, n4, n5, n6, n7⟩ := hM.at_ hx
      obtain ⟨q0, q1, q2, q3, q4, q5, q6, q7⟩ := hM2.at_ hx
      generalize T[k] = x at *
      clear hx hN hM hN2 hM2
      go_wp2_with fail
      refine wp_region_plan (S := fun w' => (w'.cell? ⟨b, off + k * 8, none⟩ = some (.int .i8 x.kind) ∧ w'.cell? ⟨b, off + k * 8 + 1, none⟩ = some (.int .i64 x.kids) ∧ w'.cell? ⟨b, off + k * 8 + 2, none⟩ = some (.int .i64 x.n) ∧ w'.cell? ⟨b, off + k * 8 + 3, none⟩ = some (.string x.s) ∧ w'.cell? ⟨b, off + k * 8 + 4, none⟩ = some (.string x.t) ∧ w'.cell? ⟨b, off + k * 8 + 5, none⟩ = some (.string x.u) ∧ w'.cell? ⟨b, off + k * 8 + 6, none⟩ = some (.int .i64 x.line) ∧ w'.cell? ⟨b, off + k * 8 + 7, none⟩ = some (.int .i64 x.col)) ∧
          (w'.cell? ⟨b2, off2 + k * 8, none⟩ = some (.int .i8 x.kind) ∧ w'.cell? ⟨b2, off2 + k * 8 + 1, none⟩ = some (.int .i64 x.kids) ∧ w'.cell? ⟨b2, off2 + k * 8 + 2, none⟩ = some (.int .i64 x.n) ∧ w'.cell? ⟨b2, off2 + k * 8 + 3, none⟩ = some (.string x.s) ∧ w'.cell? ⟨b2, off2 + k * 8 + 4, none⟩ = some (.string x.t) ∧ w'.cell? ⟨b2, off2 + k * 8 + 5, none⟩ = some (.string x.u) ∧ w'.cell? ⟨b2, off2 + k * 8 + 6, none⟩ = some (.int .i64 x.line) ∧ w'.cell? ⟨b2, off2 + k * 8 + 7, none⟩ = some (.int .i64 x.col)))
        [(0, true), (1, true), (2, true), (3, true), (4, true), (5, true), (6, true), (7, true), (8, true)] (by kernel_rfl) (by kernel_rfl) (by kernel_rfl) (fun _ _ _ _ _ h => h) ⟨⟨n0, n1, n2, n3, n4, n5, n6, n7⟩, ⟨q0, q1, q2, q3, q4, q5, q6, q7⟩⟩ ?_
      intro HS
      repeat (first | (apply wpPlan_look; rfl; rfl; (intro wq hq; (try dsimp only at hq); go_split_ands; go_simp; (try rw [if_neg (by omega)]); (try rw [if_pos (by omega)]); try with_reducible rfl); simp only [Act.put, List.setIfInBounds_toArray, List.set_cons_zero, List.set_cons_succ]) | (apply wpPlan_skip; rfl; rfl; simp only [Act.put, List.setIfInBounds_toArray, List.set_cons_zero, List.set_cons_succ]) | (apply wpPlan_pass; rfl; rfl; assumption; simp only [Act.put, List.setIfInBounds_toArray, List.set_cons_zero, List.set_cons_succ]))
      apply wpPlan_done
      have HB2 := Lib.hid HB.out.drew
      clear HS n0 n1 n2 n3 n4 n5 n6 n7 q0 q1 q2 q3 q4 q5 q6 q7
      go_wp2_with fail
      go_roundw
      case rel => exact ⟨k + 1, by omega, by go_num, HB2⟩
      case measure => simp [intOf]; omega
    · go_wp2_with fail
      go_ret
      exact Makes.mk rfl HB.out

/-- The marks behind a list. -/
def markN (i : Nat) : Nd := ⟨0, 9437184 + (i : Int) + 1, 0, ⟨#[]⟩, ⟨#[]⟩, ⟨#[]⟩, 0, 0⟩
def marks (n : Nat) : List Nd := (List.range 64).map fun k => markN (n + k)
theorem marks_at {T : List Nd} {i : Nat} (h1 : T.length ≤ i) (h2 : i < T.length + 64) : (T ++ marks T.length)[i]? = some (markN i) := by
  rw [List.getElem?_append_right h1]
  unfold marks
  rw [List.getElem?_map, List.getElem?_range (by omega)]
  simp only [Option.map_some, Option.some.injEq]
  congr 1
  omega
set_option maxHeartbeats 1600000 in
theorem SpareNodes_any (T : List Nd) (g : Nat) (w : World) (hn : NodesAt w g 0 (T ++ marks T.length)) (hT : T.length ≤ 100000000000) : Calls Tryz.prog 19 #[.slice (some ⟨g, 0, none⟩) T.length (T.length + 64 : Nat)] w (Makes (.bool true) w) := by
  have HN := Lib.hid hn
  clear hn
  go_enter Tryz.func19, Tryz.ntmps19
  go_wp2_with fail
  go_loopw [4] (fun i wr => ∃ k : Nat, T.length ≤ k ∧ k ≤ T.length + 64 ∧ i = .int .i64 k ∧ Hid (Below w.heap.size w wr)) (fun i _ => T.length + 64 - (intOf i).toNat)
  case atStart => exact ⟨T.length, by omega, by omega, rfl, Lib.hid (Below.refl _ _)⟩
  case round =>
    obtain ⟨k, hk0, hk, rfl, HB⟩ := hrel
    by_cases hlt : k < T.length + 64
    · have hx := marks_at hk0 hlt
      obtain ⟨n0, n1, n2, n3, n4, n5, n6, n7⟩ := (HN.out.later HB.out).at_ hx
      simp only [markN, Nat.zero_add] at n0 n1 n2 n3 n4 n5 n6 n7
      clear hx
      have hkb : k ≤ 1000000000000 := by omega
      go_wp2_with fail
      have hB0 : Below wr.heap.size wr (wr.alloc (.cells #[.int .i8 0, .int .i64 (9437184 + (k : Int) + 1), .int .i64 0, .string ⟨#[]⟩, .string ⟨#[]⟩, .string ⟨#[]⟩, .int .i64 0, .int .i64 0] 64)) := (Below.refl _ _).alloc (Nat.le_refl _) _
      have hB2 := below_later hB0.drew HB.out
      refine wp_region_plan (S := fun w' => w'.cell? ⟨wr.heap.size, 0, none⟩ = some (.int .i8 0) ∧ w'.cell? ⟨wr.heap.size, 1, none⟩ = some (.int .i64 (9437184 + (k : Int) + 1)) ∧ w'.cell? ⟨wr.heap.size, 2, none⟩ = some (.int .i64 0) ∧ w'.cell? ⟨wr.heap.size, 3, none⟩ = some (.string ⟨#[]⟩) ∧ w'.cell? ⟨wr.heap.size, 4, none⟩ = some (.string ⟨#[]⟩) ∧ w'.cell? ⟨wr.heap.size, 5, none⟩ = some (.string ⟨#[]⟩) ∧ w'.cell? ⟨wr.heap.size, 6, none⟩ = some (.int .i64 0) ∧ w'.cell? ⟨wr.heap.size, 7, none⟩ = some (.int .i64 0))
        [(0, true), (1, true), (2, false), (3, true), (4, true), (5, true)] (by kernel_rfl) (by kernel_rfl) (by kernel_rfl) (fun _ _ _ _ _ h => h) (by refine ⟨?_, ?_, ?_, ?_, ?_, ?_, ?_, ?_⟩ <;> go_simp) ?_
      intro HS
      repeat (first | (apply wpPlan_look; rfl; rfl; (intro wq hq; (try dsimp only at hq); go_split_ands; go_simp; (try rw [if_neg (by omega)]); (try rw [if_pos (by omega)]); try with_reducible rfl); simp only [Act.put, List.setIfInBounds_toArray, List.set_cons_zero, List.set_cons_succ]) | (apply wpPlan_skip; rfl; rfl; simp only [Act.put, List.setIfInBounds_toArray, List.set_cons_zero, List.set_cons_succ]) | (apply wpPlan_pass; rfl; rfl; assumption; simp only [Act.put, List.setIfInBounds_toArray, List.set_cons_zero, List.set_cons_succ]))
      apply wpPlan_call; rfl; rfl; rfl; rfl; kernel_rfl; exact hnum_any k hkb _; rfl; rintro e w' ⟨rfl, rfl⟩
      refine ⟨_, rfl, HS, ?_⟩
      simp only [Act.put, List.setIfInBounds_toArray, List.set_cons_zero, List.set_cons_succ]
      repeat (first | (apply wpPlan_look; rfl; rfl; (intro wq hq; (try dsimp only at hq); go_split_ands; go_simp; (try rw [if_neg (by omega)]); (try rw [if_pos (by omega)]); try with_reducible rfl); simp only [Act.put, List.setIfInBounds_toArray, List.set_cons_zero, List.set_cons_succ]) | (apply wpPlan_skip; rfl; rfl; simp only [Act.put, List.setIfInBounds_toArray, List.set_cons_zero, List.set_cons_succ]) | (apply wpPlan_pass; rfl; rfl; assumption; simp only [Act.put, List.setIfInBounds_toArray, List.set_cons_zero, List.set_cons_succ]))
      apply wpPlan_done
      have HB2 := Lib.hid hB2
      clear HS hB0 hB2 n0 n1 n2 n3 n4 n5 n6 n7
      go_wp2_with fail
      go_roundw
      case rel => exact ⟨k + 1, by omega, by omega, by go_num, HB2⟩
      case measure => simp [intOf]; omega
    · go_wp2_with fail
      go_ret
      exact Makes.mk rfl HB.out

/-- A list of its own, with marks behind it. -/
def WideRes (T : List Nd) (w : World) (e : Ending) (w' : World) : Prop := ∃ g, e = .returned (.slice (some ⟨g, 0, none⟩) T.length (T.length + 64 : Nat)) ∧ NodesAt w' g 0 (T ++ marks T.length) ∧ Below w.heap.size w w'
theorem node_info : (Tryz.prog.info? 64).map (fun i => (i.zero, i.size, i.bytes)) = some (some (.agg #[.int .i8 0, .int .i64 0, .int .i64 0, .string ByteArray.empty, .string ByteArray.empty, .string ByteArray.empty, .int .i64 0, .int .i64 0]), 8, 88) := by kernel_rfl
end Go.Proofs.YtdobaililmkkcaaGreatDoor

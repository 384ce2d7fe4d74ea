
/- Walks of bags: kinds of which nothing was gathered. -/
import Derived.Test.YtidholghbjljaaaGreatDoorFq
import Derived.Test.YtidholghbjljaaaGreatDoorHlpB
import Derived.Test.YtidholghbjljaaaGreatDoorTrW
import Derived.Test.YtidholghbjljaaaGreatDoorShelfI
import Derived.Lib.ItoaLen
import Derived.Lib.AppendIntMem
namespace Go.Proofs.YtidholghbjljaaaGreatDoor
set_option linter.unusedSimpArgs false
set_option linter.unusedVariables false
open Go.RowKit Go.Maps Culp

set_option maxHeartbeats 400000 in
theorem num_any (n i : Nat) (hn : n ≤ 1000) (hi : i ≤ 1000000000000) (w : World) : Calls Tryz.prog 64 #[.int .i64 n, .int .i64 i] w (Gives (.int .i64 ((1048576 * n + i + 1 : Nat) : Int)) w) := by
  go_enter Tryz.func64, Tryz.ntmps64
  go_wp2_with fail
  go_ret
  exact Gives.mk (by go_num)
set_option maxRecDepth 100000 in
theorem apartBytes_none (gb : Nat) (w : World) (c0 : w.cell? ⟨gb, 0, none⟩ = some (.slice none 0 0)) : Calls Tryz.prog 44 #[.pointer (some ⟨gb, 0, none⟩)] w (Gives (.bool true) w) := by
  go_enter Tryz.func44, Tryz.ntmps44
  go_wp2_with fail
  go_loop [3] (fun i => i = .int .i64 0) (fun _ => 0)
  case atStart => rfl
  case round =>
    subst hrel
    go_wp2_with fail
    go_loop [6, 7] (fun m i => m = .slice none 0 0 ∧ i = .int .i64 0) (fun _ _ => 0)
    case atStart => exact ⟨rfl, rfl⟩
    case round =>
      obtain ⟨rfl, rfl⟩ := hrel
      go_wp2_with fail
      go_loop [10] (fun i => i = .int .i64 0) (fun _ => 0)
      case atStart => rfl
      case round =>
        subst hrel
        go_wp2_with fail
        go_ret
        exact Gives.mk rfl
set_option maxRecDepth 100000 in
theorem apartInts_none (gb : Nat) (w : World) (c0 : w.cell? ⟨gb, 1, none⟩ = some (.slice none 0 0)) : Calls Tryz.prog 45 #[.pointer (some ⟨gb, 0, none⟩)] w (Gives (.bool true) w) := by
  go_enter Tryz.func45, Tryz.ntmps45
  go_wp2_with fail
  go_loop [3] (fun i => i = .int .i64 0) (fun _ => 0)
  case atStart => rfl
  case round =>
    subst hrel
    go_wp2_with fail
    go_loop [6, 7] (fun m i => m = .slice none 0 0 ∧ i = .int .i64 0) (fun _ _ => 0)
    case atStart => exact ⟨rfl, rfl⟩
    case round =>
      obtain ⟨rfl, rfl⟩ := hrel
      go_wp2_with fail
      go_loop [10] (fun i => i = .int .i64 0) (fun _ => 0)
      case atStart => rfl
      case round =>
        subst hrel
        go_wp2_with fail
        go_ret
        exact Gives.mk rfl
set_option maxRecDepth 100000 in
theorem apartLongs_none (gb : Nat) (w : World) (c0 : w.cell? ⟨gb, 2, none⟩ = some (.slice none 0 0)) : Calls Tryz.prog 46 #[.pointer (some ⟨gb, 0, none⟩)] w (Gives (.bool true) w) := by
  go_enter Tryz.func46, Tryz.ntmps46
  go_wp2_with fail
  go_loop [3] (fun i => i = .int .i64 0) (fun _ => 0)
  case atStart => rfl
  case round =>
    subst hrel
    go_wp2_with fail
    go_loop [6, 7] (fun m i => m = .slice none 0 0 ∧ i = .int .i64 0) (fun _ _ => 0)
    case atStart => exact ⟨rfl, rfl⟩
    case round =>
      obtain ⟨rfl, rfl⟩ := hrel
      go_wp2_with fail
      go_loop [10] (fun i => i = .int .i64 0) (fun _ => 0)
      case atStart => rfl
      case round =>
        subst hrel
        go_wp2_with fail
        go_ret
        exact Gives.mk rfl
set_option maxRecDepth 100000 in
theorem apartBools_none (gb : Nat) (w : World) (c0 : w.cell? ⟨gb, 3, none⟩ = some (.slice none 0 0)) : Calls Tryz.prog 47 #[.pointer (some ⟨gb, 0, none⟩)] w (Gives (.bool true) w) := by
  go_enter Tryz.func47, Tryz.ntmps47
  go_wp2_with fail
  go_loop [3] (fun i => i = .int .i64 0) (fun _ => 0)
  case atStart => rfl
  case round =>
    subst hrel
    go_wp2_with fail
    go_loop [6, 7] (fun m i => m = .slice none 0 0 ∧ i = .int .i64 0) (fun _ _ => 0)
    case atStart => exact ⟨rfl, rfl⟩
    case round =>
      obtain ⟨rfl, rfl⟩ := hrel
      go_wp2_with fail
      go_loop [10] (fun i => i = .int .i64 0) (fun _ => 0)
      case atStart => rfl
      case round =>
        subst hrel
        go_wp2_with fail
        go_ret
        exact Gives.mk rfl
set_option maxRecDepth 100000 in
theorem apartTexts_none (gb : Nat) (w : World) (c0 : w.cell? ⟨gb, 4, none⟩ = some (.slice none 0 0)) : Calls Tryz.prog 48 #[.pointer (some ⟨gb, 0, none⟩)] w (Gives (.bool true) w) := by
  go_enter Tryz.func48, Tryz.ntmps48
  go_wp2_with fail
  go_loop [3] (fun i => i = .int .i64 0) (fun _ => 0)
  case atStart => rfl
  case round =>
    subst hrel
    go_wp2_with fail
    go_loop [6, 7] (fun m i => m = .slice none 0 0 ∧ i = .int .i64 0) (fun _ _ => 0)
    case atStart => exact ⟨rfl, rfl⟩
    case round =>
      obtain ⟨rfl, rfl⟩ := hrel
      go_wp2_with fail
      go_loop [10] (fun i => i = .int .i64 0) (fun _ => 0)
      case atStart => rfl
      case round =>
        subst hrel
        go_wp2_with fail
        go_ret
        exact Gives.mk rfl
set_option maxRecDepth 100000 in
theorem apartNodes_none (gb : Nat) (w : World) (c0 : w.cell? ⟨gb, 5, none⟩ = some (.slice none 0 0)) : Calls Tryz.prog 49 #[.pointer (some ⟨gb, 0, none⟩)] w (Gives (.bool true) w) := by
  go_enter Tryz.func49, Tryz.ntmps49
  go_wp2_with fail
  go_loop [3] (fun i => i = .int .i64 0) (fun _ => 0)
  case atStart => rfl
  case round =>
    subst hrel
    go_wp2_with fail
    go_loop [6, 7] (fun m i => m = .slice none 0 0 ∧ i = .int .i64 0) (fun _ _ => 0)
    case atStart => exact ⟨rfl, rfl⟩
    case round =>
      obtain ⟨rfl, rfl⟩ := hrel
      go_wp2_with fail
      go_loop [10] (fun i => i = .int .i64 0) (fun _ => 0)
      case atStart => rfl
      case round =>
        subst hrel
        go_wp2_with fail
        go_ret
        exact Gives.mk rfl
set_option maxRecDepth 100000 in
theorem apartCos_none (gb : Nat) (w : World) (c0 : w.cell? ⟨gb, 6, none⟩ = some (.slice none 0 0)) : Calls Tryz.prog 50 #[.pointer (some ⟨gb, 0, none⟩)] w (Gives (.bool true) w) := by
  go_enter Tryz.func50, Tryz.ntmps50
  go_wp2_with fail
  go_loop [3] (fun i => i = .int .i64 0) (fun _ => 0)
  case atStart => rfl
  case round =>
    subst hrel
    go_wp2_with fail
    go_loop [6, 7] (fun m i => m = .slice none 0 0 ∧ i = .int .i64 0) (fun _ _ => 0)
    case atStart => exact ⟨rfl, rfl⟩
    case round =>
      obtain ⟨rfl, rfl⟩ := hrel
      go_wp2_with fail
      go_loop [10] (fun i => i = .int .i64 0) (fun _ => 0)
      case atStart => rfl
      case round =>
        subst hrel
        go_wp2_with fail
        go_ret
        exact Gives.mk rfl
set_option maxRecDepth 100000 in
theorem apartSeen_none (gb : Nat) (w : World) (c0 : w.cell? ⟨gb, 7, none⟩ = some (.slice none 0 0)) : Calls Tryz.prog 51 #[.pointer (some ⟨gb, 0, none⟩)] w (Gives (.bool true) w) := by
  go_enter Tryz.func51, Tryz.ntmps51
  go_wp2_with fail
  go_loop [3] (fun i => i = .int .i64 0) (fun _ => 0)
  case atStart => rfl
  case round =>
    subst hrel
    go_wp2_with fail
    go_loop [6, 7] (fun m i => m = .slice none 0 0 ∧ i = .int .i64 0) (fun _ _ => 0)
    case atStart => exact ⟨rfl, rfl⟩
    case round =>
      obtain ⟨rfl, rfl⟩ := hrel
      go_wp2_with fail
      go_loop [10] (fun i => i = .int .i64 0) (fun _ => 0)
      case atStart => rfl
      case round =>
        subst hrel
        go_wp2_with fail
        go_ret
        exact Gives.mk rfl
set_option maxRecDepth 100000 in
theorem apartSites_none (gb : Nat) (w : World) (c0 : w.cell? ⟨gb, 8, none⟩ = some (.slice none 0 0)) : Calls Tryz.prog 52 #[.pointer (some ⟨gb, 0, none⟩)] w (Gives (.bool true) w) := by
  go_enter Tryz.func52, Tryz.ntmps52
  go_wp2_with fail
  go_loop [3] (fun i => i = .int .i64 0) (fun _ => 0)
  case atStart => rfl
  case round =>
    subst hrel
    go_wp2_with fail
    go_loop [6, 7] (fun m i => m = .slice none 0 0 ∧ i = .int .i64 0) (fun _ _ => 0)
    case atStart => exact ⟨rfl, rfl⟩
    case round =>
      obtain ⟨rfl, rfl⟩ := hrel
      go_wp2_with fail
      go_loop [10] (fun i => i = .int .i64 0) (fun _ => 0)
      case atStart => rfl
      case round =>
        subst hrel
        go_wp2_with fail
        go_ret
        exact Gives.mk rfl
set_option maxRecDepth 100000 in
theorem apartIns_none (gb : Nat) (w : World) (c0 : w.cell? ⟨gb, 9, none⟩ = some (.slice none 0 0)) : Calls Tryz.prog 53 #[.pointer (some ⟨gb, 0, none⟩)] w (Gives (.bool true) w) := by
  go_enter Tryz.func53, Tryz.ntmps53
  go_wp2_with fail
  go_loop [3] (fun i => i = .int .i64 0) (fun _ => 0)
  case atStart => rfl
  case round =>
    subst hrel
    go_wp2_with fail
    go_loop [6, 7] (fun m i => m = .slice none 0 0 ∧ i = .int .i64 0) (fun _ _ => 0)
    case atStart => exact ⟨rfl, rfl⟩
    case round =>
      obtain ⟨rfl, rfl⟩ := hrel
      go_wp2_with fail
      go_loop [10] (fun i => i = .int .i64 0) (fun _ => 0)
      case atStart => rfl
      case round =>
        subst hrel
        go_wp2_with fail
        go_ret
        exact Gives.mk rfl
set_option maxRecDepth 100000 in
theorem apartImports_none (gb : Nat) (w : World) (c0 : w.cell? ⟨gb, 10, none⟩ = some (.slice none 0 0)) : Calls Tryz.prog 54 #[.pointer (some ⟨gb, 0, none⟩)] w (Gives (.bool true) w) := by
  go_enter Tryz.func54, Tryz.ntmps54
  go_wp2_with fail
  go_loop [3] (fun i => i = .int .i64 0) (fun _ => 0)
  case atStart => rfl
  case round =>
    subst hrel
    go_wp2_with fail
    go_loop [6, 7] (fun m i => m = .slice none 0 0 ∧ i = .int .i64 0) (fun _ _ => 0)
    case atStart => exact ⟨rfl, rfl⟩
    case round =>
      obtain ⟨rfl, rfl⟩ := hrel
      go_wp2_with fail
      go_loop [10] (fun i => i = .int .i64 0) (fun _ => 0)
      case atStart => rfl
      case round =>
        subst hrel
        go_wp2_with fail
        go_ret
        exact Gives.mk rfl
set_option maxRecDepth 100000 in
theorem apartTraps_none (gb : Nat) (w : World) (c0 : w.cell? ⟨gb, 11, none⟩ = some (.slice none 0 0)) : Calls Tryz.prog 55 #[.pointer (some ⟨gb, 0, none⟩)] w (Gives (.bool true) w) := by
  go_enter Tryz.func55, Tryz.ntmps55
  go_wp2_with fail
  go_loop [3] (fun i => i = .int .i64 0) (fun _ => 0)
  case atStart => rfl
  case round =>
    subst hrel
    go_wp2_with fail
    go_loop [6, 7] (fun m i => m = .slice none 0 0 ∧ i = .int .i64 0) (fun _ _ => 0)
    case atStart => exact ⟨rfl, rfl⟩
    case round =>
      obtain ⟨rfl, rfl⟩ := hrel
      go_wp2_with fail
      go_loop [10] (fun i => i = .int .i64 0) (fun _ => 0)
      case atStart => rfl
      case round =>
        subst hrel
        go_wp2_with fail
        go_ret
        exact Gives.mk rfl
set_option maxRecDepth 100000 in
theorem apartRows_none (gb : Nat) (w : World) (c0 : w.cell? ⟨gb, 12, none⟩ = some (.slice none 0 0)) : Calls Tryz.prog 56 #[.pointer (some ⟨gb, 0, none⟩)] w (Gives (.bool true) w) := by
  go_enter Tryz.func56, Tryz.ntmps56
  go_wp2_with fail
  go_loop [3] (fun i => i = .int .i64 0) (fun _ => 0)
  case atStart => rfl
  case round =>
    subst hrel
    go_wp2_with fail
    go_loop [6, 7] (fun m i => m = .slice none 0 0 ∧ i = .int .i64 0) (fun _ _ => 0)
    case atStart => exact ⟨rfl, rfl⟩
    case round =>
      obtain ⟨rfl, rfl⟩ := hrel
      go_wp2_with fail
      go_loop [10] (fun i => i = .int .i64 0) (fun _ => 0)
      case atStart => rfl
      case round =>
        subst hrel
        go_wp2_with fail
        go_ret
        exact Gives.mk rfl
set_option maxRecDepth 100000 in
theorem apartDefs_none (gb : Nat) (w : World) (c0 : w.cell? ⟨gb, 13, none⟩ = some (.slice none 0 0)) : Calls Tryz.prog 57 #[.pointer (some ⟨gb, 0, none⟩)] w (Gives (.bool true) w) := by
  go_enter Tryz.func57, Tryz.ntmps57
  go_wp2_with fail
  go_loop [3] (fun i => i = .int .i64 0) (fun _ => 0)
  case atStart => rfl
  case round =>
    subst hrel
    go_wp2_with fail
    go_loop [6, 7] (fun m i => m = .slice none 0 0 ∧ i = .int .i64 0) (fun _ _ => 0)
    case atStart => exact ⟨rfl, rfl⟩
    case round =>
      obtain ⟨rfl, rfl⟩ := hrel
      go_wp2_with fail
      go_loop [10] (fun i => i = .int .i64 0) (fun _ => 0)
      case atStart => rfl
      case round =>
        subst hrel
        go_wp2_with fail
        go_ret
        exact Gives.mk rfl
set_option maxRecDepth 100000 in
theorem apartModules_none (gb : Nat) (w : World) (c0 : w.cell? ⟨gb, 14, none⟩ = some (.slice none 0 0)) : Calls Tryz.prog 58 #[.pointer (some ⟨gb, 0, none⟩)] w (Gives (.bool true) w) := by
  go_enter Tryz.func58, Tryz.ntmps58
  go_wp2_with fail
  go_loop [3] (fun i => i = .int .i64 0) (fun _ => 0)
  case atStart => rfl
  case round =>
    subst hrel
    go_wp2_with fail
    go_loop [6, 7] (fun m i => m = .slice none 0 0 ∧ i = .int .i64 0) (fun _ _ => 0)
    case atStart => exact ⟨rfl, rfl⟩
    case round =>
      obtain ⟨rfl, rfl⟩ := hrel
      go_wp2_with fail
      go_loop [10] (fun i => i = .int .i64 0) (fun _ => 0)
      case atStart => rfl
      case round =>
        subst hrel
        go_wp2_with fail
        go_ret
        exact Gives.mk rfl
set_option maxRecDepth 100000 in
theorem apartFunctions_none (gb : Nat) (w : World) (c0 : w.cell? ⟨gb, 15, none⟩ = some (.slice none 0 0)) : Calls Tryz.prog 59 #[.pointer (some ⟨gb, 0, none⟩)] w (Gives (.bool true) w) := by
  go_enter Tryz.func59, Tryz.ntmps59
  go_wp2_with fail
  go_loop [3] (fun i => i = .int .i64 0) (fun _ => 0)
  case atStart => rfl
  case round =>
    subst hrel
    go_wp2_with fail
    go_loop [6, 7] (fun m i => m = .slice none 0 0 ∧ i = .int .i64 0) (fun _ _ => 0)
    case atStart => exact ⟨rfl, rfl⟩
    case round =>
      obtain ⟨rfl, rfl⟩ := hrel
      go_wp2_with fail
      go_loop [10] (fun i => i = .int .i64 0) (fun _ => 0)
      case atStart => rfl
      case round =>
        subst hrel
        go_wp2_with fail
        go_ret
        exact Gives.mk rfl
set_option maxRecDepth 100000 in
theorem apartWaits_none (gb : Nat) (w : World) (c0 : w.cell? ⟨gb, 16, none⟩ = some (.slice none 0 0)) : Calls Tryz.prog 60 #[.pointer (some ⟨gb, 0, none⟩)] w (Gives (.bool true) w) := by
  go_enter Tryz.func60, Tryz.ntmps60
  go_wp2_with fail
  go_loop [3] (fun i => i = .int .i64 0) (fun _ => 0)
  case atStart => rfl
  case round =>
    subst hrel
    go_wp2_with fail
    go_loop [6, 7] (fun m i => m = .slice none 0 0 ∧ i = .int .i64 0) (fun _ _ => 0)
    case atStart => exact ⟨rfl, rfl⟩
    case round =>
      obtain ⟨rfl, rfl⟩ := hrel
      go_wp2_with fail
      go_loop [10] (fun i => i = .int .i64 0) (fun _ => 0)
      case atStart => rfl
      case round =>
        subst hrel
        go_wp2_with fail
        go_ret
        exact Gives.mk rfl
set_option maxRecDepth 100000 in
theorem apartTrees_none (gb : Nat) (w : World) (c0 : w.cell? ⟨gb, 17, none⟩ = some (.slice none 0 0)) : Calls Tryz.prog 61 #[.pointer (some ⟨gb, 0, none⟩)] w (Gives (.bool true) w) := by
  go_enter Tryz.func61, Tryz.ntmps61
  go_wp2_with fail
  go_loop [3] (fun i => i = .int .i64 0) (fun _ => 0)
  case atStart => rfl
  case round =>
    subst hrel
    go_wp2_with fail
    go_loop [6, 7] (fun m i => m = .slice none 0 0 ∧ i = .int .i64 0) (fun _ _ => 0)
    case atStart => exact ⟨rfl, rfl⟩
    case round =>
      obtain ⟨rfl, rfl⟩ := hrel
      go_wp2_with fail
      go_loop [10] (fun i => i = .int .i64 0) (fun _ => 0)
      case atStart => rfl
      case round =>
        subst hrel
        go_wp2_with fail
        go_ret
        exact Gives.mk rfl
end Go.Proofs.YtidholghbjljaaaGreatDoor

/- Rows that were gathered are written full, and gone on with: what holds on the way. No program in sight. -/
namespace Culp.Bag
set_option linter.unusedSimpArgs false
set_option linter.unusedVariables false
open Go Go.RowKit

/-- The marks of the list n. -/
def marks (mk : Nat → Nat → Value) (n m : Nat) : List Value := (List.range m).map (mk n)
section
variable {mk : Nat → Nat → Value} {n m k : Nat}
theorem marks_len : (marks mk n m).length = m := by simp [marks]
theorem marks_succ : marks mk n (m + 1) = marks mk n m ++ [mk n m] := by simp [marks, List.range_succ]
theorem marks_get (h : k < m) : (marks mk n m)[k]? = some (mk n k) := by simp [marks, h]
theorem marks_take (h : k ≤ m) : (marks mk n m).take k = marks mk n k := by simp [marks, ← List.map_take, List.take_range, Nat.min_eq_left h]
end
/-- What one append does. -/
structure Grew (base : Nat) (e : TypeId) (w w' : World) (l l' : Value) (n : Nat) (xs : List Value) (u : Value) : Prop where
  own : w'.ownsRow base e 1 l' (n + 1) (xs ++ [u])
  grown : w.grownBy w' l.ownBlock
  below : Below base w w'
  at_ : l'.ownBlock = l.ownBlock ∨ ∃ b, l'.ownBlock = some b ∧ w.heap.size < b
  hold : ∀ X b m ys, w.ownsRow b e 1 X m ys → (∀ k, X.ownBlock = some k → l.ownBlock = some k → m ≤ n ∧ ys = xs.take m) → w'.ownsRow b e 1 X m ys
section
variable (e se : TypeId) (B W : Nat) (R : List Value) (L : Nat → Nat) (mk : Nat → Nat → Value)
/-- The first phase: rows are overwritten. -/
def Ph1 (n k : Nat) (w : World) : Prop := ∀ j v, R[j]? = some v → ∃ xs, w.ownsRow B e 1 v (L j) xs ∧ (j < n → xs = marks mk j (L j)) ∧ (j = n → xs.take k = marks mk n k)
/-- The second phase: rows are gone on with. -/
structure Ph2 (bv : Value) (n : Nat) (one more : Value) (Us Vs : List Value) (w : World) : Prop where
  lu : Us.length = n
  lv : Vs.length = n
  hbag : w.ownsRow B se 1 bv R.length R
  hone : w.ownsRow W se 1 one n Us
  hmore : w.ownsRow W se 1 more n Vs
  om : Apart one more
  ob : Apart one bv
  mb : Apart more bv
  row : ∀ j v, R[j]? = some v → w.ownsRow B e 1 v (L j) (marks mk j (L j))
  us : ∀ k u, Us[k]? = some u → w.ownsRow B e 1 u (L k + 1) (marks mk k (L k + 1)) ∧ ∀ j v, n ≤ j → R[j]? = some v → Apart v u
  vs : ∀ k u, Vs[k]? = some u → w.ownsRow B e 1 u (L k + 70) (marks mk k (L k + 70)) ∧ ∀ j v, n ≤ j → R[j]? = some v → Apart v u
/-- Within a row of the second phase. -/
structure In (bv : Value) (n t : Nat) (l one more : Value) (Us Vs : List Value) (w : World) : Prop where
  lu : Us.length = n + min t 1
  lv : Vs.length = n
  hbag : w.ownsRow B se 1 bv R.length R
  hone : w.ownsRow W se 1 one Us.length Us
  hmore : w.ownsRow W se 1 more n Vs
  om : Apart one more
  ob : Apart one bv
  mb : Apart more bv
  own : w.ownsRow B e 1 l (L n + t) (marks mk n (L n + t))
  row : ∀ j v, R[j]? = some v → w.ownsRow B e 1 v (L j) (marks mk j (L j))
  us : ∀ k u, Us[k]? = some u → w.ownsRow B e 1 u (L k + 1) (marks mk k (L k + 1)) ∧ ∀ j v, n < j → R[j]? = some v → Apart v u
  vs : ∀ k u, Vs[k]? = some u → w.ownsRow B e 1 u (L k + 70) (marks mk k (L k + 70)) ∧ ∀ j v, n < j → R[j]? = some v → Apart v u
  lrow : ∀ (j : Nat) (v : Value), j ≠ n → R[j]? = some v → Apart l v
  lus : ∀ (k : Nat) (u : Value), k < n → Us[k]? = some u → Apart l u
  lvs : ∀ (k : Nat) (u : Value), Vs[k]? = some u → Apart l u
end
section
variable {e se : TypeId} {B W : Nat} {R : List Value} {L : Nat → Nat} {mk : Nat → Nat → Value} {bv l l' one one' more more' v : Value} {n k t g c : Nat} {Us Vs xs : List Value} {w w' : World}
theorem Ph1.start (h : ∀ n v, R[n]? = some v → ∃ xs, w.ownsRow B e 1 v (L n) xs) : Ph1 e B R L mk 0 0 w := by
  intro j v hv
  obtain ⟨xs, hx⟩ := h j v hv
  exact ⟨xs, hx, fun h => by omega, fun _ => rfl⟩
theorem Ph1.zero (h : Ph1 e B R L mk n k w) : Ph1 e B R L mk n 0 w := by
  intro j v hv
  obtain ⟨xs, hx, h1, _⟩ := h j v hv
  exact ⟨xs, hx, h1, fun _ => rfl⟩
theorem Ph1.next (h : Ph1 e B R L mk n (L n) w) : Ph1 e B R L mk (n + 1) 0 w := by
  intro j v hv
  obtain ⟨xs, hx, h1, h2⟩ := h j v hv
  refine ⟨xs, hx, fun hj => ?_, fun _ => rfl⟩
  by_cases hjn : j = n
  · subst hjn
    have := h2 rfl
    rw [List.take_of_length_le (by have := hx.1; omega)] at this
    exact this
  · exact h1 (by omega)
theorem Ph1.set (h : Ph1 e B R L mk n k w) (hA : ∀ (i j : Nat) (u v : Value), i ≠ j → R[i]? = some u → R[j]? = some v → Apart u v) (hv : R[n]? = some (.slice (some ⟨g, 0, none⟩) (L n) c)) (hk : k < L n) :
    Ph1 e B R L mk n (k + 1) (w.setCell ⟨g, k, none⟩ (mk n k)) := by
  intro j u hu
  obtain ⟨xs, hx, h1, h2⟩ := h j u hu
  by_cases hjn : j = n
  · subst hjn
    rw [hv] at hu
    injection hu with hu
    subst hu
    refine ⟨_, own_setv hx k (mk j k), fun h => by omega, fun _ => ?_⟩
    have hl : k < xs.length := by have := hx.1; omega
    rw [List.take_add_one, List.getElem?_set_self hl, List.take_set, List.set_eq_of_length_le (by rw [List.length_take]; exact Nat.min_le_left _ _), h2 rfl, marks_succ]
    rfl
  · refine ⟨xs, own_apart_keep hx ((Keep.refl g w).setCell k _) (fun he => ?_), h1, fun h => absurd h hjn⟩
    exact hA n j _ _ (fun h => hjn h.symm) hv hu g rfl he
theorem Ph1.cell (h : Ph1 e B R L mk n k w) (hv : R[n]? = some v) (hk : k < L n) : ∃ g c x, v = .slice (some ⟨g, 0, none⟩) (L n) c ∧ B ≤ g ∧ w.cell? ⟨g, k, none⟩ = some x ∧ w.frozen? ⟨g, k, none⟩ = false ∧ ∃ xs, w.ownsRow B e 1 v (L n) xs := by
  obtain ⟨xs, hx, _⟩ := h n v hv
  have hx' := hx
  obtain ⟨g, c, rfl, hb, _, _, hl, _⟩ := own_read hx (by omega)
  have := own_get hx (i := k) (v := xs[k]'(by omega)) (List.getElem?_eq_getElem (by omega))
  exact ⟨g, c, _, rfl, hb, this.1, this.2, xs, hx'⟩
theorem Ph1.form (h : Ph1 e B R L mk n k w) (hv : R[n]? = some v) : ∃ A c, v = .slice A (L n) c := by
  obtain ⟨xs, hx, _⟩ := h n v hv
  obtain ⟨A, c, rfl, _⟩ := own_form hx
  exact ⟨A, c, rfl⟩
theorem Ph2.start (h : Ph1 e B R L mk R.length 0 w) (hb : w.ownsRow B se 1 bv R.length R) : Ph2 e se B W R L mk bv 0 (.slice none 0 0) (.slice none 0 0) [] [] w where
  lu := rfl
  lv := rfl
  hbag := hb
  hone := World.ownsRow_nil _ _ _ _
  hmore := World.ownsRow_nil _ _ _ _
  om := fun k hk => by cases hk
  ob := fun k hk => by cases hk
  mb := fun k hk => by cases hk
  row := fun j v hv => by
    obtain ⟨xs, hx, h1, _⟩ := h j v hv
    rw [← h1 (List.getElem?_eq_some_iff.1 hv).1]
    exact hx
  us := fun k u hu => by simp at hu
  vs := fun k u hu => by simp at hu
theorem In.start (h : Ph2 e se B W R L mk bv n one more Us Vs w) (hA : ∀ (i j : Nat) (u v : Value), i ≠ j → R[i]? = some u → R[j]? = some v → Apart u v) (hv : R[n]? = some v) : In e se B W R L mk bv n 0 v one more Us Vs w where
  lu := h.lu
  lv := h.lv
  hbag := h.hbag
  hone := by rw [h.lu]; exact h.hone
  hmore := h.hmore
  om := h.om
  ob := h.ob
  mb := h.mb
  own := h.row n v hv
  row := h.row
  us := fun k u hu => ⟨(h.us k u hu).1, fun j v hj => (h.us k u hu).2 j v (by omega)⟩
  vs := fun k u hu => ⟨(h.vs k u hu).1, fun j v hj => (h.vs k u hu).2 j v (by omega)⟩
  lrow := fun j u hj hu => hA n j v u (fun h => hj h.symm) hv hu
  lus := fun k u _ hu => (h.us k u hu).2 n v (Nat.le_refl _) hv
  lvs := fun k u hu => (h.vs k u hu).2 n v (Nat.le_refl _) hv
/-- One more mark. -/
theorem In.push (hne : e ≠ se) (h : In e se B W R L mk bv n t l one more Us Vs w) (ht : t = 0 → Us.length = n) (hA : ∀ (i j : Nat) (u v : Value), i ≠ j → R[i]? = some u → R[j]? = some v → Apart u v) (G : Grew B e w w' l l' (L n + t) (marks mk n (L n + t)) (mk n (L n + t))) (ht1 : 0 < t) :
    In e se B W R L mk bv n (t + 1) l' one more Us Vs w' where
  lu := by have := h.lu; omega
  lv := h.lv
  hbag := own_other h.hbag G.grown (own_apart_type h.own h.hbag hne)
  hone := own_other h.hone G.grown (own_apart_type h.own h.hone hne)
  hmore := own_other h.hmore G.grown (own_apart_type h.own h.hmore hne)
  om := h.om
  ob := h.ob
  mb := h.mb
  own := by rw [← Nat.add_assoc, marks_succ]; exact G.own
  row := fun j u hu => G.hold u _ _ _ (h.row j u hu) fun k hk hl => by
    by_cases hj : j = n
    · subst hj
      exact ⟨by omega, by rw [marks_take (by omega)]⟩
    · exact absurd hk (h.lrow j u hj hu k hl)
  us := fun k u hu => ⟨G.hold u _ _ _ (h.us k u hu).1 fun i hi hl => by
    by_cases hk : k < n
    · exact absurd hi (h.lus k u hk hu i hl)
    · have := (List.getElem?_eq_some_iff.1 hu).1
      have := h.lu
      obtain rfl : k = n := by omega
      exact ⟨by omega, by rw [marks_take (by omega)]⟩, (h.us k u hu).2⟩
  vs := fun k u hu => ⟨G.hold u _ _ _ (h.vs k u hu).1 fun i hi hl => absurd hi (h.lvs k u hu i hl), (h.vs k u hu).2⟩
  lrow := fun j u hj hu => (h.lrow j u hj hu).grow' (h.row j u hu) G.at_
  lus := fun k u hk hu => (h.lus k u hk hu).grow' (h.us k u hu).1 G.at_
  lvs := fun k u hu => (h.lvs k u hu).grow' (h.vs k u hu).1 G.at_
/-- The first mark, and the row as it is then, kept. -/
theorem In.first (hne : e ≠ se) (h : In e se B W R L mk bv n 0 l one more Us Vs w) (G : Grew B e w w' l l' (L n + 0) (marks mk n (L n + 0)) (mk n (L n + 0))) {w2 : World} (G2 : Grew W se w' w2 one one' n Us l') (hbW : B ≤ W) :
    In e se B W R L mk bv n 1 l' one' more (Us ++ [l']) Vs w2 := by
  have hlu : Us.length = n := h.lu
  have hbag := own_other h.hbag G.grown (own_apart_type h.own h.hbag hne)
  have hone := own_other h.hone G.grown (own_apart_type h.own h.hone hne)
  have hmore := own_other h.hmore G.grown (own_apart_type h.own h.hmore hne)
  have hrow : ∀ j u, R[j]? = some u → w'.ownsRow B e 1 u (L j) (marks mk j (L j)) := fun j u hu => G.hold u _ _ _ (h.row j u hu) fun k hk hl => by
    by_cases hj : j = n
    · subst hj
      exact ⟨by omega, by rw [marks_take (by omega)]⟩
    · exact absurd hk (h.lrow j u hj hu k hl)
  have hlt : ∀ k u, Us[k]? = some u → k < n := fun k u hu => by have := (List.getElem?_eq_some_iff.1 hu).1; omega
  have hus : ∀ k u, Us[k]? = some u → w'.ownsRow B e 1 u (L k + 1) (marks mk k (L k + 1)) := fun k u hu => G.hold u _ _ _ (h.us k u hu).1 fun i hi hl => absurd hi (h.lus k u (hlt k u hu) hu i hl)
  have hvs : ∀ k u, Vs[k]? = some u → w'.ownsRow B e 1 u (L k + 70) (marks mk k (L k + 70)) := fun k u hu => G.hold u _ _ _ (h.vs k u hu).1 fun i hi hl => absurd hi (h.lvs k u hu i hl)
  have hl' : w'.ownsRow B e 1 l' (L n + 1) (marks mk n (L n + 1)) := by rw [marks_succ]; exact G.own
  have hst : ∀ {X m ys}, w'.ownsRow B e 1 X m ys → w2.ownsRow B e 1 X m ys := fun hX => own_other hX G2.grown (own_apart_type hone hX (fun h => hne h.symm))
  have hnth : ∀ k u, (Us ++ [l'])[k]? = some u → (k < n ∧ Us[k]? = some u) ∨ (k = n ∧ u = l') := fun k u hu => by
    by_cases hk : k < n
    · exact .inl ⟨hk, by rwa [List.getElem?_append_left (by omega)] at hu⟩
    · have hk2 := (List.getElem?_eq_some_iff.1 hu).1
      rw [List.length_append, List.length_singleton] at hk2
      obtain rfl : k = n := by omega
      rw [List.getElem?_append_right (by omega), hlu, Nat.sub_self] at hu
      simp at hu
      exact .inr ⟨rfl, hu.symm⟩
  exact
    { lu := by rw [List.length_append, hlu]; rfl
      lv := h.lv
      hbag := G2.hold _ _ _ _ hbag fun k hk hl => absurd hk (h.ob k hl)
      hone := by rw [List.length_append, hlu]; exact G2.own
      hmore := G2.hold _ _ _ _ hmore fun k hk hl => absurd hk (h.om k hl)
      om := h.om.grow' hmore G2.at_
      ob := h.ob.grow' hbag G2.at_
      mb := h.mb
      own := hst hl'
      row := fun j u hu => hst (hrow j u hu)
      us := fun k u hu => by
        rcases hnth k u hu with ⟨hk, hu⟩ | ⟨rfl, rfl⟩
        · exact ⟨hst (hus k u hu), (h.us k u hu).2⟩
        · exact ⟨hst hl', fun j v hj hv => ((h.lrow j v (by omega) hv).grow' (h.row j v hv) G.at_).symm⟩
      vs := fun k u hu => ⟨hst (hvs k u hu), (h.vs k u hu).2⟩
      lrow := fun j u hj hu => (h.lrow j u hj hu).grow' (h.row j u hu) G.at_
      lus := fun k u hk hu => by
        rcases hnth k u hu with ⟨hk, hu⟩ | ⟨rfl, _⟩
        · exact (h.lus k u hk hu).grow' (h.us k u hu).1 G.at_
        · omega
      lvs := fun k u hu => (h.lvs k u hu).grow' (h.vs k u hu).1 G.at_ }
/-- The row is full: on to the next. -/
theorem In.done (hne : e ≠ se) (h : In e se B W R L mk bv n 70 l one more Us Vs w) (G : Grew W se w w' more more' n Vs l) :
    Ph2 e se B W R L mk bv (n + 1) one more' Us (Vs ++ [l]) w' := by
  have hst : ∀ {X m ys}, w.ownsRow B e 1 X m ys → w'.ownsRow B e 1 X m ys := fun hX => own_other hX G.grown (own_apart_type h.hmore hX (fun h => hne h.symm))
  have hlu : Us.length = n + 1 := h.lu
  exact
    { lu := hlu
      lv := by rw [List.length_append, h.lv]; rfl
      hbag := G.hold _ _ _ _ h.hbag fun k hk hl => absurd hk (h.mb k hl)
      hone := by
        have := G.hold _ _ _ _ h.hone fun k hk hl => absurd hl (h.om k hk)
        rw [hlu] at this
        exact this
      hmore := G.own
      om := (h.om.symm.grow' h.hone G.at_).symm
      ob := h.ob
      mb := h.mb.grow' h.hbag G.at_
      row := fun j u hu => hst (h.row j u hu)
      us := fun k u hu => ⟨hst (h.us k u hu).1, fun j v hj => (h.us k u hu).2 j v (by omega)⟩
      vs := fun k u hu => by
        by_cases hk : k < n
        · rw [List.getElem?_append_left (by rw [h.lv]; exact hk)] at hu
          exact ⟨hst (h.vs k u hu).1, fun j v hj => (h.vs k u hu).2 j v (by omega)⟩
        · have hk2 := (List.getElem?_eq_some_iff.1 hu).1
          rw [List.length_append, List.length_singleton, h.lv] at hk2
          obtain rfl : k = n := by omega
          rw [List.getElem?_append_right (by rw [h.lv]; omega), h.lv, Nat.sub_self] at hu
          simp at hu
          subst hu
          exact ⟨hst h.own, fun j v hj hv => (h.lrow j v (by omega) hv).symm⟩ }
end
end Culp.Bag

/- A bag of lists while it is filled. No program in sight. -/
namespace Culp.Bag
set_option linter.unusedSimpArgs false
set_option linter.unusedVariables false
open Go Go.RowKit

/-- A bag's cells: lists of lists; one kind of them may hold some. -/
def BagAt (t : TypeId) (N K g : Nat) (bv : Value) (w : World) : Prop :=
  ∃ cs : Array Value, w.heap[g]? = some (.cells cs t (0, 0)) ∧ cs.size = N ∧ cs[K]? = some bv ∧ ∀ j, j < N → j ≠ K → cs[j]? = some (.slice none 0 0)
section
variable {t : TypeId} {N K g B : Nat} {bv bv' : Value} {w w' : World}
theorem BagAt.cell (h : BagAt t N K g bv w) : w.cell? ⟨g, K, none⟩ = some bv := by
  obtain ⟨cs, h1, h2, h3, _⟩ := h
  simp [World.cell?, h1, h3]
theorem BagAt.empty (h : BagAt t N K g bv w) {j : Nat} (hj : j < N) (hn : j ≠ K) : w.cell? ⟨g, j, none⟩ = some (.slice none 0 0) := by
  obtain ⟨cs, h1, h2, _, h3⟩ := h
  simp [World.cell?, h1, h3 j hj hn]
theorem BagAt.free (h : BagAt t N K g bv w) (j : Nat) : w.frozen? ⟨g, j, none⟩ = false := by
  obtain ⟨cs, h1, _⟩ := h
  simp [World.frozen?, h1]
theorem BagAt.lt (h : BagAt t N K g bv w) : g < w.heap.size := by
  obtain ⟨cs, h1, _⟩ := h
  exact (Array.getElem?_eq_some_iff.1 h1).1
theorem BagAt.below (h : BagAt t N K g bv w) (hb : Below B w w') (hg : g < B) : BagAt t N K g bv w' := by
  obtain ⟨cs, h1, h2⟩ := h
  exact ⟨cs, (hb.block g hg).trans h1, h2⟩
theorem BagAt.put (h : BagAt t N K g bv w) (bv' : Value) : BagAt t N K g bv' (w.setCell ⟨g, K, none⟩ bv') := by
  obtain ⟨cs, h1, h2, h3, h4⟩ := h
  have hK : K < cs.size := (Array.getElem?_eq_some_iff.1 h3).1
  refine ⟨cs.setIfInBounds K bv', by simp [World.setCell, Array.getElem?_modify, h1], by simpa using h2, ?_, fun j hj hn => ?_⟩
  · rw [Array.getElem?_setIfInBounds_self_of_lt hK]
  · rw [Array.getElem?_setIfInBounds_ne (fun he => hn he.symm)]
    exact h4 j hj hn
end
/-- A bag that holds rows that lie apart. -/
structure Full (t e se : TypeId) (N K g B : Nat) (R : List Value) (L : Nat → Nat) (bv : Value) (w : World) : Prop where
  at_ : BagAt t N K g bv w
  lt : g < B
  le : B ≤ w.heap.size
  bag : w.ownsRow B se 1 bv R.length R
  rows : ∀ n v, R[n]? = some v → ∃ xs, w.ownsRow B e 1 v (L n) xs
  apart : ∀ (i j : Nat) (u v : Value), i ≠ j → R[i]? = some u → R[j]? = some v → Apart u v
section
variable {t e se : TypeId} {N K g B : Nat} {R : List Value} {L : Nat → Nat} {bv bv' v : Value} {w w' : World} {xs : List Value}
theorem Full.start (h : BagAt t N K g (.slice none 0 0) w) (hg : g < B) (hB : B ≤ w.heap.size) : Full t e se N K g B [] L (.slice none 0 0) w where
  at_ := h
  lt := hg
  le := hB
  bag := World.ownsRow_nil _ _ _ _
  rows := fun n v hv => by simp at hv
  apart := fun i j u v _ hu => by simp at hu
theorem Full.later (h : Full t e se N K g B R L bv w) (hb : Below w.heap.size w w') : Full t e se N K g B R L bv w' where
  at_ := h.at_.below hb (by have := h.lt; have := h.le; omega)
  lt := h.lt
  le := Nat.le_trans h.le hb.size
  bag := own_later h.bag hb
  rows := fun n v hv => by
    obtain ⟨xs, hx⟩ := h.rows n v hv
    exact ⟨xs, own_later hx hb⟩
  apart := h.apart
/-- What is made now lies apart from what the bag holds. -/
theorem Full.fresh (h : Full t e se N K g B R L bv w) {e2 : TypeId} {n : Nat} (hv : w'.ownsRow w.heap.size e2 1 v n xs) : ∀ u ∈ R, Apart v u := by
  intro u hu
  obtain ⟨i, hi⟩ := List.getElem?_of_mem hu
  obtain ⟨ys, hy⟩ := h.rows i u hi
  exact apart_base hv fun k hk => (hy.lt k hk).2
theorem Full.add (h : Full t e se N K g B R L bv w) (hne : e ≠ se) (hv : w.ownsRow B e 1 v (L R.length) xs) (hA : ∀ u ∈ R, Apart v u)
    (ho : w'.ownsRow B se 1 bv' (R.length + 1) (R ++ [v])) (hg : w.grownBy w' bv.ownBlock) (hb : Below B w w') :
    Full t e se N K g B (R ++ [v]) L bv' (w'.setCell ⟨g, K, none⟩ bv') := by
  have hk : Keep g w' (w'.setCell ⟨g, K, none⟩ bv') := (Keep.refl g w').setCell K bv'
  have hst : ∀ {X : Value} {n : Nat} {ys : List Value}, w.ownsRow B e 1 X n ys → (w'.setCell ⟨g, K, none⟩ bv').ownsRow B e 1 X n ys := by
    intro X n ys hX
    have h1 := own_other hX hg (own_apart_type h.bag hX (fun he => hne he.symm))
    exact own_apart_keep h1 hk (fun he => by have := (h1.lt g he).1; have := h.lt; omega)
  refine
    { at_ := (h.at_.below hb h.lt).put bv'
      lt := h.lt
      le := by have := hb.size; have := hk.size; have := h.le; omega
      bag := by
        rw [List.length_append, List.length_singleton]
        exact own_apart_keep ho hk (fun he => by have := (ho.lt g he).1; have := h.lt; omega)
      rows := fun n u hu => ?_
      apart := fun i j u x hij hu hx => ?_ }
  · by_cases hn : n < R.length
    · rw [List.getElem?_append_left hn] at hu
      obtain ⟨ys, hy⟩ := h.rows n u hu
      exact ⟨ys, hst hy⟩
    · have hn2 := (List.getElem?_eq_some_iff.1 hu).1
      rw [List.length_append, List.length_singleton] at hn2
      obtain rfl : n = R.length := by omega
      rw [List.getElem?_append_right (Nat.le_refl _), Nat.sub_self] at hu
      simp at hu
      subst hu
      exact ⟨xs, hst hv⟩
  · have key : ∀ n y, (R ++ [v])[n]? = some y → (n < R.length ∧ R[n]? = some y) ∨ (n = R.length ∧ y = v) := by
      intro n y hy
      by_cases hn : n < R.length
      · rw [List.getElem?_append_left hn] at hy
        exact .inl ⟨hn, hy⟩
      · have hn2 := (List.getElem?_eq_some_iff.1 hy).1
        rw [List.length_append, List.length_singleton] at hn2
        obtain rfl : n = R.length := by omega
        rw [List.getElem?_append_right (Nat.le_refl _), Nat.sub_self] at hy
        simp at hy
        exact .inr ⟨rfl, hy.symm⟩
    rcases key i u hu with ⟨hi, hu'⟩ | ⟨rfl, rfl⟩
    · rcases key j x hx with ⟨hj, hx'⟩ | ⟨rfl, rfl⟩
      · exact h.apart i j u x hij hu' hx'
      · exact (hA u (List.mem_of_getElem? hu')).symm
    · rcases key j x hx with ⟨hj, hx'⟩ | ⟨rfl, rfl⟩
      · exact hA x (List.mem_of_getElem? hx')
      · exact absurd rfl hij
end
end Culp.Bag

/- Walks of bags: a text that marks a place; lists of texts lie apart. -/
namespace Culp.Bag
set_option linter.unusedSimpArgs false
set_option linter.unusedVariables false
open Go Go.RowKit
section
variable {e se : TypeId} {B W : Nat} {R : List Value} {L : Nat → Nat} {mk : Nat → Nat → Value} {bv l one more v : Value} {n k t g c : Nat} {Us Vs xs : List Value} {w w' : World}
theorem Ph1.later (h : Ph1 e B R L mk n k w) (hb : Below w.heap.size w w') : Ph1 e B R L mk n k w' := fun j v hv => by
  obtain ⟨xs, hx, h1⟩ := h j v hv
  exact ⟨xs, own_later hx hb, h1⟩
theorem Ph2.later (h : Ph2 e se B W R L mk bv n one more Us Vs w) (hb : Below w.heap.size w w') : Ph2 e se B W R L mk bv n one more Us Vs w' :=
  { h with
    hbag := own_later h.hbag hb
    hone := own_later h.hone hb
    hmore := own_later h.hmore hb
    row := fun j v hv => own_later (h.row j v hv) hb
    us := fun k u hu => ⟨own_later (h.us k u hu).1 hb, (h.us k u hu).2⟩
    vs := fun k u hu => ⟨own_later (h.vs k u hu).1 hb, (h.vs k u hu).2⟩ }
theorem In.later (h : In e se B W R L mk bv n t l one more Us Vs w) (hb : Below w.heap.size w w') : In e se B W R L mk bv n t l one more Us Vs w' :=
  { h with
    hbag := own_later h.hbag hb
    hone := own_later h.hone hb
    hmore := own_later h.hmore hb
    own := own_later h.own hb
    row := fun j v hv => own_later (h.row j v hv) hb
    us := fun k u hu => ⟨own_later (h.us k u hu).1 hb, (h.us k u hu).2⟩
    vs := fun k u hu => ⟨own_later (h.vs k u hu).1 hb, (h.vs k u hu).2⟩ }
end
end Culp.Bag
namespace Go.Proofs.YtidholghbjljaaaGreatDoor
set_option linter.unusedSimpArgs false
set_option linter.unusedVariables false
open Go.RowKit Go.Maps Culp

/-- The library's table of powers of ten. -/
def Pw (w : World) : Prop := Lib.TabIs Tryz.prog w "internal/strconv.uint64pow10" .u64 Lib.pow10Tab
theorem Pw.later {w w' : World} (h : Pw w) {B : Nat} (hb : Below B w w') (hB : 1 < B) : Pw w' := by
  unfold Pw Lib.TabIs World.var? at h ⊢
  have hg : Tryz.prog.globalNamed "internal/strconv.uint64pow10" = some 1 := by kernel_rfl
  rw [hg] at h ⊢
  simp only [Option.bind_some] at h ⊢
  rw [hb.block _ hB]
  exact h
theorem Pw.lt {w : World} (h : Pw w) : 1 < w.heap.size := by
  unfold Pw Lib.TabIs World.var? at h
  have hg : Tryz.prog.globalNamed "internal/strconv.uint64pow10" = some 1 := by kernel_rfl
  rw [hg] at h
  simp only [Option.bind_some] at h
  rcases Nat.lt_or_ge 1 w.heap.size with h1 | h1
  · exact h1
  · rw [Array.getElem?_eq_none h1] at h; cases h
/-- The text that marks a place of a list. -/
def txt (n i : Nat) : ByteArray := (⟨#[33]⟩ : ByteArray) ++ ⟨(Lib.itoa ((1048576 * n + i + 1 : Nat) : Int)).toArray⟩
def mkT (n i : Nat) : Value := .string (txt n i)
set_option maxHeartbeats 800000 in
theorem text_any (n i : Nat) (hn : n ≤ 1000) (hi : i ≤ 1000000000000) (w : World) (hP : Pw w) : Calls Tryz.prog 36 #[.int .i64 n, .int .i64 i] w (Makes (mkT n i) w) := by
  have HP := Lib.hid hP
  have hl := Lib.itoa_length_le ((1048576 * n + i + 1 : Nat) : Int) (by omega) (by omega)
  have ecast : ((1048576 * n + i + 1 : Nat) : Int) = 1048576 * (n : Int) + (i : Int) + 1 := by omega
  have HCA := Lib.hid ecast
  rw [ecast] at hl
  have hl2 : ¬ 9223372036854775807 < 1 + (Lib.itoa (1048576 * (n : Int) + (i : Int) + 1)).length := by omega
  clear hP hl ecast
  go_enter Tryz.func36, Tryz.ntmps36
  go_wp2_with fail
  refine (num_any n i hn hi _).mono ?_
  rintro e w1 ⟨rfl, rfl⟩
  go_wp2_with fail
  refine (Tryz.strconv_Itoa ((1048576 * n + i + 1 : Nat) : Int) (by omega) (by omega) w HP.out).mono ?_
  rintro e w2 ⟨rfl, k, os, rfl⟩
  have HB : Hid (Below w.heap.size w (Go.Sort.grow (w.drewN k) os)) := Lib.hid (Lib.below_grow _ w (Nat.le_refl _) k os)
  generalize Go.Sort.grow (w.drewN k) os = w3 at *
  go_wp2_with fail
  go_ret
  exact Makes.mk (by unfold mkT txt; rw [HCA.out]; rfl) HB.out
/-- The bag's own block. -/
def BagIs (gb : Nat) (cs : Array Value) (w : World) : Prop := w.heap[gb]? = some (.cells cs 63 (0, 0))
section
variable {gb : Nat} {cs : Array Value} {w w' : World}
theorem BagIs.lt (h : BagIs gb cs w) : gb < w.heap.size := (Array.getElem?_eq_some_iff.1 h).1
theorem BagIs.later (h : BagIs gb cs w) (hb : Below w.heap.size w w') : BagIs gb cs w' := (hb.block gb h.lt).trans h
theorem BagIs.cell {j : Nat} {v : Value} (h : BagIs gb cs w) (hv : cs[j]? = some v) : w.cell? ⟨gb, j, none⟩ = some v := by
  unfold BagIs at h
  simp [World.cell?, h, hv]
theorem BagIs.ne {B n size : Nat} {e : TypeId} {v : Value} {xs : List Value} (h : BagIs gb cs w) (ho : w.ownsRow B e size v n xs) (he : e ≠ 63) : v.ownBlock ≠ some gb := own_ne ho fun cur hc => by
  unfold BagIs at h
  rw [h] at hc
  simp only [Option.some.injEq, Obj.cells.injEq] at hc
  exact he hc.2.1.symm
theorem BagIs.grown {o : Option Nat} (h : BagIs gb cs w) (hg : w.grownBy w' o) (ho : o ≠ some gb) : BagIs gb cs w' := (hg.block gb h.lt (fun e => ho e.symm)).trans h
theorem BagIs.set {g : Nat} (h : BagIs gb cs w) (hne : g ≠ gb) (i : Nat) (u : Value) : BagIs gb cs (w.setCell ⟨g, i, none⟩ u) := (((Keep.refl g w).setCell i u).block gb h.lt (fun e => hne e.symm)).trans h
end
theorem stexts_info : (Tryz.prog.info? 110).map (fun i => (i.zero, i.size, i.bytes)) = some (some (.slice none 0 0), 1, 24) := by kernel_rfl
set_option maxRecDepth 100000 in
set_option maxHeartbeats 6400000 in
theorem apartTexts_any (gb B : Nat) (R : List Value) (L : Nat → Nat) (bv : Value) (w : World) (cs : Array Value) (hBI : BagIs gb cs w) (hc4 : cs[4]? = some bv) (hBw : B ≤ w.heap.size) (hbv : w.ownsRow B 110 1 bv R.length R)
    (hG : ∀ n v, R[n]? = some v → ∃ xs, w.ownsRow B 9 1 v (L n) xs) (hA : ∀ (i j : Nat) (u v : Value), i ≠ j → R[i]? = some u → R[j]? = some v → Culp.Apart u v) (hM : R.length ≤ 300) (hL : ∀ n, L n ≤ 1000000) (hP : Pw w) (hpB : 1 < B) :
    Calls Tryz.prog 48 #[.pointer (some ⟨gb, 0, none⟩)] w (fun e w' => e = .returned (.bool true) ∧ Below B w w' ∧ BagIs gb cs w') := by
  have HL := Lib.hid hL
  have HPW := Lib.hid (fun wx (hb : Below B w wx) => hP.later hb hpB)
  have HA := Lib.hid hA
  have HC := Lib.hid hc4
  have HBI := Lib.hid hBI
  have HP0 := Lib.hid (Bag.Ph1.start (mk := mkT) hG)
  have HV0 := Lib.hid hbv
  obtain ⟨A0, cb, rfl, _, hA0⟩ := own_form hbv
  have HA0 := Lib.hid hA0
  clear hG hA hL hbv hA0 hP hpB hBI hc4
  go_enter Tryz.func48, Tryz.ntmps48
  go_wp2_with fail
  go_loopw [3] (fun i wr => ∃ n : Nat, n ≤ R.length ∧ i = .int .i64 n ∧ Hid (Bag.Ph1 9 B R L mkT n 0 wr) ∧ Hid (wr.ownsRow B 110 1 (.slice A0 R.length cb) R.length R) ∧ Hid (Below B w wr) ∧ Hid (BagIs gb cs wr)) (fun i _ => R.length - (intOf i).toNat)
  case atStart => exact ⟨0, Nat.zero_le _, rfl, HP0, HV0, Lib.hid (Below.refl _ _), HBI⟩
  case round =>
    clear HP0 HV0
    obtain ⟨n, hn, rfl, HP, HV, HB, HBI⟩ := hrel
    have c1 := HBI.out.cell HC.out
    by_cases hlt : n < R.length
    · obtain ⟨v, hv⟩ : ∃ v, R[n]? = some v := ⟨_, List.getElem?_eq_getElem hlt⟩
      have HVN := Lib.hid hv
      obtain ⟨rb, rfl, hrb, _⟩ := HA0.out (by omega)
      obtain ⟨Av, cv, rfl⟩ := HP.out.form hv
      have r0 := (own_get HV.out hv).1
      clear hv
      go_wp2_with fail
      go_loopw [4] (fun i wr => ∃ k : Nat, k ≤ L n ∧ i = .int .i64 k ∧ Hid (Bag.Ph1 9 B R L mkT n k wr) ∧ Hid (wr.ownsRow B 110 1 (.slice (some ⟨rb, 0, none⟩) R.length cb) R.length R) ∧ Hid (Below B w wr) ∧ Hid (BagIs gb cs wr)) (fun i _ => L n - (intOf i).toNat)
      case atStart => exact ⟨0, Nat.zero_le _, rfl, HP, HV, HB, HBI⟩
      case round =>
        clear HP HV HB c1 r0
        obtain ⟨k, hk, rfl, HP, HV, HB, HBI⟩ := hrel
        have c1 := HBI.out.cell HC.out
        have r0 := (own_get HV.out HVN.out).1
        have hLn := HL.out n
        by_cases hkl : k < L n
        · obtain ⟨g, c, x0, e0, hBg, x1, x2, xs, hxs⟩ := HP.out.cell HVN.out hkl
          simp only [Value.slice.injEq] at e0
          obtain ⟨rfl, _, rfl⟩ := e0
          have hgg : g ≠ gb := fun he => HBI.out.ne hxs (by decide) (congrArg some he)
          have hgr : g ≠ rb := fun he => own_apart_type hxs HV.out (by decide) g rfl (by rw [he]; rfl)
          have HPd : Hid (Bag.Ph1 9 B R L mkT n k wr.drew) := Lib.hid HP.out
          have HVd : Hid (wr.drew.ownsRow B 110 1 (.slice (some ⟨rb, 0, none⟩) R.length cb) R.length R) := Lib.hid HV.out
          have HBd := Lib.hid HB.out.drew
          have HBId : Hid (BagIs gb cs wr.drew) := Lib.hid HBI.out
          clear hxs HP HV HB x1 x2
          go_wp2_with fail
          refine wp_region_plan (S := fun w' => w'.cell? ⟨gb, 4, none⟩ = some (.slice (some ⟨rb, 0, none⟩) R.length cb) ∧ w'.cell? ⟨rb, n, none⟩ = some (.slice (some ⟨g, 0, none⟩) (L n) cv))
            [(0, true), (1, true), (2, true), (3, true), (4, true), (5, true), (6, true), (7, true), (8, true), (9, true), (10, false), (11, true), (12, false)] (by kernel_rfl) (by kernel_rfl) (by kernel_rfl) (fun _ _ _ _ _ h => h) ⟨c1, r0⟩ ?_
          intro HS
          repeat (first | (apply wpPlan_look; rfl; rfl; (intro wq hq; (try dsimp only at hq); go_split_ands; go_simp; (try rw [if_neg (by omega)]); (try rw [if_pos (by omega)]); try with_reducible rfl); simp only [Act.put, List.setIfInBounds_toArray, List.set_cons_zero, List.set_cons_succ]) | (apply wpPlan_skip; rfl; rfl; simp only [Act.put, List.setIfInBounds_toArray, List.set_cons_zero, List.set_cons_succ]) | (apply wpPlan_pass; rfl; rfl; assumption; simp only [Act.put, List.setIfInBounds_toArray, List.set_cons_zero, List.set_cons_succ]))
          apply wpPlan_call; rfl; rfl; rfl; rfl; kernel_rfl; exact text_any n k (by omega) (by omega) _ (HPW.out _ HBd.out); rfl; rintro e w1 ⟨rfl, hb1⟩
          refine ⟨_, rfl, as_S ⟨cell_later hb1 c1, cell_later hb1 r0⟩ ?_⟩
          intro HS1
          simp only [Act.put, List.setIfInBounds_toArray, List.set_cons_zero, List.set_cons_succ]
          repeat (first | (apply wpPlan_look; rfl; rfl; (intro wq hq; (try dsimp only at hq); go_split_ands; go_simp; (try rw [if_neg (by omega)]); (try rw [if_pos (by omega)]); try with_reducible rfl); simp only [Act.put, List.setIfInBounds_toArray, List.set_cons_zero, List.set_cons_succ]) | (apply wpPlan_skip; rfl; rfl; simp only [Act.put, List.setIfInBounds_toArray, List.set_cons_zero, List.set_cons_succ]) | (apply wpPlan_pass; rfl; rfl; assumption; simp only [Act.put, List.setIfInBounds_toArray, List.set_cons_zero, List.set_cons_succ]))
          have HP1 := Lib.hid (HPd.out.later hb1)
          have HV1 := Lib.hid (own_later HVd.out hb1)
          have HB1 : Hid (Below B w w1) := Lib.hid (HBd.out.trans (hb1.mono (Nat.le_trans hBw HBd.out.size)))
          have HBI1 := Lib.hid (HBId.out.later hb1)
          obtain ⟨g9, c9, x9, e9, _, y1, y2, -⟩ := HP1.out.cell HVN.out hkl
          simp only [Value.slice.injEq, Option.some.injEq, Addr.mk.injEq] at e9
          obtain ⟨⟨rfl, _⟩, _, rfl⟩ := e9
          have HP2 := Lib.hid (HP1.out.set HA.out HVN.out hkl)
          have HV2 := Lib.hid (own_apart_keep HV1.out ((Keep.refl g w1).setCell k (mkT n k)) (fun he => hgr (by injection he with he; exact he.symm)))
          have HB2 := Lib.hid (Below.setCell (p := ⟨g, k, none⟩) HB1.out hBg (mkT n k))
          have HBI2 := Lib.hid (HBI1.out.set hgg k (mkT n k))
          have c2 := Keep.cell ((Keep.refl g w1).setCell k (mkT n k)) HS1.1 hgg.symm
          have r2 := Keep.cell ((Keep.refl g w1).setCell k (mkT n k)) HS1.2 hgr.symm
          refine wpPlan_run0 (w' := w1.setCell ⟨g, k, none⟩ (mkT n k)) rfl rfl (by simp [execOp, go_sem, y1, y2, mkT]) _ (fun _ h => h) ⟨c2, r2⟩ ?_
          simp only [Act.put, List.setIfInBounds_toArray, List.set_cons_zero, List.set_cons_succ]
          apply wpPlan_done
          clear HPd HVd HBd HP1 HV1 HB1 y1 y2 c2 r2 HS HS1 c1 r0 hb1
          generalize w1.setCell ⟨g, k, none⟩ (mkT n k) = w2 at *
          go_wp2_with fail
          go_roundw
          case rel => exact ⟨k + 1, by omega, by go_num, HP2, HV2, HB2, HBI2⟩
          case measure => simp [intOf]; omega
        · have hkl2 : k = L n := by omega
          have HP2 := Lib.hid (Bag.Ph1.next (by have := HP.out; rw [hkl2] at this; exact this))
          clear HP hkl2
          go_wp2_with fail
          go_roundw
          case rel => exact ⟨n + 1, by omega, by go_num, HP2, HV, HB, HBI⟩
          case measure => simp [intOf]; omega
    · obtain rfl : n = R.length := by omega
      have HQ := Lib.hid (Bag.Ph2.start (W := w.heap.size) (se := 110) HP.out HV.out)
      clear HP HV
      go_wp2_with fail
      clear c1
      go_loopw [5, 6, 7] (fun ov mv i wr => ∃ (n : Nat) (o m : Value) (Us Vs : List Value), o = ov ∧ m = mv ∧ n ≤ R.length ∧ i = .int .i64 n ∧ Hid (Bag.Ph2 9 110 B w.heap.size R L mkT (.slice A0 R.length cb) n o m Us Vs wr) ∧ Hid (Below B w wr) ∧ Hid (BagIs gb cs wr)) (fun _ _ i _ => R.length - (intOf i).toNat)
      case atStart => exact ⟨0, _, _, [], [], rfl, rfl, Nat.zero_le _, rfl, HQ, HB, HBI⟩
      case round =>
        clear HQ HB
        obtain ⟨n, o, m, Us, Vs, rfl, rfl, hn, rfl, HQ, HB, HBI⟩ := hrel
        have c1 := HBI.out.cell HC.out
        by_cases hlt : n < R.length
        · obtain ⟨v, hv⟩ : ∃ v, R[n]? = some v := ⟨_, List.getElem?_eq_getElem hlt⟩
          have HVN := Lib.hid hv
          obtain ⟨rb, rfl, hrb, _⟩ := HA0.out (by omega)
          obtain ⟨Av, cv, rfl, _⟩ := own_form (HQ.out.row n v hv)
          have r0 := (own_get HQ.out.hbag hv).1
          have HI0 := Lib.hid (Bag.In.start HQ.out HA.out hv)
          have hLn := HL.out n
          clear hv HQ
          go_wp2_with fail
          go_loopw [5, 8, 9] (fun ov lv i wr => ∃ (t p : Nat) (o l : Value) (Us : List Value), o = ov ∧ l = lv ∧ t ≤ 70 ∧ L n ≤ p ∧ p ≤ L n + 70 ∧ i = .int .i64 p ∧ Hid (p = L n + t) ∧ Hid (Bag.In 9 110 B w.heap.size R L mkT (.slice (some ⟨rb, 0, none⟩) R.length cb) n t l o m Us Vs wr) ∧ Hid (Below B w wr) ∧ Hid (BagIs gb cs wr)) (fun _ _ i _ => L n + 70 - (intOf i).toNat)
          case atStart => exact ⟨0, L n, _, _, Us, rfl, rfl, by omega, Nat.le_refl _, by omega, rfl, Lib.hid rfl, HI0, HB, HBI⟩
          case round =>
            clear HI0 HB c1 r0
            obtain ⟨t, p, o, l, Us, rfl, rfl, ht, hp0, hp1, rfl, HPT, HI, HB, HBI⟩ := hrel
            have c1 := HBI.out.cell HC.out
            have r0 := (own_get HI.out.hbag HVN.out).1
            have hpt := HPT.out
            by_cases hkl : t < 70
            · have hpl : p < L n + 70 := by omega
              have own4 : wr.ownsRow B 9 1 l p (Bag.marks mkT n p) := by rw [HPT.out]; exact HI.out.own
              clear hpt
              go_wp2_with fail
              refine (text_any n p (by omega) (by omega) _ (HPW.out _ HB.out)).mono ?_
              rintro e w1 ⟨rfl, hb1⟩
              unfold mkT
              have HI1 := Lib.hid (HI.out.later hb1)
              have HB1 : Hid (Below B w w1) := Lib.hid (HB.out.trans (hb1.mono (Nat.le_trans hBw HB.out.size)))
              have HBI1 := Lib.hid (HBI.out.later hb1)
              have own4 := own_later own4 hb1
              clear hb1 HI HB
              clear c1 r0
              go_wp2_with (at_builtin; refine append_held rfl (.tmp 78) (.tmp 82) 110 9 rfl B _ 1 16 Tryz.underlying110 strings_info rfl (by decide) _ _ _ rfl own4 [.string (txt n p)] rfl w1.heap.size rfl rfl ?_ ?_ ?_ ?_ ?_)
              · intro y hy; simp only [List.mem_cons, List.not_mem_nil, or_false] at hy; subst hy; rfl
              · omega
              · omega
              · have := HB1.out.size; omega
              intro v' w5 a1 a2 a3 a4 a5
              have HG : Hid (Bag.Grew B 9 w1 w5 l v' (L n + t) (Bag.marks mkT n (L n + t)) (mkT n (L n + t))) := Lib.hid (by rw [← HPT.out]; exact ⟨a1, a2, a3, a4, a5⟩)
              have HB5 := Lib.hid (HB1.out.trans a3)
              have HBI5 := Lib.hid (HBI1.out.grown a2 (HBI1.out.ne own4 (by decide)))
              obtain ⟨A5, c5, rfl, _⟩ := own_form a1
              have c1 := HBI5.out.cell HC.out
              have r0 := (own_get (own_other HI1.out.hbag a2 (own_apart_type own4 HI1.out.hbag (by decide))) HVN.out).1
              have ownO := own_other HI1.out.hone a2 (own_apart_type own4 HI1.out.hone (by decide))
              clear a1 a2 a3 a4 a5 own4
              by_cases ht0 : t = 0
              · have hpe : p = L n := by have := HPT.out; omega
                have e1 : (((p : Nat) : Int) == ((L n : Nat) : Int)) = true := int_eq' hpe
                have HUn : Hid (Us.length = n) := Lib.hid (by have := HI1.out.lu; rw [ht0] at this; exact this)
                have hUn := HUn.out
                clear hpe
                go_wp2_with (at_builtin; refine append_held rfl (.tmp 94) (.tmp 96) 48 110 rfl w.heap.size _ 1 24 Tryz.underlying48 stexts_info rfl (by decide) _ _ _ rfl ownO [.slice A5 (p + 1) c5] rfl w5.heap.size rfl rfl ?_ ?_ ?_ ?_ ?_)
                · intro y hy; simp only [List.mem_cons, List.not_mem_nil, or_false] at hy; subst hy; rfl
                · omega
                · omega
                · exact HB5.out.size
                intro o' w6 a1 a2 a3 a4 a5
                have HI6 : Hid (Bag.In 9 110 B w.heap.size R L mkT (.slice (some ⟨rb, 0, none⟩) R.length cb) n (t + 1) (.slice A5 (p + 1) c5) o' m (Us ++ [.slice A5 (p + 1) c5]) Vs w6) := Lib.hid (by
                  have hI := HI1.out
                  have hG := HG.out
                  subst ht0
                  exact Bag.In.first (by decide) hI hG (one' := o') ⟨a1, a2, a3, a4, a5⟩ hBw)
                have HB6 := Lib.hid (HB5.out.trans (Below.mono a3 hBw))
                have HBI6 := Lib.hid (HBI5.out.grown a2 (HBI5.out.ne ownO (by decide)))
                clear a1 a2 a3 a4 a5 HI1 HG HB5 HB1 c1 r0 ownO
                go_wp2_with fail
                go_roundw
                case rel => exact ⟨t + 1, p + 1, o', _, _, rfl, rfl, by omega, by omega, by omega, by go_num, Lib.hid (by rw [HPT.out]; omega), HI6, HB6, HBI6⟩
                case measure => simp [intOf]; omega
              · have e1 : (((p : Nat) : Int) == ((L n : Nat) : Int)) = false := beq_no (by have := HPT.out; omega)
                have HI6 := Lib.hid (Bag.In.push (by decide) HI1.out (fun h => absurd h ht0) HA.out HG.out (by omega))
                clear HI1 HG HB1 ownO
                go_wp2_with fail
                go_roundw
                case rel => exact ⟨t + 1, p + 1, o, _, Us, rfl, rfl, by omega, by omega, by omega, by go_num, Lib.hid (by rw [HPT.out]; omega), HI6, HB5, HBI5⟩
                case measure => simp [intOf]; omega
            · have ht70 : t = 70 := by omega
              have hpe : p = L n + 70 := by omega
              have HI70 : Hid (Bag.In 9 110 B w.heap.size R L mkT (.slice (some ⟨rb, 0, none⟩) R.length cb) n 70 l o m Us Vs wr) := Lib.hid (by have := HI.out; rw [ht70] at this; exact this)
              have ownM := HI.out.hmore
              have own7 := HI70.out.own
              rw [← hpe] at own7
              obtain ⟨A5, c5, rfl, _⟩ := own_form own7
              have hnp : ¬ p < L n + 70 := by omega
              clear hpt hpe HI ht70 HPT own7
              go_wp2_with (at_builtin; refine append_held rfl (.tmp 98) (.tmp 100) 48 110 rfl w.heap.size _ 1 24 Tryz.underlying48 stexts_info rfl (by decide) _ _ _ rfl ownM [.slice A5 p c5] rfl wr.heap.size rfl rfl ?_ ?_ ?_ ?_ ?_)
              · intro y hy; simp only [List.mem_cons, List.not_mem_nil, or_false] at hy; subst hy; rfl
              · omega
              · omega
              · exact HB.out.size
              intro m' w6 a1 a2 a3 a4 a5
              have HQ6 := Lib.hid (Bag.In.done (by decide) HI70.out ⟨a1, a2, a3, a4, a5⟩)
              have HB6 := Lib.hid (HB.out.trans (Below.mono a3 hBw))
              have HBI6 := Lib.hid (HBI.out.grown a2 (HBI.out.ne ownM (by decide)))
              clear a1 a2 a3 a4 a5 HI70 HB c1 r0 ownM
              go_wp2_with fail
              go_roundw
              case rel => exact ⟨n + 1, _, m', Us, _, rfl, rfl, by omega, by go_num, HQ6, HB6, HBI6⟩
              case measure => simp [intOf]; omega
        · obtain rfl : n = R.length := by omega
          obtain ⟨Am, cm, rfl, -⟩ := own_form HQ.out.hmore
          obtain ⟨Ao, co, rfl, -⟩ := own_form HQ.out.hone
          go_wp2_with fail
          clear c1
          go_loopw [10] (fun i wr => ∃ n : Nat, n ≤ R.length ∧ i = .int .i64 n ∧ Hid (Bag.Ph2 9 110 B w.heap.size R L mkT (.slice A0 R.length cb) R.length (.slice Ao R.length co) (.slice Am R.length cm) Us Vs wr) ∧ Hid (Below B w wr) ∧ Hid (BagIs gb cs wr)) (fun i _ => R.length - (intOf i).toNat)
          case atStart => exact ⟨0, Nat.zero_le _, rfl, HQ, HB, HBI⟩
          case round =>
            clear HQ HB
            obtain ⟨n, hn, rfl, HQ, HB, HBI⟩ := hrel
            by_cases hlt : n < R.length
            · have hv0 : ∃ v, R[n]? = some v := ⟨_, List.getElem?_eq_getElem hlt⟩
              obtain ⟨v, hv⟩ := hv0
              have hu0 : ∃ u, Us[n]? = some u := ⟨_, List.getElem?_eq_getElem (by rw [HQ.out.lu]; exact hlt)⟩
              have hx0 : ∃ u, Vs[n]? = some u := ⟨_, List.getElem?_eq_getElem (by rw [HQ.out.lv]; exact hlt)⟩
              obtain ⟨u, hu⟩ := hu0
              obtain ⟨x, hx⟩ := hx0
              have hLn := HL.out n
              obtain ⟨rb, rfl, hrb, -⟩ := HA0.out (by omega)
              obtain ⟨_, _, e1, -⟩ := own_read HQ.out.hmore (by omega)
              obtain ⟨_, _, e2, -⟩ := own_read HQ.out.hone (by omega)
              simp only [Value.slice.injEq] at e1 e2
              obtain ⟨rfl, _, rfl⟩ := e1
              obtain ⟨rfl, _, rfl⟩ := e2
              obtain ⟨Av, cv, rfl, -⟩ := own_form (HQ.out.row n v hv)
              obtain ⟨gu, cu, rfl, -⟩ := own_read (HQ.out.us n u hu).1 (by omega)
              obtain ⟨gx, cx, rfl, -⟩ := own_read (HQ.out.vs n x hx).1 (by omega)
              have HV := Lib.hid hv
              have HU := Lib.hid hu
              have HX := Lib.hid hx
              have m0 := (own_get HQ.out.hmore hx).1
              clear hv hu hx
              go_wp2_with fail
              clear m0
              go_loopw [11] (fun i wr => ∃ k : Nat, k ≤ L n + 70 ∧ i = .int .i64 k ∧ Hid (Bag.Ph2 9 110 B w.heap.size R L mkT (.slice (some ⟨rb, 0, none⟩) R.length cb) R.length (.slice _ R.length co) (.slice _ R.length cm) Us Vs wr) ∧ Hid (Below B w wr) ∧ Hid (BagIs gb cs wr)) (fun i _ => L n + 70 - (intOf i).toNat)
              case atStart => exact ⟨0, Nat.zero_le _, rfl, HQ, HB, HBI⟩
              case round =>
                clear HQ HB
                obtain ⟨k, hk, rfl, HQ, HB, HBI⟩ := hrel
                have c1 := HBI.out.cell HC.out
                have r0 := (own_get HQ.out.hbag HV.out).1
                have m0 := (own_get HQ.out.hmore HX.out).1
                have o0 := (own_get HQ.out.hone HU.out).1
                by_cases hkl : k < L n + 70
                · have x0 : wr.cell? ⟨gx, k, none⟩ = some (.string (txt n k)) := (own_get (HQ.out.vs n _ HX.out).1 (Bag.marks_get hkl)).1
                  by_cases hk1 : k < L n
                  · obtain ⟨gv, _, e3, -⟩ := own_read (HQ.out.row n _ HV.out) (by omega)
                    simp only [Value.slice.injEq] at e3
                    obtain ⟨rfl, _, rfl⟩ := e3
                    have v0 : wr.cell? ⟨gv, k, none⟩ = some (.string (txt n k)) := (own_get (HQ.out.row n _ HV.out) (Bag.marks_get hk1)).1
                    have e4 : (((k : Nat) : Int) == ((L n : Nat) : Int)) = false := beq_no (by omega)
                    go_wp2_with fail
                    refine (text_any n k (by omega) (by omega) _ (HPW.out _ HB.out)).mono ?_
                    rintro e w1 ⟨rfl, hb1⟩
                    have HQ1 := Lib.hid (HQ.out.later hb1)
                    have HB1 : Hid (Below B w w1) := Lib.hid (HB.out.trans (hb1.mono (Nat.le_trans hBw HB.out.size)))
                    have HBI1 := Lib.hid (HBI.out.later hb1)
                    have m0 := cell_later hb1 m0
                    have x0 := cell_later hb1 x0
                    clear hb1 HQ HB
                    unfold mkT
                    go_wp2_with fail
                    refine (text_any n k (by omega) (by omega) _ (HPW.out _ HB1.out)).mono ?_
                    rintro e w2 ⟨rfl, hb2⟩
                    have HQ2 := Lib.hid (HQ1.out.later hb2)
                    have HB2 : Hid (Below B w w2) := Lib.hid (HB1.out.trans (hb2.mono (Nat.le_trans hBw HB1.out.size)))
                    have HBI2 := Lib.hid (HBI1.out.later hb2)
                    clear hb2 HQ1 HB1
                    unfold mkT
                    go_wp2_with fail
                    go_roundw
                    case rel => exact ⟨k + 1, by omega, by go_num, HQ2, HB2, HBI2⟩
                    case measure => simp [intOf]; omega
                  · by_cases hk2 : k = L n
                    · have e4 : (((k : Nat) : Int) == ((L n : Nat) : Int)) = true := int_eq' hk2
                      have u0 : wr.cell? ⟨gu, k, none⟩ = some (.string (txt n k)) := (own_get (HQ.out.us n _ HU.out).1 (Bag.marks_get (by omega))).1
                      have hk3 : k < L n + 1 := by omega
                      clear hk2
                      go_wp2_with fail
                      refine (text_any n k (by omega) (by omega) _ (HPW.out _ HB.out)).mono ?_
                      rintro e w1 ⟨rfl, hb1⟩
                      have HQ1 := Lib.hid (HQ.out.later hb1)
                      have HB1 : Hid (Below B w w1) := Lib.hid (HB.out.trans (hb1.mono (Nat.le_trans hBw HB.out.size)))
                      have HBI1 := Lib.hid (HBI.out.later hb1)
                      have m0 := cell_later hb1 m0
                      have x0 := cell_later hb1 x0
                      clear hb1 HQ HB
                      unfold mkT
                      go_wp2_with fail
                      refine (text_any n k (by omega) (by omega) _ (HPW.out _ HB1.out)).mono ?_
                      rintro e w2 ⟨rfl, hb2⟩
                      have HQ2 := Lib.hid (HQ1.out.later hb2)
                      have HB2 : Hid (Below B w w2) := Lib.hid (HB1.out.trans (hb2.mono (Nat.le_trans hBw HB1.out.size)))
                      have HBI2 := Lib.hid (HBI1.out.later hb2)
                      clear hb2 HQ1 HB1
                      unfold mkT
                      go_wp2_with fail
                      go_roundw
                      case rel => exact ⟨k + 1, by omega, by go_num, HQ2, HB2, HBI2⟩
                      case measure => simp [intOf]; omega
                    · have e4 : (((k : Nat) : Int) == ((L n : Nat) : Int)) = false := beq_no (by omega)
                      clear hk2
                      go_wp2_with fail
                      refine (text_any n k (by omega) (by omega) _ (HPW.out _ HB.out)).mono ?_
                      rintro e w1 ⟨rfl, hb1⟩
                      have HQ1 := Lib.hid (HQ.out.later hb1)
                      have HB1 : Hid (Below B w w1) := Lib.hid (HB.out.trans (hb1.mono (Nat.le_trans hBw HB.out.size)))
                      have HBI1 := Lib.hid (HBI.out.later hb1)
                      have m0 := cell_later hb1 m0
                      have x0 := cell_later hb1 x0
                      clear hb1 HQ HB
                      unfold mkT
                      go_wp2_with fail
                      refine (text_any n k (by omega) (by omega) _ (HPW.out _ HB1.out)).mono ?_
                      rintro e w2 ⟨rfl, hb2⟩
                      have HQ2 := Lib.hid (HQ1.out.later hb2)
                      have HB2 : Hid (Below B w w2) := Lib.hid (HB1.out.trans (hb2.mono (Nat.le_trans hBw HB1.out.size)))
                      have HBI2 := Lib.hid (HBI1.out.later hb2)
                      clear hb2 HQ1 HB1
                      unfold mkT
                      go_wp2_with fail
                      go_roundw
                      case rel => exact ⟨k + 1, by omega, by go_num, HQ2, HB2, HBI2⟩
                      case measure => simp [intOf]; omega
                · go_wp2_with fail
                  go_roundw
                  case rel => exact ⟨n + 1, by omega, by go_num, HQ, HB, HBI⟩
                  case measure => simp [intOf]; omega
            · go_wp2_with fail
              go_ret
              exact ⟨rfl, HB.out, HBI.out⟩
end Go.Proofs.YtidholghbjljaaaGreatDoor

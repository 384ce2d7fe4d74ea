
/- Walks of bags: kinds of which nothing was gathered. -/
import Derived.Test.YtidholghbjljaaaGreatDoorFq
import Derived.Test.YtidholghbjljaaaGreatDoorHlpB
import Derived.Test.YtidholghbjljaaaGreatDoorTrW
import Derived.Test.YtidholghbjljaaaGreatDoorShelfI
import Derived.Lib.ItoaLen
import Derived.Lib.AppendIntMem
namespace Go.Proofs.YtidholghbjljaaaGreatDoor
set_option linter.unusedSimpArgs false
set_option linter.unusedVariables false
open Go.RowKit Go.Maps Culp

set_option maxHeartbeats 400000 in
theorem num_any (n i : Nat) (hn : n ≤ 1000) (hi : i ≤ 1000000000000) (w : World) : Calls Tryz.prog 64 #[.int .i64 n, .int .i64 i] w (Gives (.int .i64 ((1048576 * n + i + 1 : Nat) : Int)) w) := by
  go_enter Tryz.func64, Tryz.ntmps64
  go_wp2_with fail
  go_ret
  exact Gives.mk (by go_num)
set_option maxRecDepth 100000 in
theorem apartBytes_none (gb : Nat) (w : World) (c0 : w.cell? ⟨gb, 0, none⟩ = some (.slice none 0 0)) : Calls Tryz.prog 44 #[.pointer (some ⟨gb, 0, none⟩)] w (Gives (.bool true) w) := by
  go_enter Tryz.func44, Tryz.ntmps44
  go_wp2_with fail
  go_loop [3] (fun i => i = .int .i64 0) (fun _ => 0)
  case atStart => rfl
  case round =>
    subst hrel
    go_wp2_with fail
    go_loop [6, 7] (fun m i => m = .slice none 0 0 ∧ i = .int .i64 0) (fun _ _ => 0)
    case atStart => exact ⟨rfl, rfl⟩
    case round =>
      obtain ⟨rfl, rfl⟩ := hrel
      go_wp2_with fail
      go_loop [10] (fun i => i = .int .i64 0) (fun _ => 0)
      case atStart => rfl
      case round =>
        subst hrel
        go_wp2_with fail
        go_ret
        exact Gives.mk rfl
set_option maxRecDepth 100000 in
theorem apartInts_none (gb : Nat) (w : World) (c0 : w.cell? ⟨gb, 1, none⟩ = some (.slice none 0 0)) : Calls Tryz.prog 45 #[.pointer (some ⟨gb, 0, none⟩)] w (Gives (.bool true) w) := by
  go_enter Tryz.func45, Tryz.ntmps45
  go_wp2_with fail
  go_loop [3] (fun i => i = .int .i64 0) (fun _ => 0)
  case atStart => rfl
  case round =>
    subst hrel
    go_wp2_with fail
    go_loop [6, 7] (fun m i => m = .slice none 0 0 ∧ i = .int .i64 0) (fun _ _ => 0)
    case atStart => exact ⟨rfl, rfl⟩
    case round =>
      obtain ⟨rfl, rfl⟩ := hrel
      go_wp2_with fail
      go_loop [10] (fun i => i = .int .i64 0) (fun _ => 0)
      case atStart => rfl
      case round =>
        subst hrel
        go_wp2_with fail
        go_ret
        exact Gives.mk rfl
set_option maxRecDepth 100000 in
theorem apartLongs_none (gb : Nat) (w : World) (c0 : w.cell? ⟨gb, 2, none⟩ = some (.slice none 0 0)) : Calls Tryz.prog 46 #[.pointer (some ⟨gb, 0, none⟩)] w (Gives (.bool true) w) := by
  go_enter Tryz.func46, Tryz.ntmps46
  go_wp2_with fail
  go_loop [3] (fun i => i = .int .i64 0) (fun _ => 0)
  case atStart => rfl
  case round =>
    subst hrel
    go_wp2_with fail
    go_loop [6, 7] (fun m i => m = .slice none 0 0 ∧ i = .int .i64 0) (fun _ _ => 0)
    case atStart => exact ⟨rfl, rfl⟩
    case round =>
      obtain ⟨rfl, rfl⟩ := hrel
      go_wp2_with fail
      go_loop [10] (fun i => i = .int .i64 0) (fun _ => 0)
      case atStart => rfl
      case round =>
        subst hrel
        go_wp2_with fail
        go_ret
        exact Gives.mk rfl
set_option maxRecDepth 100000 in
theorem apartBools_none (gb : Nat) (w : World) (c0 : w.cell? ⟨gb, 3, none⟩ = some (.slice none 0 0)) : Calls Tryz.prog 47 #[.pointer (some ⟨gb, 0, none⟩)] w (Gives (.bool true) w) := by
  go_enter Tryz.func47, Tryz.ntmps47
  go_wp2_with fail
  go_loop [3] (fun i => i = .int .i64 0) (fun _ => 0)
  case atStart => rfl
  case round =>
    subst hrel
    go_wp2_with fail
    go_loop [6, 7] (fun m i => m = .slice none 0 0 ∧ i = .int .i64 0) (fun _ _ => 0)
    case atStart => exact ⟨rfl, rfl⟩
    case round =>
      obtain ⟨rfl, rfl⟩ := hrel
      go_wp2_with fail
      go_loop [10] (fun i => i = .int .i64 0) (fun _ => 0)
      case atStart => rfl
      case round =>
        subst hrel
        go_wp2_with fail
        go_ret
        exact Gives.mk rfl
set_option maxRecDepth 100000 in
theorem apartTexts_none (gb : Nat) (w : World) (c0 : w.cell? ⟨gb, 4, none⟩ = some (.slice none 0 0)) : Calls Tryz.prog 48 #[.pointer (some ⟨gb, 0, none⟩)] w (Gives (.bool true) w) := by
  go_enter Tryz.func48, Tryz.ntmps48
  go_wp2_with fail
  go_loop [3] (fun i => i = .int .i64 0) (fun _ => 0)
  case atStart => rfl
  case round =>
    subst hrel
    go_wp2_with fail
    go_loop [6, 7] (fun m i => m = .slice none 0 0 ∧ i = .int .i64 0) (fun _ _ => 0)
    case atStart => exact ⟨rfl, rfl⟩
    case round =>
      obtain ⟨rfl, rfl⟩ := hrel
      go_wp2_with fail
      go_loop [10] (fun i => i = .int .i64 0) (fun _ => 0)
      case atStart => rfl
      case round =>
        subst hrel
        go_wp2_with fail
        go_ret
        exact Gives.mk rfl
set_option maxRecDepth 100000 in
theorem apartCos_none (gb : Nat) (w : World) (c0 : w.cell? ⟨gb, 6, none⟩ = some (.slice none 0 0)) : Calls Tryz.prog 50 #[.pointer (some ⟨gb, 0, none⟩)] w (Gives (.bool true) w) := by
  go_enter Tryz.func50, Tryz.ntmps50
  go_wp2_with fail
  go_loop [3] (fun i => i = .int .i64 0) (fun _ => 0)
  case atStart => rfl
  case round =>
    subst hrel
    go_wp2_with fail
    go_loop [6, 7] (fun m i => m = .slice none 0 0 ∧ i = .int .i64 0) (fun _ _ => 0)
    case atStart => exact ⟨rfl, rfl⟩
    case round =>
      obtain ⟨rfl, rfl⟩ := hrel
      go_wp2_with fail
      go_loop [10] (fun i => i = .int .i64 0) (fun _ => 0)
      case atStart => rfl
      case round =>
        subst hrel
        go_wp2_with fail
        go_ret
        exact Gives.mk rfl
set_option maxRecDepth 100000 in
theorem apartSeen_none (gb : Nat) (w : World) (c0 : w.cell? ⟨gb, 7, none⟩ = some (.slice none 0 0)) : Calls Tryz.prog 51 #[.pointer (some ⟨gb, 0, none⟩)] w (Gives (.bool true) w) := by
  go_enter Tryz.func51, Tryz.ntmps51
  go_wp2_with fail
  go_loop [3] (fun i => i = .int .i64 0) (fun _ => 0)
  case atStart => rfl
  case round =>
    subst hrel
    go_wp2_with fail
    go_loop [6, 7] (fun m i => m = .slice none 0 0 ∧ i = .int .i64 0) (fun _ _ => 0)
    case atStart => exact ⟨rfl, rfl⟩
    case round =>
      obtain ⟨rfl, rfl⟩ := hrel
      go_wp2_with fail
      go_loop [10] (fun i => i = .int .i64 0) (fun _ => 0)
      case atStart => rfl
      case round =>
        subst hrel
        go_wp2_with fail
        go_ret
        exact Gives.mk rfl
set_option maxRecDepth 100000 in
theorem apartSites_none (gb : Nat) (w : World) (c0 : w.cell? ⟨gb, 8, none⟩ = some (.slice none 0 0)) : Calls Tryz.prog 52 #[.pointer (some ⟨gb, 0, none⟩)] w (Gives (.bool true) w) := by
  go_enter Tryz.func52, Tryz.ntmps52
  go_wp2_with fail
  go_loop [3] (fun i => i = .int .i64 0) (fun _ => 0)
  case atStart => rfl
  case round =>
    subst hrel
    go_wp2_with fail
    go_loop [6, 7] (fun m i => m = .slice none 0 0 ∧ i = .int .i64 0) (fun _ _ => 0)
    case atStart => exact ⟨rfl, rfl⟩
    case round =>
      obtain ⟨rfl, rfl⟩ := hrel
      go_wp2_with fail
      go_loop [10] (fun i => i = .int .i64 0) (fun _ => 0)
      case atStart => rfl
      case round =>
        subst hrel
        go_wp2_with fail
        go_ret
        exact Gives.mk rfl
set_option maxRecDepth 100000 in
theorem apartIns_none (gb : Nat) (w : World) (c0 : w.cell? ⟨gb, 9, none⟩ = some (.slice none 0 0)) : Calls Tryz.prog 53 #[.pointer (some ⟨gb, 0, none⟩)] w (Gives (.bool true) w) := by
  go_enter Tryz.func53, Tryz.ntmps53
  go_wp2_with fail
  go_loop [3] (fun i => i = .int .i64 0) (fun _ => 0)
  case atStart => rfl
  case round =>
    subst hrel
    go_wp2_with fail
    go_loop [6, 7] (fun m i => m = .slice none 0 0 ∧ i = .int .i64 0) (fun _ _ => 0)
    case atStart => exact ⟨rfl, rfl⟩
    case round =>
      obtain ⟨rfl, rfl⟩ := hrel
      go_wp2_with fail
      go_loop [10] (fun i => i = .int .i64 0) (fun _ => 0)
      case atStart => rfl
      case round =>
        subst hrel
        go_wp2_with fail
        go_ret
        exact Gives.mk rfl
set_option maxRecDepth 100000 in
theorem apartTraps_none (gb : Nat) (w : World) (c0 : w.cell? ⟨gb, 11, none⟩ = some (.slice none 0 0)) : Calls Tryz.prog 55 #[.pointer (some ⟨gb, 0, none⟩)] w (Gives (.bool true) w) := by
  go_enter Tryz.func55, Tryz.ntmps55
  go_wp2_with fail
  go_loop [3] (fun i => i = .int .i64 0) (fun _ => 0)
  case atStart => rfl
  case round =>
    subst hrel
    go_wp2_with fail
    go_loop [6, 7] (fun m i => m = .slice none 0 0 ∧ i = .int .i64 0) (fun _ _ => 0)
    case atStart => exact ⟨rfl, rfl⟩
    case round =>
      obtain ⟨rfl, rfl⟩ := hrel
      go_wp2_with fail
      go_loop [10] (fun i => i = .int .i64 0) (fun _ => 0)
      case atStart => rfl
      case round =>
        subst hrel
        go_wp2_with fail
        go_ret
        exact Gives.mk rfl
set_option maxRecDepth 100000 in
theorem apartRows_none (gb : Nat) (w : World) (c0 : w.cell? ⟨gb, 12, none⟩ = some (.slice none 0 0)) : Calls Tryz.prog 56 #[.pointer (some ⟨gb, 0, none⟩)] w (Gives (.bool true) w) := by
  go_enter Tryz.func56, Tryz.ntmps56
  go_wp2_with fail
  go_loop [3] (fun i => i = .int .i64 0) (fun _ => 0)
  case atStart => rfl
  case round =>
    subst hrel
    go_wp2_with fail
    go_loop [6, 7] (fun m i => m = .slice none 0 0 ∧ i = .int .i64 0) (fun _ _ => 0)
    case atStart => exact ⟨rfl, rfl⟩
    case round =>
      obtain ⟨rfl, rfl⟩ := hrel
      go_wp2_with fail
      go_loop [10] (fun i => i = .int .i64 0) (fun _ => 0)
      case atStart => rfl
      case round =>
        subst hrel
        go_wp2_with fail
        go_ret
        exact Gives.mk rfl
set_option maxRecDepth 100000 in
theorem apartFunctions_none (gb : Nat) (w : World) (c0 : w.cell? ⟨gb, 15, none⟩ = some (.slice none 0 0)) : Calls Tryz.prog 59 #[.pointer (some ⟨gb, 0, none⟩)] w (Gives (.bool true) w) := by
  go_enter Tryz.func59, Tryz.ntmps59
  go_wp2_with fail
  go_loop [3] (fun i => i = .int .i64 0) (fun _ => 0)
  case atStart => rfl
  case round =>
    subst hrel
    go_wp2_with fail
    go_loop [6, 7] (fun m i => m = .slice none 0 0 ∧ i = .int .i64 0) (fun _ _ => 0)
    case atStart => exact ⟨rfl, rfl⟩
    case round =>
      obtain ⟨rfl, rfl⟩ := hrel
      go_wp2_with fail
      go_loop [10] (fun i => i = .int .i64 0) (fun _ => 0)
      case atStart => rfl
      case round =>
        subst hrel
        go_wp2_with fail
        go_ret
        exact Gives.mk rfl
set_option maxRecDepth 100000 in
theorem apartWaits_none (gb : Nat) (w : World) (c0 : w.cell? ⟨gb, 16, none⟩ = some (.slice none 0 0)) : Calls Tryz.prog 60 #[.pointer (some ⟨gb, 0, none⟩)] w (Gives (.bool true) w) := by
  go_enter Tryz.func60, Tryz.ntmps60
  go_wp2_with fail
  go_loop [3] (fun i => i = .int .i64 0) (fun _ => 0)
  case atStart => rfl
  case round =>
    subst hrel
    go_wp2_with fail
    go_loop [6, 7] (fun m i => m = .slice none 0 0 ∧ i = .int .i64 0) (fun _ _ => 0)
    case atStart => exact ⟨rfl, rfl⟩
    case round =>
      obtain ⟨rfl, rfl⟩ := hrel
      go_wp2_with fail
      go_loop [10] (fun i => i = .int .i64 0) (fun _ => 0)
      case atStart => rfl
      case round =>
        subst hrel
        go_wp2_with fail
        go_ret
        exact Gives.mk rfl
set_option maxRecDepth 100000 in
theorem apartTrees_none (gb : Nat) (w : World) (c0 : w.cell? ⟨gb, 17, none⟩ = some (.slice none 0 0)) : Calls Tryz.prog 61 #[.pointer (some ⟨gb, 0, none⟩)] w (Gives (.bool true) w) := by
  go_enter Tryz.func61, Tryz.ntmps61
  go_wp2_with fail
  go_loop [3] (fun i => i = .int .i64 0) (fun _ => 0)
  case atStart => rfl
  case round =>
    subst hrel
    go_wp2_with fail
    go_loop [6, 7] (fun m i => m = .slice none 0 0 ∧ i = .int .i64 0) (fun _ _ => 0)
    case atStart => exact ⟨rfl, rfl⟩
    case round =>
      obtain ⟨rfl, rfl⟩ := hrel
      go_wp2_with fail
      go_loop [10] (fun i => i = .int .i64 0) (fun _ => 0)
      case atStart => rfl
      case round =>
        subst hrel
        go_wp2_with fail
        go_ret
        exact Gives.mk rfl
end Go.Proofs.YtidholghbjljaaaGreatDoor

/- Rows that were gathered are written full, and gone on with: what holds on the way. No program in sight. -/
namespace Culp.Bag
set_option linter.unusedSimpArgs false
set_option linter.unusedVariables false
open Go Go.RowKit

/-- The marks of the list n. -/
def marks (mk : Nat → Nat → Value) (n m : Nat) : List Value := (List.range m).map (mk n)
section
variable {mk : Nat → Nat → Value} {n m k : Nat}
theorem marks_len : (marks mk n m).length = m := by simp [marks]
theorem marks_succ : marks mk n (m + 1) = marks mk n m ++ [mk n m] := by simp [marks, List.range_succ]
theorem marks_get (h : k < m) : (marks mk n m)[k]? = some (mk n k) := by simp [marks, h]
theorem marks_take (h : k ≤ m) : (marks mk n m).take k = marks mk n k := by simp [marks, ← List.map_take, List.take_range, Nat.min_eq_left h]
end
/-- What one append does. -/
structure Grew (base : Nat) (e : TypeId) (w w' : World) (l l' : Value) (n : Nat) (xs : List Value) (u : Value) : Prop where
  own : w'.ownsRow base e 1 l' (n + 1) (xs ++ [u])
  grown : w.grownBy w' l.ownBlock
  below : Below base w w'
  at_ : l'.ownBlock = l.ownBlock ∨ ∃ b, l'.ownBlock = some b ∧ w.heap.size < b
  hold : ∀ X b m ys, w.ownsRow b e 1 X m ys → (∀ k, X.ownBlock = some k → l.ownBlock = some k → m ≤ n ∧ ys = xs.take m) → w'.ownsRow b e 1 X m ys
section
variable (e se : TypeId) (B W : Nat) (R : List Value) (L : Nat → Nat) (mk : Nat → Nat → Value)
/-- The first phase: rows are overwritten. -/
def Ph1 (n k : Nat) (w : World) : Prop := ∀ j v, R[j]? = some v → ∃ xs, w.ownsRow B e 1 v (L j) xs ∧ (j < n → xs = marks mk j (L j)) ∧ (j = n → xs.take k = marks mk n k)
/-- The second phase: rows are gone on with. -/
structure Ph2 (bv : Value) (n : Nat) (one more : Value) (Us Vs : List Value) (w : World) : Prop where
  lu : Us.length = n
  lv : Vs.length = n
  hbag : w.ownsRow B se 1 bv R.length R
  hone : w.ownsRow W se 1 one n Us
  hmore : w.ownsRow W se 1 more n Vs
  om : Apart one more
  ob : Apart one bv
  mb : Apart more bv
  row : ∀ j v, R[j]? = some v → w.ownsRow B e 1 v (L j) (marks mk j (L j))
  us : ∀ k u, Us[k]? = some u → w.ownsRow B e 1 u (L k + 1) (marks mk k (L k + 1)) ∧ ∀ j v, n ≤ j → R[j]? = some v → Apart v u
  vs : ∀ k u, Vs[k]? = some u → w.ownsRow B e 1 u (L k + 70) (marks mk k (L k + 70)) ∧ ∀ j v, n ≤ j → R[j]? = some v → Apart v u
/-- Within a row of the second phase. -/
structure In (bv : Value) (n t : Nat) (l one more : Value) (Us Vs : List Value) (w : World) : Prop where
  lu : Us.length = n + min t 1
  lv : Vs.length = n
  hbag : w.ownsRow B se 1 bv R.length R
  hone : w.ownsRow W se 1 one Us.length Us
  hmore : w.ownsRow W se 1 more n Vs
  om : Apart one more
  ob : Apart one bv
  mb : Apart more bv
  own : w.ownsRow B e 1 l (L n + t) (marks mk n (L n + t))
  row : ∀ j v, R[j]? = some v → w.ownsRow B e 1 v (L j) (marks mk j (L j))
  us : ∀ k u, Us[k]? = some u → w.ownsRow B e 1 u (L k + 1) (marks mk k (L k + 1)) ∧ ∀ j v, n < j → R[j]? = some v → Apart v u
  vs : ∀ k u, Vs[k]? = some u → w.ownsRow B e 1 u (L k + 70) (marks mk k (L k + 70)) ∧ ∀ j v, n < j → R[j]? = some v → Apart v u
  lrow : ∀ (j : Nat) (v : Value), j ≠ n → R[j]? = some v → Apart l v
  lus : ∀ (k : Nat) (u : Value), k < n → Us[k]? = some u → Apart l u
  lvs : ∀ (k : Nat) (u : Value), Vs[k]? = some u → Apart l u
end
section
variable {e se : TypeId} {B W : Nat} {R : List Value} {L : Nat → Nat} {mk : Nat → Nat → Value} {bv l l' one one' more more' v : Value} {n k t g c : Nat} {Us Vs xs : List Value} {w w' : World}
theorem Ph1.start (h : ∀ n v, R[n]? = some v → ∃ xs, w.ownsRow B e 1 v (L n) xs) : Ph1 e B R L mk 0 0 w := by
  intro j v hv
  obtain ⟨xs, hx⟩ := h j v hv
  exact ⟨xs, hx, fun h => by omega, fun _ => rfl⟩
theorem Ph1.zero (h : Ph1 e B R L mk n k w) : Ph1 e B R L mk n 0 w := by
  intro j v hv
  obtain ⟨xs, hx, h1, _⟩ := h j v hv
  exact ⟨xs, hx, h1, fun _ => rfl⟩
theorem Ph1.next (h : Ph1 e B R L mk n (L n) w) : Ph1 e B R L mk (n + 1) 0 w := by
  intro j v hv
  obtain ⟨xs, hx, h1, h2⟩ := h j v hv
  refine ⟨xs, hx, fun hj => ?_, fun _ => rfl⟩
  by_cases hjn : j = n
  · subst hjn
    have := h2 rfl
    rw [List.take_of_length_le (by have := hx.1; omega)] at this
    exact this
  · exact h1 (by omega)
theorem Ph1.set (h : Ph1 e B R L mk n k w) (hA : ∀ (i j : Nat) (u v : Value), i ≠ j → R[i]? = some u → R[j]? = some v → Apart u v) (hv : R[n]? = some (.slice (some ⟨g, 0, none⟩) (L n) c)) (hk : k < L n) :
    Ph1 e B R L mk n (k + 1) (w.setCell ⟨g, k, none⟩ (mk n k)) := by
  intro j u hu
  obtain ⟨xs, hx, h1, h2⟩ := h j u hu
  by_cases hjn : j = n
  · subst hjn
    rw [hv] at hu
    injection hu with hu
    subst hu
    refine ⟨_, own_setv hx k (mk j k), fun h => by omega, fun _ => ?_⟩
    have hl : k < xs.length := by have := hx.1; omega
    rw [List.take_add_one, List.getElem?_set_self hl, List.take_set, List.set_eq_of_length_le (by rw [List.length_take]; exact Nat.min_le_left _ _), h2 rfl, marks_succ]
    rfl
  · refine ⟨xs, own_apart_keep hx ((Keep.refl g w).setCell k _) (fun he => ?_), h1, fun h => absurd h hjn⟩
    exact hA n j _ _ (fun h => hjn h.symm) hv hu g rfl he
theorem Ph1.cell (h : Ph1 e B R L mk n k w) (hv : R[n]? = some v) (hk : k < L n) : ∃ g c x, v = .slice (some ⟨g, 0, none⟩) (L n) c ∧ B ≤ g ∧ w.cell? ⟨g, k, none⟩ = some x ∧ w.frozen? ⟨g, k, none⟩ = false ∧ ∃ xs, w.ownsRow B e 1 v (L n) xs := by
  obtain ⟨xs, hx, _⟩ := h n v hv
  have hx' := hx
  obtain ⟨g, c, rfl, hb, _, _, hl, _⟩ := own_read hx (by omega)
  have := own_get hx (i := k) (v := xs[k]'(by omega)) (List.getElem?_eq_getElem (by omega))
  exact ⟨g, c, _, rfl, hb, this.1, this.2, xs, hx'⟩
theorem Ph1.form (h : Ph1 e B R L mk n k w) (hv : R[n]? = some v) : ∃ A c, v = .slice A (L n) c := by
  obtain ⟨xs, hx, _⟩ := h n v hv
  obtain ⟨A, c, rfl, _⟩ := own_form hx
  exact ⟨A, c, rfl⟩
theorem Ph2.start (h : Ph1 e B R L mk R.length 0 w) (hb : w.ownsRow B se 1 bv R.length R) : Ph2 e se B W R L mk bv 0 (.slice none 0 0) (.slice none 0 0) [] [] w where
  lu := rfl
  lv := rfl
  hbag := hb
  hone := World.ownsRow_nil _ _ _ _
  hmore := World.ownsRow_nil _ _ _ _
  om := fun k hk => by cases hk
  ob := fun k hk => by cases hk
  mb := fun k hk => by cases hk
  row := fun j v hv => by
    obtain ⟨xs, hx, h1, _⟩ := h j v hv
    rw [← h1 (List.getElem?_eq_some_iff.1 hv).1]
    exact hx
  us := fun k u hu => by simp at hu
  vs := fun k u hu => by simp at hu
theorem In.start (h : Ph2 e se B W R L mk bv n one more Us Vs w) (hA : ∀ (i j : Nat) (u v : Value), i ≠ j → R[i]? = some u → R[j]? = some v → Apart u v) (hv : R[n]? = some v) : In e se B W R L mk bv n 0 v one more Us Vs w where
  lu := h.lu
  lv := h.lv
  hbag := h.hbag
  hone := by rw [h.lu]; exact h.hone
  hmore := h.hmore
  om := h.om
  ob := h.ob
  mb := h.mb
  own := h.row n v hv
  row := h.row
  us := fun k u hu => ⟨(h.us k u hu).1, fun j v hj => (h.us k u hu).2 j v (by omega)⟩
  vs := fun k u hu => ⟨(h.vs k u hu).1, fun j v hj => (h.vs k u hu).2 j v (by omega)⟩
  lrow := fun j u hj hu => hA n j v u (fun h => hj h.symm) hv hu
  lus := fun k u _ hu => (h.us k u hu).2 n v (Nat.le_refl _) hv
  lvs := fun k u hu => (h.vs k u hu).2 n v (Nat.le_refl _) hv
/-- One more mark. -/
theorem In.push (hne : e ≠ se) (h : In e se B W R L mk bv n t l one more Us Vs w) (ht : t = 0 → Us.length = n) (hA : ∀ (i j : Nat) (u v : Value), i ≠ j → R[i]? = some u → R[j]? = some v → Apart u v) (G : Grew B e w w' l l' (L n + t) (marks mk n (L n + t)) (mk n (L n + t))) (ht1 : 0 < t) :
    In e se B W R L mk bv n (t + 1) l' one more Us Vs w' where
  lu := by have := h.lu; omega
  lv := h.lv
  hbag := own_other h.hbag G.grown (own_apart_type h.own h.hbag hne)
  hone := own_other h.hone G.grown (own_apart_type h.own h.hone hne)
  hmore := own_other h.hmore G.grown (own_apart_type h.own h.hmore hne)
  om := h.om
  ob := h.ob
  mb := h.mb
  own := by rw [← Nat.add_assoc, marks_succ]; exact G.own
  row := fun j u hu => G.hold u _ _ _ (h.row j u hu) fun k hk hl => by
    by_cases hj : j = n
    · subst hj
      exact ⟨by omega, by rw [marks_take (by omega)]⟩
    · exact absurd hk (h.lrow j u hj hu k hl)
  us := fun k u hu => ⟨G.hold u _ _ _ (h.us k u hu).1 fun i hi hl => by
    by_cases hk : k < n
    · exact absurd hi (h.lus k u hk hu i hl)
    · have := (List.getElem?_eq_some_iff.1 hu).1
      have := h.lu
      obtain rfl : k = n := by omega
      exact ⟨by omega, by rw [marks_take (by omega)]⟩, (h.us k u hu).2⟩
  vs := fun k u hu => ⟨G.hold u _ _ _ (h.vs k u hu).1 fun i hi hl => absurd hi (h.lvs k u hu i hl), (h.vs k u hu).2⟩
  lrow := fun j u hj hu => (h.lrow j u hj hu).grow' (h.row j u hu) G.at_
  lus := fun k u hk hu => (h.lus k u hk hu).grow' (h.us k u hu).1 G.at_
  lvs := fun k u hu => (h.lvs k u hu).grow' (h.vs k u hu).1 G.at_
/-- The first mark, and the row as it is then, kept. -/
theorem In.first (hne : e ≠ se) (h : In e se B W R L mk bv n 0 l one more Us Vs w) (G : Grew B e w w' l l' (L n + 0) (marks mk n (L n + 0)) (mk n (L n + 0))) {w2 : World} (G2 : Grew W se w' w2 one one' n Us l') (hbW : B ≤ W) :
    In e se B W R L mk bv n 1 l' one' more (Us ++ [l']) Vs w2 := by
  have hlu : Us.length = n := h.lu
  have hbag := own_other h.hbag G.grown (own_apart_type h.own h.hbag hne)
  have hone := own_other h.hone G.grown (own_apart_type h.own h.hone hne)
  have hmore := own_other h.hmore G.grown (own_apart_type h.own h.hmore hne)
  have hrow : ∀ j u, R[j]? = some u → w'.ownsRow B e 1 u (L j) (marks mk j (L j)) := fun j u hu => G.hold u _ _ _ (h.row j u hu) fun k hk hl => by
    by_cases hj : j = n
    · subst hj
      exact ⟨by omega, by rw [marks_take (by omega)]⟩
    · exact absurd hk (h.lrow j u hj hu k hl)
  have hlt : ∀ k u, Us[k]? = some u → k < n := fun k u hu => by have := (List.getElem?_eq_some_iff.1 hu).1; omega
  have hus : ∀ k u, Us[k]? = some u → w'.ownsRow B e 1 u (L k + 1) (marks mk k (L k + 1)) := fun k u hu => G.hold u _ _ _ (h.us k u hu).1 fun i hi hl => absurd hi (h.lus k u (hlt k u hu) hu i hl)
  have hvs : ∀ k u, Vs[k]? = some u → w'.ownsRow B e 1 u (L k + 70) (marks mk k (L k + 70)) := fun k u hu => G.hold u _ _ _ (h.vs k u hu).1 fun i hi hl => absurd hi (h.lvs k u hu i hl)
  have hl' : w'.ownsRow B e 1 l' (L n + 1) (marks mk n (L n + 1)) := by rw [marks_succ]; exact G.own
  have hst : ∀ {X m ys}, w'.ownsRow B e 1 X m ys → w2.ownsRow B e 1 X m ys := fun hX => own_other hX G2.grown (own_apart_type hone hX (fun h => hne h.symm))
  have hnth : ∀ k u, (Us ++ [l'])[k]? = some u → (k < n ∧ Us[k]? = some u) ∨ (k = n ∧ u = l') := fun k u hu => by
    by_cases hk : k < n
    · exact .inl ⟨hk, by rwa [List.getElem?_append_left (by omega)] at hu⟩
    · have hk2 := (List.getElem?_eq_some_iff.1 hu).1
      rw [List.length_append, List.length_singleton] at hk2
      obtain rfl : k = n := by omega
      rw [List.getElem?_append_right (by omega), hlu, Nat.sub_self] at hu
      simp at hu
      exact .inr ⟨rfl, hu.symm⟩
  exact
    { lu := by rw [List.length_append, hlu]; rfl
      lv := h.lv
      hbag := G2.hold _ _ _ _ hbag fun k hk hl => absurd hk (h.ob k hl)
      hone := by rw [List.length_append, hlu]; exact G2.own
      hmore := G2.hold _ _ _ _ hmore fun k hk hl => absurd hk (h.om k hl)
      om := h.om.grow' hmore G2.at_
      ob := h.ob.grow' hbag G2.at_
      mb := h.mb
      own := hst hl'
      row := fun j u hu => hst (hrow j u hu)
      us := fun k u hu => by
        rcases hnth k u hu with ⟨hk, hu⟩ | ⟨rfl, rfl⟩
        · exact ⟨hst (hus k u hu), (h.us k u hu).2⟩
        · exact ⟨hst hl', fun j v hj hv => ((h.lrow j v (by omega) hv).grow' (h.row j v hv) G.at_).symm⟩
      vs := fun k u hu => ⟨hst (hvs k u hu), (h.vs k u hu).2⟩
      lrow := fun j u hj hu => (h.lrow j u hj hu).grow' (h.row j u hu) G.at_
      lus := fun k u hk hu => by
        rcases hnth k u hu with ⟨hk, hu⟩ | ⟨rfl, _⟩
        · exact (h.lus k u hk hu).grow' (h.us k u hu).1 G.at_
        · omega
      lvs := fun k u hu => (h.lvs k u hu).grow' (h.vs k u hu).1 G.at_ }
/-- The row is full: on to the next. -/
theorem In.done (hne : e ≠ se) (h : In e se B W R L mk bv n 70 l one more Us Vs w) (G : Grew W se w w' more more' n Vs l) :
    Ph2 e se B W R L mk bv (n + 1) one more' Us (Vs ++ [l]) w' := by
  have hst : ∀ {X m ys}, w.ownsRow B e 1 X m ys → w'.ownsRow B e 1 X m ys := fun hX => own_other hX G.grown (own_apart_type h.hmore hX (fun h => hne h.symm))
  have hlu : Us.length = n + 1 := h.lu
  exact
    { lu := hlu
      lv := by rw [List.length_append, h.lv]; rfl
      hbag := G.hold _ _ _ _ h.hbag fun k hk hl => absurd hk (h.mb k hl)
      hone := by
        have := G.hold _ _ _ _ h.hone fun k hk hl => absurd hl (h.om k hk)
        rw [hlu] at this
        exact this
      hmore := G.own
      om := (h.om.symm.grow' h.hone G.at_).symm
      ob := h.ob
      mb := h.mb.grow' h.hbag G.at_
      row := fun j u hu => hst (h.row j u hu)
      us := fun k u hu => ⟨hst (h.us k u hu).1, fun j v hj => (h.us k u hu).2 j v (by omega)⟩
      vs := fun k u hu => by
        by_cases hk : k < n
        · rw [List.getElem?_append_left (by rw [h.lv]; exact hk)] at hu
          exact ⟨hst (h.vs k u hu).1, fun j v hj => (h.vs k u hu).2 j v (by omega)⟩
        · have hk2 := (List.getElem?_eq_some_iff.1 hu).1
          rw [List.length_append, List.length_singleton, h.lv] at hk2
          obtain rfl : k = n := by omega
          rw [List.getElem?_append_right (by rw [h.lv]; omega), h.lv, Nat.sub_self] at hu
          simp at hu
          subst hu
          exact ⟨hst h.own, fun j v hj hv => (h.lrow j v (by omega) hv).symm⟩ }
end
end Culp.Bag

/- A bag of lists while it is filled. No program in sight. -/
namespace Culp.Bag
set_option linter.unusedSimpArgs false
set_option linter.unusedVariables false
open Go Go.RowKit

/-- A bag's cells: lists of lists; one kind of them may hold some. -/
def BagAt (t : TypeId) (N K g : Nat) (bv : Value) (w : World) : Prop :=
  ∃ cs : Array Value, w.heap[g]? = some (.cells cs t (0, 0)) ∧ cs.size = N ∧ cs[K]? = some bv ∧ ∀ j, j < N → j ≠ K → cs[j]? = some (.slice none 0 0)
section
variable {t : TypeId} {N K g B : Nat} {bv bv' : Value} {w w' : World}
theorem BagAt.cell (h : BagAt t N K g bv w) : w.cell? ⟨g, K, none⟩ = some bv := by
  obtain ⟨cs, h1, h2, h3, _⟩ := h
  simp [World.cell?, h1, h3]
theorem BagAt.empty (h : BagAt t N K g bv w) {j : Nat} (hj : j < N) (hn : j ≠ K) : w.cell? ⟨g, j, none⟩ = some (.slice none 0 0) := by
  obtain ⟨cs, h1, h2, _, h3⟩ := h
  simp [World.cell?, h1, h3 j hj hn]
theorem BagAt.free (h : BagAt t N K g bv w) (j : Nat) : w.frozen? ⟨g, j, none⟩ = false := by
  obtain ⟨cs, h1, _⟩ := h
  simp [World.frozen?, h1]
theorem BagAt.lt (h : BagAt t N K g bv w) : g < w.heap.size := by
  obtain ⟨cs, h1, _⟩ := h
  exact (Array.getElem?_eq_some_iff.1 h1).1
theorem BagAt.below (h : BagAt t N K g bv w) (hb : Below B w w') (hg : g < B) : BagAt t N K g bv w' := by
  obtain ⟨cs, h1, h2⟩ := h
  exact ⟨cs, (hb.block g hg).trans h1, h2⟩
theorem BagAt.put (h : BagAt t N K g bv w) (bv' : Value) : BagAt t N K g bv' (w.setCell ⟨g, K, none⟩ bv') := by
  obtain ⟨cs, h1, h2, h3, h4⟩ := h
  have hK : K < cs.size := (Array.getElem?_eq_some_iff.1 h3).1
  refine ⟨cs.setIfInBounds K bv', by simp [World.setCell, Array.getElem?_modify, h1], by simpa using h2, ?_, fun j hj hn => ?_⟩
  · rw [Array.getElem?_setIfInBounds_self_of_lt hK]
  · rw [Array.getElem?_setIfInBounds_ne (fun he => hn he.symm)]
    exact h4 j hj hn
end
/-- A bag that holds rows that lie apart. -/
structure Full (t e se : TypeId) (N K g B : Nat) (R : List Value) (L : Nat → Nat) (bv : Value) (w : World) : Prop where
  at_ : BagAt t N K g bv w
  lt : g < B
  le : B ≤ w.heap.size
  bag : w.ownsRow B se 1 bv R.length R
  rows : ∀ n v, R[n]? = some v → ∃ xs, w.ownsRow B e 1 v (L n) xs
  apart : ∀ (i j : Nat) (u v : Value), i ≠ j → R[i]? = some u → R[j]? = some v → Apart u v
section
variable {t e se : TypeId} {N K g B : Nat} {R : List Value} {L : Nat → Nat} {bv bv' v : Value} {w w' : World} {xs : List Value}
theorem Full.start (h : BagAt t N K g (.slice none 0 0) w) (hg : g < B) (hB : B ≤ w.heap.size) : Full t e se N K g B [] L (.slice none 0 0) w where
  at_ := h
  lt := hg
  le := hB
  bag := World.ownsRow_nil _ _ _ _
  rows := fun n v hv => by simp at hv
  apart := fun i j u v _ hu => by simp at hu
theorem Full.later (h : Full t e se N K g B R L bv w) (hb : Below w.heap.size w w') : Full t e se N K g B R L bv w' where
  at_ := h.at_.below hb (by have := h.lt; have := h.le; omega)
  lt := h.lt
  le := Nat.le_trans h.le hb.size
  bag := own_later h.bag hb
  rows := fun n v hv => by
    obtain ⟨xs, hx⟩ := h.rows n v hv
    exact ⟨xs, own_later hx hb⟩
  apart := h.apart
theorem Full.add (h : Full t e se N K g B R L bv w) (hne : e ≠ se) (hv : w.ownsRow B e 1 v (L R.length) xs) (hA : ∀ u ∈ R, Apart v u)
    (ho : w'.ownsRow B se 1 bv' (R.length + 1) (R ++ [v])) (hg : w.grownBy w' bv.ownBlock) (hb : Below B w w') :
    Full t e se N K g B (R ++ [v]) L bv' (w'.setCell ⟨g, K, none⟩ bv') := by
  have hk : Keep g w' (w'.setCell ⟨g, K, none⟩ bv') := (Keep.refl g w').setCell K bv'
  have hst : ∀ {X : Value} {n : Nat} {ys : List Value}, w.ownsRow B e 1 X n ys → (w'.setCell ⟨g, K, none⟩ bv').ownsRow B e 1 X n ys := by
    intro X n ys hX
    have h1 := own_other hX hg (own_apart_type h.bag hX (fun he => hne he.symm))
    exact own_apart_keep h1 hk (fun he => by have := (h1.lt g he).1; have := h.lt; omega)
  refine
    { at_ := (h.at_.below hb h.lt).put bv'
      lt := h.lt
      le := by have := hb.size; have := hk.size; have := h.le; omega
      bag := by
        rw [List.length_append, List.length_singleton]
        exact own_apart_keep ho hk (fun he => by have := (ho.lt g he).1; have := h.lt; omega)
      rows := fun n u hu => ?_
      apart := fun i j u x hij hu hx => ?_ }
  · by_cases hn : n < R.length
    · rw [List.getElem?_append_left hn] at hu
      obtain ⟨ys, hy⟩ := h.rows n u hu
      exact ⟨ys, hst hy⟩
    · have hn2 := (List.getElem?_eq_some_iff.1 hu).1
      rw [List.length_append, List.length_singleton] at hn2
      obtain rfl : n = R.length := by omega
      rw [List.getElem?_append_right (Nat.le_refl _), Nat.sub_self] at hu
      simp at hu
      subst hu
      exact ⟨xs, hst hv⟩
  · have key : ∀ n y, (R ++ [v])[n]? = some y → (n < R.length ∧ R[n]? = some y) ∨ (n = R.length ∧ y = v) := by
      intro n y hy
      by_cases hn : n < R.length
      · rw [List.getElem?_append_left hn] at hy
        exact .inl ⟨hn, hy⟩
      · have hn2 := (List.getElem?_eq_some_iff.1 hy).1
        rw [List.length_append, List.length_singleton] at hn2
        obtain rfl : n = R.length := by omega
        rw [List.getElem?_append_right (Nat.le_refl _), Nat.sub_self] at hy
        simp at hy
        exact .inr ⟨rfl, hy.symm⟩
    rcases key i u hu with ⟨hi, hu'⟩ | ⟨rfl, rfl⟩
    · rcases key j x hx with ⟨hj, hx'⟩ | ⟨rfl, rfl⟩
      · exact h.apart i j u x hij hu' hx'
      · exact (hA u (List.mem_of_getElem? hu')).symm
    · rcases key j x hx with ⟨hj, hx'⟩ | ⟨rfl, rfl⟩
      · exact hA x (List.mem_of_getElem? hx')
      · exact absurd rfl hij
end
end Culp.Bag

/- Walks of bags: a text that marks a place; lists of texts lie apart. -/
namespace Culp.Bag
set_option linter.unusedSimpArgs false
set_option linter.unusedVariables false
open Go Go.RowKit
section
variable {e se : TypeId} {B W : Nat} {R : List Value} {L : Nat → Nat} {mk : Nat → Nat → Value} {bv l one more v : Value} {n k t g c : Nat} {Us Vs xs : List Value} {w w' : World}
theorem Ph1.later (h : Ph1 e B R L mk n k w) (hb : Below w.heap.size w w') : Ph1 e B R L mk n k w' := fun j v hv => by
  obtain ⟨xs, hx, h1⟩ := h j v hv
  exact ⟨xs, own_later hx hb, h1⟩
theorem Ph2.later (h : Ph2 e se B W R L mk bv n one more Us Vs w) (hb : Below w.heap.size w w') : Ph2 e se B W R L mk bv n one more Us Vs w' :=
  { h with
    hbag := own_later h.hbag hb
    hone := own_later h.hone hb
    hmore := own_later h.hmore hb
    row := fun j v hv => own_later (h.row j v hv) hb
    us := fun k u hu => ⟨own_later (h.us k u hu).1 hb, (h.us k u hu).2⟩
    vs := fun k u hu => ⟨own_later (h.vs k u hu).1 hb, (h.vs k u hu).2⟩ }
theorem In.later (h : In e se B W R L mk bv n t l one more Us Vs w) (hb : Below w.heap.size w w') : In e se B W R L mk bv n t l one more Us Vs w' :=
  { h with
    hbag := own_later h.hbag hb
    hone := own_later h.hone hb
    hmore := own_later h.hmore hb
    own := own_later h.own hb
    row := fun j v hv => own_later (h.row j v hv) hb
    us := fun k u hu => ⟨own_later (h.us k u hu).1 hb, (h.us k u hu).2⟩
    vs := fun k u hu => ⟨own_later (h.vs k u hu).1 hb, (h.vs k u hu).2⟩ }
end
end Culp.Bag
namespace Go.Proofs.YtidholghbjljaaaGreatDoor
set_option linter.unusedSimpArgs false
set_option linter.unusedVariables false
open Go.RowKit Go.Maps Culp

/-- The library's table of powers of ten. -/
def Pw (w : World) : Prop := Lib.TabIs Tryz.prog w "internal/strconv.uint64pow10" .u64 Lib.pow10Tab
theorem Pw.later {w w' : World} (h : Pw w) {B : Nat} (hb : Below B w w') (hB : 1 < B) : Pw w' := by
  unfold Pw Lib.TabIs World.var? at h ⊢
  have hg : Tryz.prog.globalNamed "internal/strconv.uint64pow10" = some 1 := by kernel_rfl
  rw [hg] at h ⊢
  simp only [Option.bind_some] at h ⊢
  rw [hb.block _ hB]
  exact h
theorem Pw.lt {w : World} (h : Pw w) : 1 < w.heap.size := by
  unfold Pw Lib.TabIs World.var? at h
  have hg : Tryz.prog.globalNamed "internal/strconv.uint64pow10" = some 1 := by kernel_rfl
  rw [hg] at h
  simp only [Option.bind_some] at h
  rcases Nat.lt_or_ge 1 w.heap.size with h1 | h1
  · exact h1
  · rw [Array.getElem?_eq_none h1] at h; cases h
/-- The text that marks a place of a list. -/
def txt (n i : Nat) : ByteArray := (⟨#[33]⟩ : ByteArray) ++ ⟨(Lib.itoa ((1048576 * n + i + 1 : Nat) : Int)).toArray⟩
def mkT (n i : Nat) : Value := .string (txt n i)
set_option maxHeartbeats 800000 in
theorem text_any (n i : Nat) (hn : n ≤ 1000) (hi : i ≤ 1000000000000) (w : World) (hP : Pw w) : Calls Tryz.prog 36 #[.int .i64 n, .int .i64 i] w (Makes (mkT n i) w) := by
  have HP := Lib.hid hP
  have hl := Lib.itoa_length_le ((1048576 * n + i + 1 : Nat) : Int) (by omega) (by omega)
  have ecast : ((1048576 * n + i + 1 : Nat) : Int) = 1048576 * (n : Int) + (i : Int) + 1 := by omega
  have HCA := Lib.hid ecast
  rw [ecast] at hl
  have hl2 : ¬ 9223372036854775807 < 1 + (Lib.itoa (1048576 * (n : Int) + (i : Int) + 1)).length := by omega
  clear hP hl ecast
  go_enter Tryz.func36, Tryz.ntmps36
  go_wp2_with fail
  refine (num_any n i hn hi _).mono ?_
  rintro e w1 ⟨rfl, rfl⟩
  go_wp2_with fail
  refine (Tryz.strconv_Itoa ((1048576 * n + i + 1 : Nat) : Int) (by omega) (by omega) w HP.out).mono ?_
  rintro e w2 ⟨rfl, k, os, rfl⟩
  have HB : Hid (Below w.heap.size w (Go.Sort.grow (w.drewN k) os)) := Lib.hid (Lib.below_grow _ w (Nat.le_refl _) k os)
  generalize Go.Sort.grow (w.drewN k) os = w3 at *
  go_wp2_with fail
  go_ret
  exact Makes.mk (by unfold mkT txt; rw [HCA.out]; rfl) HB.out
/-- The bag's own block. -/
def BagIs (gb : Nat) (cs : Array Value) (w : World) : Prop := w.heap[gb]? = some (.cells cs 63 (0, 0))
section
variable {gb : Nat} {cs : Array Value} {w w' : World}
theorem BagIs.lt (h : BagIs gb cs w) : gb < w.heap.size := (Array.getElem?_eq_some_iff.1 h).1
theorem BagIs.later (h : BagIs gb cs w) (hb : Below w.heap.size w w') : BagIs gb cs w' := (hb.block gb h.lt).trans h
theorem BagIs.cell {j : Nat} {v : Value} (h : BagIs gb cs w) (hv : cs[j]? = some v) : w.cell? ⟨gb, j, none⟩ = some v := by
  unfold BagIs at h
  simp [World.cell?, h, hv]
theorem BagIs.ne {B n size : Nat} {e : TypeId} {v : Value} {xs : List Value} (h : BagIs gb cs w) (ho : w.ownsRow B e size v n xs) (he : e ≠ 63) : v.ownBlock ≠ some gb := own_ne ho fun cur hc => by
  unfold BagIs at h
  rw [h] at hc
  simp only [Option.some.injEq, Obj.cells.injEq] at hc
  exact he hc.2.1.symm
theorem BagIs.grown {o : Option Nat} (h : BagIs gb cs w) (hg : w.grownBy w' o) (ho : o ≠ some gb) : BagIs gb cs w' := (hg.block gb h.lt (fun e => ho e.symm)).trans h
theorem BagIs.set {g : Nat} (h : BagIs gb cs w) (hne : g ≠ gb) (i : Nat) (u : Value) : BagIs gb cs (w.setCell ⟨g, i, none⟩ u) := (((Keep.refl g w).setCell i u).block gb h.lt (fun e => hne e.symm)).trans h
end
end Go.Proofs.YtidholghbjljaaaGreatDoor


/- Walks of what statements lean on: lists of nodes that are made. -/
import Derived.Test.YtdobaililmkkcaaGreatDoorHlpA
import Derived.Test.YtdobaililmkkcaaGreatDoorFq
import Derived.Test.YtdobaililmkkcaaGreatDoorTxV
import Derived.Test.YtdobaililmkkcaaGreatDoorShelfI
import Derived.Test.YtdobaililmkkcaaGreatDoorTrR
import Derived.Lib.ItoaLen
import Derived.Lib.AppendIntMem
import Derived.Test.YtdobaililmkkcaaGreatDoorLb
import Derived.Test.YtdobaililmkkcaaGreatDoorMi
namespace Go.Proofs.YtdobaililmkkcaaGreatDoor
set_option linter.unusedSimpArgs false
set_option linter.unusedVariables false
open Go.RowKit Culp

/-- A row of nodes that is being filled. -/
def RowAt (R N : Nat) (w : World) : Prop := ∃ cs : Array Value, w.heap[R]? = some (.cells cs 64 (0, 0)) ∧ cs.size = N * 8
theorem RowAt.cell {R N : Nat} {w : World} (h : RowAt R N w) {i : Nat} (hi : i < N * 8) : ∃ v, w.cell? ⟨R, i, none⟩ = some v := by
  obtain ⟨cs, h1, h2⟩ := h
  exact ⟨cs[i]'(by omega), by simp [World.cell?, h1, show i < cs.size by omega]⟩
theorem RowAt.free {R N : Nat} {w : World} (h : RowAt R N w) (i : Nat) : w.frozen? ⟨R, i, none⟩ = false := by
  obtain ⟨cs, h1, _⟩ := h
  simp [World.frozen?, h1]

theorem RowAt.set {R N : Nat} {w : World} (h : RowAt R N w) (i : Nat) (u : Value) : RowAt R N (w.setCell ⟨R, i, none⟩ u) := by
  obtain ⟨cs, h1, h2⟩ := h
  exact ⟨cs.setIfInBounds i u, by simp [World.setCell, Array.getElem?_modify, h1], by simpa using h2⟩
/-- A node is laid. -/
def putNode (w : World) (R k : Nat) (x : Nd) : World :=
  ((((((((w.setCell ⟨R, k * 8, none⟩ (.int .i8 x.kind)).setCell ⟨R, k * 8 + 1, none⟩ (.int .i64 x.kids)).setCell ⟨R, k * 8 + 2, none⟩ (.int .i64 x.n)).setCell ⟨R, k * 8 + 3, none⟩ (.string x.s)).setCell ⟨R, k * 8 + 4, none⟩ (.string x.t)).setCell ⟨R, k * 8 + 5, none⟩ (.string x.u)).setCell ⟨R, k * 8 + 6, none⟩ (.int .i64 x.line)).setCell ⟨R, k * 8 + 7, none⟩ (.int .i64 x.col))
theorem RowAt.put {R N : Nat} {w : World} (h : RowAt R N w) (k : Nat) (x : Nd) : RowAt R N (putNode w R k x) :=
  (((((((h.set _ _).set _ _).set _ _).set _ _).set _ _).set _ _).set _ _).set _ _
theorem set_other {w : World} {R i j : Nat} {u v : Value} (h : w.cell? ⟨R, i, none⟩ = some v) (hij : i ≠ j) : (w.setCell ⟨R, j, none⟩ u).cell? ⟨R, i, none⟩ = some v := by
  rw [World.cell?_setCell_other]
  · exact h
  all_goals simp [hij]
theorem put_old {w : World} {R k i : Nat} {x : Nd} {v : Value} (h : w.cell? ⟨R, i, none⟩ = some v) (hi : i < k * 8) : (putNode w R k x).cell? ⟨R, i, none⟩ = some v := by
  unfold putNode
  exact set_other (set_other (set_other (set_other (set_other (set_other (set_other (set_other h (by omega)) (by omega)) (by omega)) (by omega)) (by omega)) (by omega)) (by omega)) (by omega)
theorem RowAt.same {R N : Nat} {w : World} (h : RowAt R N w) {i : Nat} (hi : i < N * 8) (u : Value) : (w.setCell ⟨R, i, none⟩ u).cell? ⟨R, i, none⟩ = some u := by
  obtain ⟨v, hv⟩ := h.cell hi
  exact World.cell?_setCell_same _ _ _ hv
theorem put_new {w : World} {R N k : Nat} {x : Nd} (h : RowAt R N w) (hk : k < N) : ∀ j u, x.cells[j]? = some u → (putNode w R k x).cell? ⟨R, k * 8 + j, none⟩ = some u := by
  intro j u hu
  unfold putNode
  have s0 := h.set (k * 8) (.int .i8 x.kind)
  have s1 := s0.set (k * 8 + 1) (.int .i64 x.kids)
  have s2 := s1.set (k * 8 + 2) (.int .i64 x.n)
  have s3 := s2.set (k * 8 + 3) (.string x.s)
  have s4 := s3.set (k * 8 + 4) (.string x.t)
  have s5 := s4.set (k * 8 + 5) (.string x.u)
  have s6 := s5.set (k * 8 + 6) (.int .i64 x.line)
  match j, hu with
  | 0, hu => cases hu; exact set_other (set_other (set_other (set_other (set_other (set_other (set_other (h.same (by omega) _) (by omega)) (by omega)) (by omega)) (by omega)) (by omega)) (by omega)) (by omega)
  | 1, hu => cases hu; exact set_other (set_other (set_other (set_other (set_other (set_other (s0.same (by omega) _) (by omega)) (by omega)) (by omega)) (by omega)) (by omega)) (by omega)
  | 2, hu => cases hu; exact set_other (set_other (set_other (set_other (set_other (s1.same (by omega) _) (by omega)) (by omega)) (by omega)) (by omega)) (by omega)
  | 3, hu => cases hu; exact set_other (set_other (set_other (set_other (s2.same (by omega) _) (by omega)) (by omega)) (by omega)) (by omega)
  | 4, hu => cases hu; exact set_other (set_other (set_other (s3.same (by omega) _) (by omega)) (by omega)) (by omega)
  | 5, hu => cases hu; exact set_other (set_other (s4.same (by omega) _) (by omega)) (by omega)
  | 6, hu => cases hu; exact set_other (s5.same (by omega) _) (by omega)
  | 7, hu => cases hu; exact s6.same (by omega) _
  | j + 8, hu => simp [Nd.cells] at hu
theorem NodesAt.put {w : World} {R N k : Nat} {x : Nd} {L : List Nd} (hr : RowAt R N w) (hk : k < N) (h : NodesAt w R 0 (L.take k)) (hx : L[k]? = some x) : NodesAt (putNode w R k x) R 0 (L.take (k + 1)) := by
  intro i y hy j u hu
  rw [Nat.zero_add]
  have hj : j < 8 := by have := (List.getElem?_eq_some_iff.1 hu).1; simpa [Nd.cells] using this
  rw [List.getElem?_take] at hy
  split at hy
  · rename_i hik
    rcases Nat.lt_or_ge i k with hlt | hge
    · have hy' : (L.take k)[i]? = some y := by rw [List.getElem?_take, if_pos hlt]; exact hy
      have := h i y hy' j u hu
      rw [Nat.zero_add] at this
      exact put_old this (by omega)
    · obtain rfl : i = k := by omega
      rw [hx] at hy
      cases hy
      exact put_new hr hk j u hu
  · cases hy
theorem below_put {B R k : Nat} {W w : World} {x : Nd} (h : Below B W w) (hR : B ≤ R) : Below B W (putNode w R k x) :=
  (((((((h.setCell hR _).setCell hR _).setCell hR _).setCell hR _).setCell hR _).setCell hR _).setCell hR _).setCell hR _

set_option maxRecDepth 100000 in
set_option maxHeartbeats 3200000 in
theorem WideNodes_any (T : List Nd) (tv : Value) (w : World) (hn : Nodes w tv T) (hT : T.length ≤ 100000000000) : Calls Tryz.prog 13 #[tv] w (WideRes T w) := by
  have HN := Lib.hid hn
  obtain ⟨A, c, rfl, hlc, hN⟩ := hn
  obtain ⟨i0, hi, hz0, hz1, hz2⟩ := info_parts node_info
  clear hN
  go_enter Tryz.func13, Tryz.ntmps13
  go_wp2_with (refine wpList_make_full _ rfl (.tmp 7) (.tmp 7) 22 rfl w.heap.size 64 i0 _ 8 Tryz.underlying22 hi hz0 hz1 .i64 .i64 ((T.length : Int) + 64) ((T.length : Int) + 64) (T.length + 64) rfl rfl (by omega) (by omega) (by rw [hz2]; omega) (by unfold maxLen; omega) (Nat.le_refl _) ?_)
  intro w1 hown hgr
  have hrow : RowAt w.heap.size (T.length + 64) w1 := by
    rcases hown.2 with ⟨h1, _⟩ | ⟨g, cap, cur, h1, _, h2, _, _, h3, _⟩
    · cases h1
    · simp only [Value.slice.injEq, Option.some.injEq, Addr.mk.injEq] at h1
      obtain ⟨⟨rfl, _⟩, _, rfl⟩ := h1
      exact ⟨cur, h2, by omega⟩
  have hb1 : Below w.heap.size w w1 := (Below.refl _ _).grown hgr (Nat.le_refl _) fun k hk => by cases hk
  have HR := Lib.hid hrow
  have HB := Lib.hid hb1
  clear hown hgr hrow hb1
  go_wp2_with fail
  go_loopw [4] (fun i wr => ∃ k : Nat, k ≤ T.length + 64 ∧ i = .int .i64 k ∧ Hid (RowAt w.heap.size (T.length + 64) wr) ∧ Hid (NodesAt wr w.heap.size 0 ((T ++ marks T.length).take k)) ∧ Hid (Below w.heap.size w wr)) (fun i _ => T.length + 64 - (intOf i).toNat)
  case atStart => exact ⟨0, by omega, rfl, HR, Lib.hid (by intro i x hx; simp at hx), HB⟩
  case round =>
    obtain ⟨k, hk, rfl, HRr, HNr, HBr⟩ := hrel
    by_cases hlt : k < T.length + 64
    · obtain ⟨v0, r0⟩ := HRr.out.cell (i := k * 8) (by omega)
      obtain ⟨v1, r1⟩ := HRr.out.cell (i := k * 8 + 1) (by omega)
      obtain ⟨v2, r2⟩ := HRr.out.cell (i := k * 8 + 2) (by omega)
      obtain ⟨v3, r3⟩ := HRr.out.cell (i := k * 8 + 3) (by omega)
      obtain ⟨v4, r4⟩ := HRr.out.cell (i := k * 8 + 4) (by omega)
      obtain ⟨v5, r5⟩ := HRr.out.cell (i := k * 8 + 5) (by omega)
      obtain ⟨v6, r6⟩ := HRr.out.cell (i := k * 8 + 6) (by omega)
      obtain ⟨v7, r7⟩ := HRr.out.cell (i := k * 8 + 7) (by omega)
      have f0 := HRr.out.free (k * 8)
      have f1 := HRr.out.free (k * 8 + 1)
      have f2 := HRr.out.free (k * 8 + 2)
      have f3 := HRr.out.free (k * 8 + 3)
      have f4 := HRr.out.free (k * 8 + 4)
      have f5 := HRr.out.free (k * 8 + 5)
      have f6 := HRr.out.free (k * 8 + 6)
      have f7 := HRr.out.free (k * 8 + 7)
      by_cases hkT : k < T.length
      · obtain ⟨A2, c2, e2, _, hN⟩ := (HN.out.later HBr.out)
        simp only [Value.slice.injEq] at e2
        obtain ⟨rfl, _, rfl⟩ := e2
        obtain ⟨b, off, rfl, hM⟩ := hN (by omega)
        have hx : T[k]? = some T[k] := List.getElem?_eq_getElem hkT
        have hx2 := Lib.hid hx
        obtain ⟨n0, n1, n2, n3, n4, n5, n6, n7⟩ := hM.at_ hx
        generalize T[k] = x at *
        clear hx hN hM
        have HR2 := Lib.hid (HRr.out.put k x)
        have HN2 := Lib.hid (NodesAt.put HRr.out hlt HNr.out (x := x) (by rw [List.getElem?_append_left hkT]; exact hx2.out))
        have HB2 := Lib.hid (below_put (k := k) (x := x) HBr.out (Nat.le_refl _))
        go_wp2_with fail
        exact ⟨⟨k + 1, by omega, by go_num, HR2, HN2, HB2⟩, by simp [intOf]; omega⟩
      · have hx := marks_at (T := T) (i := k) (by omega) hlt
        have HR2 := Lib.hid (HRr.out.put k (markN k))
        have HN2 := Lib.hid (NodesAt.put HRr.out hlt HNr.out hx)
        have HB2 := Lib.hid (below_put (k := k) (x := markN k) HBr.out (Nat.le_refl _))
        have hk6 : k ≤ 1000000000000 := by omega
        clear hx
        go_wp2_with fail
        refine (hnum_any k hk6 _).mono ?_
        rintro e w' ⟨rfl, rfl⟩
        go_wp2_with fail
        exact ⟨⟨k + 1, by omega, by go_num, HR2, HN2, HB2⟩, by simp [intOf]; omega⟩
    · obtain rfl : k = T.length + 64 := by omega
      have HN2 : Hid (NodesAt wr w.heap.size 0 (T ++ marks T.length)) := by
        have := HNr.out
        rw [List.take_of_length_le (by simp [marks])] at this
        exact this
      go_wp2_with fail
      go_ret
      exact ⟨_, rfl, HN2.out, HBr.out⟩
end Go.Proofs.YtdobaililmkkcaaGreatDoor

/- Walks of bags: kinds of which nothing was gathered. -/
namespace Go.Proofs.YtdobaililmkkcaaGreatDoor
set_option linter.unusedSimpArgs false
set_option linter.unusedVariables false
open Go.RowKit Go.Maps Culp

set_option maxHeartbeats 400000 in
theorem num_any (n i : Nat) (hn : n ≤ 1000) (hi : i ≤ 1000000000000) (w : World) : Calls Tryz.prog 29 #[.int .i64 n, .int .i64 i] w (Gives (.int .i64 ((1048576 * n + i + 1 : Nat) : Int)) w) := by
  go_enter Tryz.func29, Tryz.ntmps29
  go_wp2_with fail
  go_ret
  exact Gives.mk (by go_num)
set_option maxRecDepth 100000 in
theorem apartBytes_none (gb : Nat) (w : World) (c0 : w.cell? ⟨gb, 0, none⟩ = some (.slice none 0 0)) : Calls Tryz.prog 31 #[.pointer (some ⟨gb, 0, none⟩)] w (Gives (.bool true) w) := by
  go_enter Tryz.func31, Tryz.ntmps31
  go_wp2_with fail
  go_loop [3] (fun i => i = .int .i64 0) (fun _ => 0)
  case atStart => rfl
  case round =>
    subst hrel
    go_wp2_with fail
    go_loop [6, 7] (fun m i => m = .slice none 0 0 ∧ i = .int .i64 0) (fun _ _ => 0)
    case atStart => exact ⟨rfl, rfl⟩
    case round =>
      obtain ⟨rfl, rfl⟩ := hrel
      go_wp2_with fail
      go_loop [10] (fun i => i = .int .i64 0) (fun _ => 0)
      case atStart => rfl
      case round =>
        subst hrel
        go_wp2_with fail
        go_ret
        exact Gives.mk rfl
set_option maxRecDepth 100000 in
theorem apartInts_none (gb : Nat) (w : World) (c0 : w.cell? ⟨gb, 1, none⟩ = some (.slice none 0 0)) : Calls Tryz.prog 32 #[.pointer (some ⟨gb, 0, none⟩)] w (Gives (.bool true) w) := by
  go_enter Tryz.func32, Tryz.ntmps32
  go_wp2_with fail
  go_loop [3] (fun i => i = .int .i64 0) (fun _ => 0)
  case atStart => rfl
  case round =>
    subst hrel
    go_wp2_with fail
    go_loop [6, 7] (fun m i => m = .slice none 0 0 ∧ i = .int .i64 0) (fun _ _ => 0)
    case atStart => exact ⟨rfl, rfl⟩
    case round =>
      obtain ⟨rfl, rfl⟩ := hrel
      go_wp2_with fail
      go_loop [10] (fun i => i = .int .i64 0) (fun _ => 0)
      case atStart => rfl
      case round =>
        subst hrel
        go_wp2_with fail
        go_ret
        exact Gives.mk rfl
set_option maxRecDepth 100000 in
theorem apartLongs_none (gb : Nat) (w : World) (c0 : w.cell? ⟨gb, 2, none⟩ = some (.slice none 0 0)) : Calls Tryz.prog 33 #[.pointer (some ⟨gb, 0, none⟩)] w (Gives (.bool true) w) := by
  go_enter Tryz.func33, Tryz.ntmps33
  go_wp2_with fail
  go_loop [3] (fun i => i = .int .i64 0) (fun _ => 0)
  case atStart => rfl
  case round =>
    subst hrel
    go_wp2_with fail
    go_loop [6, 7] (fun m i => m = .slice none 0 0 ∧ i = .int .i64 0) (fun _ _ => 0)
    case atStart => exact ⟨rfl, rfl⟩
    case round =>
      obtain ⟨rfl, rfl⟩ := hrel
      go_wp2_with fail
      go_loop [10] (fun i => i = .int .i64 0) (fun _ => 0)
      case atStart => rfl
      case round =>
        subst hrel
        go_wp2_with fail
        go_ret
        exact Gives.mk rfl
set_option maxRecDepth 100000 in
theorem apartBools_none (gb : Nat) (w : World) (c0 : w.cell? ⟨gb, 3, none⟩ = some (.slice none 0 0)) : Calls Tryz.prog 34 #[.pointer (some ⟨gb, 0, none⟩)] w (Gives (.bool true) w) := by
  go_enter Tryz.func34, Tryz.ntmps34
  go_wp2_with fail
  go_loop [3] (fun i => i = .int .i64 0) (fun _ => 0)
  case atStart => rfl
  case round =>
    subst hrel
    go_wp2_with fail
    go_loop [6, 7] (fun m i => m = .slice none 0 0 ∧ i = .int .i64 0) (fun _ _ => 0)
    case atStart => exact ⟨rfl, rfl⟩
    case round =>
      obtain ⟨rfl, rfl⟩ := hrel
      go_wp2_with fail
      go_loop [10] (fun i => i = .int .i64 0) (fun _ => 0)
      case atStart => rfl
      case round =>
        subst hrel
        go_wp2_with fail
        go_ret
        exact Gives.mk rfl
set_option maxRecDepth 100000 in
theorem apartTexts_none (gb : Nat) (w : World) (c0 : w.cell? ⟨gb, 4, none⟩ = some (.slice none 0 0)) : Calls Tryz.prog 35 #[.pointer (some ⟨gb, 0, none⟩)] w (Gives (.bool true) w) := by
  go_enter Tryz.func35, Tryz.ntmps35
  go_wp2_with fail
  go_loop [3] (fun i => i = .int .i64 0) (fun _ => 0)
  case atStart => rfl
  case round =>
    subst hrel
    go_wp2_with fail
    go_loop [6, 7] (fun m i => m = .slice none 0 0 ∧ i = .int .i64 0) (fun _ _ => 0)
    case atStart => exact ⟨rfl, rfl⟩
    case round =>
      obtain ⟨rfl, rfl⟩ := hrel
      go_wp2_with fail
      go_loop [10] (fun i => i = .int .i64 0) (fun _ => 0)
      case atStart => rfl
      case round =>
        subst hrel
        go_wp2_with fail
        go_ret
        exact Gives.mk rfl
set_option maxRecDepth 100000 in
theorem apartNodes_none (gb : Nat) (w : World) (c0 : w.cell? ⟨gb, 5, none⟩ = some (.slice none 0 0)) : Calls Tryz.prog 36 #[.pointer (some ⟨gb, 0, none⟩)] w (Gives (.bool true) w) := by
  go_enter Tryz.func36, Tryz.ntmps36
  go_wp2_with fail
  go_loop [3] (fun i => i = .int .i64 0) (fun _ => 0)
  case atStart => rfl
  case round =>
    subst hrel
    go_wp2_with fail
    go_loop [6, 7] (fun m i => m = .slice none 0 0 ∧ i = .int .i64 0) (fun _ _ => 0)
    case atStart => exact ⟨rfl, rfl⟩
    case round =>
      obtain ⟨rfl, rfl⟩ := hrel
      go_wp2_with fail
      go_loop [10] (fun i => i = .int .i64 0) (fun _ => 0)
      case atStart => rfl
      case round =>
        subst hrel
        go_wp2_with fail
        go_ret
        exact Gives.mk rfl
set_option maxRecDepth 100000 in
theorem apartCos_none (gb : Nat) (w : World) (c0 : w.cell? ⟨gb, 6, none⟩ = some (.slice none 0 0)) : Calls Tryz.prog 37 #[.pointer (some ⟨gb, 0, none⟩)] w (Gives (.bool true) w) := by
  go_enter Tryz.func37, Tryz.ntmps37
  go_wp2_with fail
  go_loop [3] (fun i => i = .int .i64 0) (fun _ => 0)
  case atStart => rfl
  case round =>
    subst hrel
    go_wp2_with fail
    go_loop [6, 7] (fun m i => m = .slice none 0 0 ∧ i = .int .i64 0) (fun _ _ => 0)
    case atStart => exact ⟨rfl, rfl⟩
    case round =>
      obtain ⟨rfl, rfl⟩ := hrel
      go_wp2_with fail
      go_loop [10] (fun i => i = .int .i64 0) (fun _ => 0)
      case atStart => rfl
      case round =>
        subst hrel
        go_wp2_with fail
        go_ret
        exact Gives.mk rfl
set_option maxRecDepth 100000 in
theorem apartSeen_none (gb : Nat) (w : World) (c0 : w.cell? ⟨gb, 7, none⟩ = some (.slice none 0 0)) : Calls Tryz.prog 38 #[.pointer (some ⟨gb, 0, none⟩)] w (Gives (.bool true) w) := by
  go_enter Tryz.func38, Tryz.ntmps38
  go_wp2_with fail
  go_loop [3] (fun i => i = .int .i64 0) (fun _ => 0)
  case atStart => rfl
  case round =>
    subst hrel
    go_wp2_with fail
    go_loop [6, 7] (fun m i => m = .slice none 0 0 ∧ i = .int .i64 0) (fun _ _ => 0)
    case atStart => exact ⟨rfl, rfl⟩
    case round =>
      obtain ⟨rfl, rfl⟩ := hrel
      go_wp2_with fail
      go_loop [10] (fun i => i = .int .i64 0) (fun _ => 0)
      case atStart => rfl
      case round =>
        subst hrel
        go_wp2_with fail
        go_ret
        exact Gives.mk rfl
set_option maxRecDepth 100000 in
theorem apartSites_none (gb : Nat) (w : World) (c0 : w.cell? ⟨gb, 8, none⟩ = some (.slice none 0 0)) : Calls Tryz.prog 39 #[.pointer (some ⟨gb, 0, none⟩)] w (Gives (.bool true) w) := by
  go_enter Tryz.func39, Tryz.ntmps39
  go_wp2_with fail
  go_loop [3] (fun i => i = .int .i64 0) (fun _ => 0)
  case atStart => rfl
  case round =>
    subst hrel
    go_wp2_with fail
    go_loop [6, 7] (fun m i => m = .slice none 0 0 ∧ i = .int .i64 0) (fun _ _ => 0)
    case atStart => exact ⟨rfl, rfl⟩
    case round =>
      obtain ⟨rfl, rfl⟩ := hrel
      go_wp2_with fail
      go_loop [10] (fun i => i = .int .i64 0) (fun _ => 0)
      case atStart => rfl
      case round =>
        subst hrel
        go_wp2_with fail
        go_ret
        exact Gives.mk rfl
set_option maxRecDepth 100000 in
theorem apartIns_none (gb : Nat) (w : World) (c0 : w.cell? ⟨gb, 9, none⟩ = some (.slice none 0 0)) : Calls Tryz.prog 40 #[.pointer (some ⟨gb, 0, none⟩)] w (Gives (.bool true) w) := by
  go_enter Tryz.func40, Tryz.ntmps40
  go_wp2_with fail
  go_loop [3] (fun i => i = .int .i64 0) (fun _ => 0)
  case atStart => rfl
  case round =>
    subst hrel
    go_wp2_with fail
    go_loop [6, 7] (fun m i => m = .slice none 0 0 ∧ i = .int .i64 0) (fun _ _ => 0)
    case atStart => exact ⟨rfl, rfl⟩
    case round =>
      obtain ⟨rfl, rfl⟩ := hrel
      go_wp2_with fail
      go_loop [10] (fun i => i = .int .i64 0) (fun _ => 0)
      case atStart => rfl
      case round =>
        subst hrel
        go_wp2_with fail
        go_ret
        exact Gives.mk rfl
set_option maxRecDepth 100000 in
theorem apartImports_none (gb : Nat) (w : World) (c0 : w.cell? ⟨gb, 10, none⟩ = some (.slice none 0 0)) : Calls Tryz.prog 41 #[.pointer (some ⟨gb, 0, none⟩)] w (Gives (.bool true) w) := by
  go_enter Tryz.func41, Tryz.ntmps41
  go_wp2_with fail
  go_loop [3] (fun i => i = .int .i64 0) (fun _ => 0)
  case atStart => rfl
  case round =>
    subst hrel
    go_wp2_with fail
    go_loop [6, 7] (fun m i => m = .slice none 0 0 ∧ i = .int .i64 0) (fun _ _ => 0)
    case atStart => exact ⟨rfl, rfl⟩
    case round =>
      obtain ⟨rfl, rfl⟩ := hrel
      go_wp2_with fail
      go_loop [10] (fun i => i = .int .i64 0) (fun _ => 0)
      case atStart => rfl
      case round =>
        subst hrel
        go_wp2_with fail
        go_ret
        exact Gives.mk rfl
set_option maxRecDepth 100000 in
theorem apartTraps_none (gb : Nat) (w : World) (c0 : w.cell? ⟨gb, 11, none⟩ = some (.slice none 0 0)) : Calls Tryz.prog 42 #[.pointer (some ⟨gb, 0, none⟩)] w (Gives (.bool true) w) := by
  go_enter Tryz.func42, Tryz.ntmps42
  go_wp2_with fail
  go_loop [3] (fun i => i = .int .i64 0) (fun _ => 0)
  case atStart => rfl
  case round =>
    subst hrel
    go_wp2_with fail
    go_loop [6, 7] (fun m i => m = .slice none 0 0 ∧ i = .int .i64 0) (fun _ _ => 0)
    case atStart => exact ⟨rfl, rfl⟩
    case round =>
      obtain ⟨rfl, rfl⟩ := hrel
      go_wp2_with fail
      go_loop [10] (fun i => i = .int .i64 0) (fun _ => 0)
      case atStart => rfl
      case round =>
        subst hrel
        go_wp2_with fail
        go_ret
        exact Gives.mk rfl
set_option maxRecDepth 100000 in
theorem apartRows_none (gb : Nat) (w : World) (c0 : w.cell? ⟨gb, 12, none⟩ = some (.slice none 0 0)) : Calls Tryz.prog 43 #[.pointer (some ⟨gb, 0, none⟩)] w (Gives (.bool true) w) := by
  go_enter Tryz.func43, Tryz.ntmps43
  go_wp2_with fail
  go_loop [3] (fun i => i = .int .i64 0) (fun _ => 0)
  case atStart => rfl
  case round =>
    subst hrel
    go_wp2_with fail
    go_loop [6, 7] (fun m i => m = .slice none 0 0 ∧ i = .int .i64 0) (fun _ _ => 0)
    case atStart => exact ⟨rfl, rfl⟩
    case round =>
      obtain ⟨rfl, rfl⟩ := hrel
      go_wp2_with fail
      go_loop [10] (fun i => i = .int .i64 0) (fun _ => 0)
      case atStart => rfl
      case round =>
        subst hrel
        go_wp2_with fail
        go_ret
        exact Gives.mk rfl
set_option maxRecDepth 100000 in
theorem apartDefs_none (gb : Nat) (w : World) (c0 : w.cell? ⟨gb, 13, none⟩ = some (.slice none 0 0)) : Calls Tryz.prog 44 #[.pointer (some ⟨gb, 0, none⟩)] w (Gives (.bool true) w) := by
  go_enter Tryz.func44, Tryz.ntmps44
  go_wp2_with fail
  go_loop [3] (fun i => i = .int .i64 0) (fun _ => 0)
  case atStart => rfl
  case round =>
    subst hrel
    go_wp2_with fail
    go_loop [6, 7] (fun m i => m = .slice none 0 0 ∧ i = .int .i64 0) (fun _ _ => 0)
    case atStart => exact ⟨rfl, rfl⟩
    case round =>
      obtain ⟨rfl, rfl⟩ := hrel
      go_wp2_with fail
      go_loop [10] (fun i => i = .int .i64 0) (fun _ => 0)
      case atStart => rfl
      case round =>
        subst hrel
        go_wp2_with fail
        go_ret
        exact Gives.mk rfl
set_option maxRecDepth 100000 in
theorem apartModules_none (gb : Nat) (w : World) (c0 : w.cell? ⟨gb, 14, none⟩ = some (.slice none 0 0)) : Calls Tryz.prog 45 #[.pointer (some ⟨gb, 0, none⟩)] w (Gives (.bool true) w) := by
  go_enter Tryz.func45, Tryz.ntmps45
  go_wp2_with fail
  go_loop [3] (fun i => i = .int .i64 0) (fun _ => 0)
  case atStart => rfl
  case round =>
    subst hrel
    go_wp2_with fail
    go_loop [6, 7] (fun m i => m = .slice none 0 0 ∧ i = .int .i64 0) (fun _ _ => 0)
    case atStart => exact ⟨rfl, rfl⟩
    case round =>
      obtain ⟨rfl, rfl⟩ := hrel
      go_wp2_with fail
      go_loop [10] (fun i => i = .int .i64 0) (fun _ => 0)
      case atStart => rfl
      case round =>
        subst hrel
        go_wp2_with fail
        go_ret
        exact Gives.mk rfl
set_option maxRecDepth 100000 in
theorem apartFunctions_none (gb : Nat) (w : World) (c0 : w.cell? ⟨gb, 15, none⟩ = some (.slice none 0 0)) : Calls Tryz.prog 46 #[.pointer (some ⟨gb, 0, none⟩)] w (Gives (.bool true) w) := by
  go_enter Tryz.func46, Tryz.ntmps46
  go_wp2_with fail
  go_loop [3] (fun i => i = .int .i64 0) (fun _ => 0)
  case atStart => rfl
  case round =>
    subst hrel
    go_wp2_with fail
    go_loop [6, 7] (fun m i => m = .slice none 0 0 ∧ i = .int .i64 0) (fun _ _ => 0)
    case atStart => exact ⟨rfl, rfl⟩
    case round =>
      obtain ⟨rfl, rfl⟩ := hrel
      go_wp2_with fail
      go_loop [10] (fun i => i = .int .i64 0) (fun _ => 0)
      case atStart => rfl
      case round =>
        subst hrel
        go_wp2_with fail
        go_ret
        exact Gives.mk rfl
set_option maxRecDepth 100000 in
theorem apartWaits_none (gb : Nat) (w : World) (c0 : w.cell? ⟨gb, 16, none⟩ = some (.slice none 0 0)) : Calls Tryz.prog 47 #[.pointer (some ⟨gb, 0, none⟩)] w (Gives (.bool true) w) := by
  go_enter Tryz.func47, Tryz.ntmps47
  go_wp2_with fail
  go_loop [3] (fun i => i = .int .i64 0) (fun _ => 0)
  case atStart => rfl
  case round =>
    subst hrel
    go_wp2_with fail
    go_loop [6, 7] (fun m i => m = .slice none 0 0 ∧ i = .int .i64 0) (fun _ _ => 0)
    case atStart => exact ⟨rfl, rfl⟩
    case round =>
      obtain ⟨rfl, rfl⟩ := hrel
      go_wp2_with fail
      go_loop [10] (fun i => i = .int .i64 0) (fun _ => 0)
      case atStart => rfl
      case round =>
        subst hrel
        go_wp2_with fail
        go_ret
        exact Gives.mk rfl
set_option maxRecDepth 100000 in
theorem apartTrees_none (gb : Nat) (w : World) (c0 : w.cell? ⟨gb, 17, none⟩ = some (.slice none 0 0)) : Calls Tryz.prog 48 #[.pointer (some ⟨gb, 0, none⟩)] w (Gives (.bool true) w) := by
  go_enter Tryz.func48, Tryz.ntmps48
  go_wp2_with fail
  go_loop [3] (fun i => i = .int .i64 0) (fun _ => 0)
  case atStart => rfl
  case round =>
    subst hrel
    go_wp2_with fail
    go_loop [6, 7] (fun m i => m = .slice none 0 0 ∧ i = .int .i64 0) (fun _ _ => 0)
    case atStart => exact ⟨rfl, rfl⟩
    case round =>
      obtain ⟨rfl, rfl⟩ := hrel
      go_wp2_with fail
      go_loop [10] (fun i => i = .int .i64 0) (fun _ => 0)
      case atStart => rfl
      case round =>
        subst hrel
        go_wp2_with fail
        go_ret
        exact Gives.mk rfl
end Go.Proofs.YtdobaililmkkcaaGreatDoor

/- Rows that were gathered are written full, and gone on with: what holds on the way. No program in sight. -/
namespace Culp.Bag
set_option linter.unusedSimpArgs false
set_option linter.unusedVariables false
open Go Go.RowKit

/-- The marks of the list n. -/
def marks (mk : Nat → Nat → Value) (n m : Nat) : List Value := (List.range m).map (mk n)
section
variable {mk : Nat → Nat → Value} {n m k : Nat}
theorem marks_len : (marks mk n m).length = m := by simp [marks]
theorem marks_succ : marks mk n (m + 1) = marks mk n m ++ [mk n m] := by simp [marks, List.range_succ]
theorem marks_get (h : k < m) : (marks mk n m)[k]? = some (mk n k) := by simp [marks, h]
theorem marks_take (h : k ≤ m) : (marks mk n m).take k = marks mk n k := by simp [marks, ← List.map_take, List.take_range, Nat.min_eq_left h]
end
/-- What one append does. -/
structure Grew (base : Nat) (e : TypeId) (w w' : World) (l l' : Value) (n : Nat) (xs : List Value) (u : Value) : Prop where
  own : w'.ownsRow base e 1 l' (n + 1) (xs ++ [u])
  grown : w.grownBy w' l.ownBlock
  below : Below base w w'
  at_ : l'.ownBlock = l.ownBlock ∨ ∃ b, l'.ownBlock = some b ∧ w.heap.size < b
  hold : ∀ X b m ys, w.ownsRow b e 1 X m ys → (∀ k, X.ownBlock = some k → l.ownBlock = some k → m ≤ n ∧ ys = xs.take m) → w'.ownsRow b e 1 X m ys
section
variable (e se : TypeId) (B W : Nat) (R : List Value) (L : Nat → Nat) (mk : Nat → Nat → Value)
/-- The first phase: rows are overwritten. -/
def Ph1 (n k : Nat) (w : World) : Prop := ∀ j v, R[j]? = some v → ∃ xs, w.ownsRow B e 1 v (L j) xs ∧ (j < n → xs = marks mk j (L j)) ∧ (j = n → xs.take k = marks mk n k)
/-- The second phase: rows are gone on with. -/
structure Ph2 (bv : Value) (n : Nat) (one more : Value) (Us Vs : List Value) (w : World) : Prop where
  lu : Us.length = n
  lv : Vs.length = n
  hbag : w.ownsRow B se 1 bv R.length R
  hone : w.ownsRow W se 1 one n Us
  hmore : w.ownsRow W se 1 more n Vs
  om : Apart one more
  ob : Apart one bv
  mb : Apart more bv
  row : ∀ j v, R[j]? = some v → w.ownsRow B e 1 v (L j) (marks mk j (L j))
  us : ∀ k u, Us[k]? = some u → w.ownsRow B e 1 u (L k + 1) (marks mk k (L k + 1)) ∧ ∀ j v, n ≤ j → R[j]? = some v → Apart v u
  vs : ∀ k u, Vs[k]? = some u → w.ownsRow B e 1 u (L k + 70) (marks mk k (L k + 70)) ∧ ∀ j v, n ≤ j → R[j]? = some v → Apart v u
/-- Within a row of the second phase. -/
structure In (bv : Value) (n t : Nat) (l one more : Value) (Us Vs : List Value) (w : World) : Prop where
  lu : Us.length = n + min t 1
  lv : Vs.length = n
  hbag : w.ownsRow B se 1 bv R.length R
  hone : w.ownsRow W se 1 one Us.length Us
  hmore : w.ownsRow W se 1 more n Vs
  om : Apart one more
  ob : Apart one bv
  mb : Apart more bv
  own : w.ownsRow B e 1 l (L n + t) (marks mk n (L n + t))
  row : ∀ j v, R[j]? = some v → w.ownsRow B e 1 v (L j) (marks mk j (L j))
  us : ∀ k u, Us[k]? = some u → w.ownsRow B e 1 u (L k + 1) (marks mk k (L k + 1)) ∧ ∀ j v, n < j → R[j]? = some v → Apart v u
  vs : ∀ k u, Vs[k]? = some u → w.ownsRow B e 1 u (L k + 70) (marks mk k (L k + 70)) ∧ ∀ j v, n < j → R[j]? = some v → Apart v u
  lrow : ∀ (j : Nat) (v : Value), j ≠ n → R[j]? = some v → Apart l v
  lus : ∀ (k : Nat) (u : Value), k < n → Us[k]? = some u → Apart l u
  lvs : ∀ (k : Nat) (u : Value), Vs[k]? = some u → Apart l u
end
section
variable {e se : TypeId} {B W : Nat} {R : List Value} {L : Nat → Nat} {mk : Nat → Nat → Value} {bv l l' one one' more more' v : Value} {n k t g c : Nat} {Us Vs xs : List Value} {w w' : World}
theorem Ph1.start (h : ∀ n v, R[n]? = some v → ∃ xs, w.ownsRow B e 1 v (L n) xs) : Ph1 e B R L mk 0 0 w := by
  intro j v hv
  obtain ⟨xs, hx⟩ := h j v hv
  exact ⟨xs, hx, fun h => by omega, fun _ => rfl⟩
theorem Ph1.zero (h : Ph1 e B R L mk n k w) : Ph1 e B R L mk n 0 w := by
  intro j v hv
  obtain ⟨xs, hx, h1, _⟩ := h j v hv
  exact ⟨xs, hx, h1, fun _ => rfl⟩
theorem Ph1.next (h : Ph1 e B R L mk n (L n) w) : Ph1 e B R L mk (n + 1) 0 w := by
  intro j v hv
  obtain ⟨xs, hx, h1, h2⟩ := h j v hv
  refine ⟨xs, hx, fun hj => ?_, fun _ => rfl⟩
  by_cases hjn : j = n
  · subst hjn
    have := h2 rfl
    rw [List.take_of_length_le (by have := hx.1; omega)] at this
    exact this
  · exact h1 (by omega)
theorem Ph1.set (h : Ph1 e B R L mk n k w) (hA : ∀ (i j : Nat) (u v : Value), i ≠ j → R[i]? = some u → R[j]? = some v → Apart u v) (hv : R[n]? = some (.slice (some ⟨g, 0, none⟩) (L n) c)) (hk : k < L n) :
    Ph1 e B R L mk n (k + 1) (w.setCell ⟨g, k, none⟩ (mk n k)) := by
  intro j u hu
  obtain ⟨xs, hx, h1, h2⟩ := h j u hu
  by_cases hjn : j = n
  · subst hjn
    rw [hv] at hu
    injection hu with hu
    subst hu
    refine ⟨_, own_setv hx k (mk j k), fun h => by omega, fun _ => ?_⟩
    have hl : k < xs.length := by have := hx.1; omega
    rw [List.take_add_one, List.getElem?_set_self hl, List.take_set, List.set_eq_of_length_le (by rw [List.length_take]; exact Nat.min_le_left _ _), h2 rfl, marks_succ]
    rfl
  · refine ⟨xs, own_apart_keep hx ((Keep.refl g w).setCell k _) (fun he => ?_), h1, fun h => absurd h hjn⟩
    exact hA n j _ _ (fun h => hjn h.symm) hv hu g rfl he
theorem Ph1.cell (h : Ph1 e B R L mk n k w) (hv : R[n]? = some v) (hk : k < L n) : ∃ g c x, v = .slice (some ⟨g, 0, none⟩) (L n) c ∧ B ≤ g ∧ w.cell? ⟨g, k, none⟩ = some x ∧ w.frozen? ⟨g, k, none⟩ = false ∧ ∃ xs, w.ownsRow B e 1 v (L n) xs := by
  obtain ⟨xs, hx, _⟩ := h n v hv
  have hx' := hx
  obtain ⟨g, c, rfl, hb, _, _, hl, _⟩ := own_read hx (by omega)
  have := own_get hx (i := k) (v := xs[k]'(by omega)) (List.getElem?_eq_getElem (by omega))
  exact ⟨g, c, _, rfl, hb, this.1, this.2, xs, hx'⟩
theorem Ph1.form (h : Ph1 e B R L mk n k w) (hv : R[n]? = some v) : ∃ A c, v = .slice A (L n) c := by
  obtain ⟨xs, hx, _⟩ := h n v hv
  obtain ⟨A, c, rfl, _⟩ := own_form hx
  exact ⟨A, c, rfl⟩
theorem Ph2.start (h : Ph1 e B R L mk R.length 0 w) (hb : w.ownsRow B se 1 bv R.length R) : Ph2 e se B W R L mk bv 0 (.slice none 0 0) (.slice none 0 0) [] [] w where
  lu := rfl
  lv := rfl
  hbag := hb
  hone := World.ownsRow_nil _ _ _ _
  hmore := World.ownsRow_nil _ _ _ _
  om := fun k hk => by cases hk
  ob := fun k hk => by cases hk
  mb := fun k hk => by cases hk
  row := fun j v hv => by
    obtain ⟨xs, hx, h1, _⟩ := h j v hv
    rw [← h1 (List.getElem?_eq_some_iff.1 hv).1]
    exact hx
  us := fun k u hu => by simp at hu
  vs := fun k u hu => by simp at hu
theorem In.start (h : Ph2 e se B W R L mk bv n one more Us Vs w) (hA : ∀ (i j : Nat) (u v : Value), i ≠ j → R[i]? = some u → R[j]? = some v → Apart u v) (hv : R[n]? = some v) : In e se B W R L mk bv n 0 v one more Us Vs w where
  lu := h.lu
  lv := h.lv
  hbag := h.hbag
  hone := by rw [h.lu]; exact h.hone
  hmore := h.hmore
  om := h.om
  ob := h.ob
  mb := h.mb
  own := h.row n v hv
  row := h.row
  us := fun k u hu => ⟨(h.us k u hu).1, fun j v hj => (h.us k u hu).2 j v (by omega)⟩
  vs := fun k u hu => ⟨(h.vs k u hu).1, fun j v hj => (h.vs k u hu).2 j v (by omega)⟩
  lrow := fun j u hj hu => hA n j v u (fun h => hj h.symm) hv hu
  lus := fun k u _ hu => (h.us k u hu).2 n v (Nat.le_refl _) hv
  lvs := fun k u hu => (h.vs k u hu).2 n v (Nat.le_refl _) hv
/-- One more mark. -/
theorem In.push (hne : e ≠ se) (h : In e se B W R L mk bv n t l one more Us Vs w) (ht : t = 0 → Us.length = n) (hA : ∀ (i j : Nat) (u v : Value), i ≠ j → R[i]? = some u → R[j]? = some v → Apart u v) (G : Grew B e w w' l l' (L n + t) (marks mk n (L n + t)) (mk n (L n + t))) (ht1 : 0 < t) :
    In e se B W R L mk bv n (t + 1) l' one more Us Vs w' where
  lu := by have := h.lu; omega
  lv := h.lv
  hbag := own_other h.hbag G.grown (own_apart_type h.own h.hbag hne)
  hone := own_other h.hone G.grown (own_apart_type h.own h.hone hne)
  hmore := own_other h.hmore G.grown (own_apart_type h.own h.hmore hne)
  om := h.om
  ob := h.ob
  mb := h.mb
  own := by rw [← Nat.add_assoc, marks_succ]; exact G.own
  row := fun j u hu => G.hold u _ _ _ (h.row j u hu) fun k hk hl => by
    by_cases hj : j = n
    · subst hj
      exact ⟨by omega, by rw [marks_take (by omega)]⟩
    · exact absurd hk (h.lrow j u hj hu k hl)
  us := fun k u hu => ⟨G.hold u _ _ _ (h.us k u hu).1 fun i hi hl => by
    by_cases hk : k < n
    · exact absurd hi (h.lus k u hk hu i hl)
    · have := (List.getElem?_eq_some_iff.1 hu).1
      have := h.lu
      obtain rfl : k = n := by omega
      exact ⟨by omega, by rw [marks_take (by omega)]⟩, (h.us k u hu).2⟩
  vs := fun k u hu => ⟨G.hold u _ _ _ (h.vs k u hu).1 fun i hi hl => absurd hi (h.lvs k u hu i hl), (h.vs k u hu).2⟩
  lrow := fun j u hj hu => (h.lrow j u hj hu).grow' (h.row j u hu) G.at_
  lus := fun k u hk hu => (h.lus k u hk hu).grow' (h.us k u hu).1 G.at_
  lvs := fun k u hu => (h.lvs k u hu).grow' (h.vs k u hu).1 G.at_
/-- The first mark, and the row as it is then, kept. -/
theorem In.first (hne : e ≠ se) (h : In e se B W R L mk bv n 0 l one more Us Vs w) (G : Grew B e w w' l l' (L n + 0) (marks mk n (L n + 0)) (mk n (L n + 0))) {w2 : World} (G2 : Grew W se w' w2 one one' n Us l') (hbW : B ≤ W) :
    In e se B W R L mk bv n 1 l' one' more (Us ++ [l']) Vs w2 := by
  have hlu : Us.length = n := h.lu
  have hbag := own_other h.hbag G.grown (own_apart_type h.own h.hbag hne)
  have hone := own_other h.hone G.grown (own_apart_type h.own h.hone hne)
  have hmore := own_other h.hmore G.grown (own_apart_type h.own h.hmore hne)
  have hrow : ∀ j u, R[j]? = some u → w'.ownsRow B e 1 u (L j) (marks mk j (L j)) := fun j u hu => G.hold u _ _ _ (h.row j u hu) fun k hk hl => by
    by_cases hj : j = n
    · subst hj
      exact ⟨by omega, by rw [marks_take (by omega)]⟩
    · exact absurd hk (h.lrow j u hj hu k hl)
  have hlt : ∀ k u, Us[k]? = some u → k < n := fun k u hu => by have := (List.getElem?_eq_some_iff.1 hu).1; omega
  have hus : ∀ k u, Us[k]? = some u → w'.ownsRow B e 1 u (L k + 1) (marks mk k (L k + 1)) := fun k u hu => G.hold u _ _ _ (h.us k u hu).1 fun i hi hl => absurd hi (h.lus k u (hlt k u hu) hu i hl)
  have hvs : ∀ k u, Vs[k]? = some u → w'.ownsRow B e 1 u (L k + 70) (marks mk k (L k + 70)) := fun k u hu => G.hold u _ _ _ (h.vs k u hu).1 fun i hi hl => absurd hi (h.lvs k u hu i hl)
  have hl' : w'.ownsRow B e 1 l' (L n + 1) (marks mk n (L n + 1)) := by rw [marks_succ]; exact G.own
  have hst : ∀ {X m ys}, w'.ownsRow B e 1 X m ys → w2.ownsRow B e 1 X m ys := fun hX => own_other hX G2.grown (own_apart_type hone hX (fun h => hne h.symm))
  have hnth : ∀ k u, (Us ++ [l'])[k]? = some u → (k < n ∧ Us[k]? = some u) ∨ (k = n ∧ u = l') := fun k u hu => by
    by_cases hk : k < n
    · exact .inl ⟨hk, by rwa [List.getElem?_append_left (by omega)] at hu⟩
    · have hk2 := (List.getElem?_eq_some_iff.1 hu).1
      rw [List.length_append, List.length_singleton] at hk2
      obtain rfl : k = n := by omega
      rw [List.getElem?_append_right (by omega), hlu, Nat.sub_self] at hu
      simp at hu
      exact .inr ⟨rfl, hu.symm⟩
  exact
    { lu := by rw [List.length_append, hlu]; rfl
      lv := h.lv
      hbag := G2.hold _ _ _ _ hbag fun k hk hl => absurd hk (h.ob k hl)
      hone := by rw [List.length_append, hlu]; exact G2.own
      hmore := G2.hold _ _ _ _ hmore fun k hk hl => absurd hk (h.om k hl)
      om := h.om.grow' hmore G2.at_
      ob := h.ob.grow' hbag G2.at_
      mb := h.mb
      own := hst hl'
      row := fun j u hu => hst (hrow j u hu)
      us := fun k u hu => by
        rcases hnth k u hu with ⟨hk, hu⟩ | ⟨rfl, rfl⟩
        · exact ⟨hst (hus k u hu), (h.us k u hu).2⟩
        · exact ⟨hst hl', fun j v hj hv => ((h.lrow j v (by omega) hv).grow' (h.row j v hv) G.at_).symm⟩
      vs := fun k u hu => ⟨hst (hvs k u hu), (h.vs k u hu).2⟩
      lrow := fun j u hj hu => (h.lrow j u hj hu).grow' (h.row j u hu) G.at_
      lus := fun k u hk hu => by
        rcases hnth k u hu with ⟨hk, hu⟩ | ⟨rfl, _⟩
        · exact (h.lus k u hk hu).grow' (h.us k u hu).1 G.at_
        · omega
      lvs := fun k u hu => (h.lvs k u hu).grow' (h.vs k u hu).1 G.at_ }
/-- The row is full: on to the next. -/
theorem In.done (hne : e ≠ se) (h : In e se B W R L mk bv n 70 l one more Us Vs w) (G : Grew W se w w' more more' n Vs l) :
    Ph2 e se B W R L mk bv (n + 1) one more' Us (Vs ++ [l]) w' := by
  have hst : ∀ {X m ys}, w.ownsRow B e 1 X m ys → w'.ownsRow B e 1 X m ys := fun hX => own_other hX G.grown (own_apart_type h.hmore hX (fun h => hne h.symm))
  have hlu : Us.length = n + 1 := h.lu
  exact
    { lu := hlu
      lv := by rw [List.length_append, h.lv]; rfl
      hbag := G.hold _ _ _ _ h.hbag fun k hk hl => absurd hk (h.mb k hl)
      hone := by
        have := G.hold _ _ _ _ h.hone fun k hk hl => absurd hl (h.om k hk)
        rw [hlu] at this
        exact this
      hmore := G.own
      om := (h.om.symm.grow' h.hone G.at_).symm
      ob := h.ob
      mb := h.mb.grow' h.hbag G.at_
      row := fun j u hu => hst (h.row j u hu)
      us := fun k u hu => ⟨hst (h.us k u hu).1, fun j v hj => (h.us k u hu).2 j v (by omega)⟩
      vs := fun k u hu => by
        by_cases hk : k < n
        · rw [List.getElem?_append_left (by rw [h.lv]; exact hk)] at hu
          exact ⟨hst (h.vs k u hu).1, fun j v hj => (h.vs k u hu).2 j v (by omega)⟩
        · have hk2 := (List.getElem?_eq_some_iff.1 hu).1
          rw [List.length_append, List.length_singleton, h.lv] at hk2
          obtain rfl : k = n := by omega
          rw [List.getElem?_append_right (by rw [h.lv]; omega), h.lv, Nat.sub_self] at hu
          simp at hu
          subst hu
          exact ⟨hst h.own, fun j v hj hv => (h.lrow j v (by omega) hv).symm⟩ }
end
end Culp.Bag

/- A bag of lists while it is filled. No program in sight. -/
namespace Culp.Bag
set_option linter.unusedSimpArgs false
set_option linter.unusedVariables false
open Go Go.RowKit

/-- A bag's cells: lists of lists; one kind of them may hold some. -/
def BagAt (t : TypeId) (N K g : Nat) (bv : Value) (w : World) : Prop :=
  ∃ cs : Array Value, w.heap[g]? = some (.cells cs t (0, 0)) ∧ cs.size = N ∧ cs[K]? = some bv ∧ ∀ j, j < N → j ≠ K → cs[j]? = some (.slice none 0 0)
section
variable {t : TypeId} {N K g B : Nat} {bv bv' : Value} {w w' : World}
theorem BagAt.cell (h : BagAt t N K g bv w) : w.cell? ⟨g, K, none⟩ = some bv := by
  obtain ⟨cs, h1, h2, h3, _⟩ := h
  simp [World.cell?, h1, h3]
theorem BagAt.empty (h : BagAt t N K g bv w) {j : Nat} (hj : j < N) (hn : j ≠ K) : w.cell? ⟨g, j, none⟩ = some (.slice none 0 0) := by
  obtain ⟨cs, h1, h2, _, h3⟩ := h
  simp [World.cell?, h1, h3 j hj hn]
theorem BagAt.free (h : BagAt t N K g bv w) (j : Nat) : w.frozen? ⟨g, j, none⟩ = false := by
  obtain ⟨cs, h1, _⟩ := h
  simp [World.frozen?, h1]
theorem BagAt.lt (h : BagAt t N K g bv w) : g < w.heap.size := by
  obtain ⟨cs, h1, _⟩ := h
  exact (Array.getElem?_eq_some_iff.1 h1).1
theorem BagAt.below (h : BagAt t N K g bv w) (hb : Below B w w') (hg : g < B) : BagAt t N K g bv w' := by
  obtain ⟨cs, h1, h2⟩ := h
  exact ⟨cs, (hb.block g hg).trans h1, h2⟩
theorem BagAt.put (h : BagAt t N K g bv w) (bv' : Value) : BagAt t N K g bv' (w.setCell ⟨g, K, none⟩ bv') := by
  obtain ⟨cs, h1, h2, h3, h4⟩ := h
  have hK : K < cs.size := (Array.getElem?_eq_some_iff.1 h3).1
  refine ⟨cs.setIfInBounds K bv', by simp [World.setCell, Array.getElem?_modify, h1], by simpa using h2, ?_, fun j hj hn => ?_⟩
  · rw [Array.getElem?_setIfInBounds_self_of_lt hK]
  · rw [Array.getElem?_setIfInBounds_ne (fun he => hn he.symm)]
    exact h4 j hj hn
end
/-- A bag that holds rows that lie apart. -/
structure Full (t e se : TypeId) (N K g B : Nat) (R : List Value) (L : Nat → Nat) (bv : Value) (w : World) : Prop where
  at_ : BagAt t N K g bv w
  lt : g < B
  le : B ≤ w.heap.size
  bag : w.ownsRow B se 1 bv R.length R
  rows : ∀ n v, R[n]? = some v → ∃ xs, w.ownsRow B e 1 v (L n) xs
  apart : ∀ (i j : Nat) (u v : Value), i ≠ j → R[i]? = some u → R[j]? = some v → Apart u v
section
variable {t e se : TypeId} {N K g B : Nat} {R : List Value} {L : Nat → Nat} {bv bv' v : Value} {w w' : World} {xs : List Value}
theorem Full.start (h : BagAt t N K g (.slice none 0 0) w) (hg : g < B) (hB : B ≤ w.heap.size) : Full t e se N K g B [] L (.slice none 0 0) w where
  at_ := h
  lt := hg
  le := hB
  bag := World.ownsRow_nil _ _ _ _
  rows := fun n v hv => by simp at hv
  apart := fun i j u v _ hu => by simp at hu
theorem Full.later (h : Full t e se N K g B R L bv w) (hb : Below w.heap.size w w') : Full t e se N K g B R L bv w' where
  at_ := h.at_.below hb (by have := h.lt; have := h.le; omega)
  lt := h.lt
  le := Nat.le_trans h.le hb.size
  bag := own_later h.bag hb
  rows := fun n v hv => by
    obtain ⟨xs, hx⟩ := h.rows n v hv
    exact ⟨xs, own_later hx hb⟩
  apart := h.apart
/-- What is made now lies apart from what the bag holds. -/
theorem Full.fresh (h : Full t e se N K g B R L bv w) {e2 : TypeId} {n : Nat} (hv : w'.ownsRow w.heap.size e2 1 v n xs) : ∀ u ∈ R, Apart v u := by
  intro u hu
  obtain ⟨i, hi⟩ := List.getElem?_of_mem hu
  obtain ⟨ys, hy⟩ := h.rows i u hi
  exact apart_base hv fun k hk => (hy.lt k hk).2
theorem Full.add (h : Full t e se N K g B R L bv w) (hne : e ≠ se) (hv : w.ownsRow B e 1 v (L R.length) xs) (hA : ∀ u ∈ R, Apart v u)
    (ho : w'.ownsRow B se 1 bv' (R.length + 1) (R ++ [v])) (hg : w.grownBy w' bv.ownBlock) (hb : Below B w w') :
    Full t e se N K g B (R ++ [v]) L bv' (w'.setCell ⟨g, K, none⟩ bv') := by
  have hk : Keep g w' (w'.setCell ⟨g, K, none⟩ bv') := (Keep.refl g w').setCell K bv'
  have hst : ∀ {X : Value} {n : Nat} {ys : List Value}, w.ownsRow B e 1 X n ys → (w'.setCell ⟨g, K, none⟩ bv').ownsRow B e 1 X n ys := by
    intro X n ys hX
    have h1 := own_other hX hg (own_apart_type h.bag hX (fun he => hne he.symm))
    exact own_apart_keep h1 hk (fun he => by have := (h1.lt g he).1; have := h.lt; omega)
  refine
    { at_ := (h.at_.below hb h.lt).put bv'
      lt := h.lt
      le := by have := hb.size; have := hk.size; have := h.le; omega
      bag := by
        rw [List.length_append, List.length_singleton]
        exact own_apart_keep ho hk (fun he => by have := (ho.lt g he).1; have := h.lt; omega)
      rows := fun n u hu => ?_
      apart := fun i j u x hij hu hx => ?_ }
  · by_cases hn : n < R.length
    · rw [List.getElem?_append_left hn] at hu
      obtain ⟨ys, hy⟩ := h.rows n u hu
      exact ⟨ys, hst hy⟩
    · have hn2 := (List.getElem?_eq_some_iff.1 hu).1
      rw [List.length_append, List.length_singleton] at hn2
      obtain rfl : n = R.length := by omega
      rw [List.getElem?_append_right (Nat.le_refl _), Nat.sub_self] at hu
      simp at hu
      subst hu
      exact ⟨xs, hst hv⟩
  · have key : ∀ n y, (R ++ [v])[n]? = some y → (n < R.length ∧ R[n]? = some y) ∨ (n = R.length ∧ y = v) := by
      intro n y hy
      by_cases hn : n < R.length
      · rw [List.getElem?_append_left hn] at hy
        exact .inl ⟨hn, hy⟩
      · have hn2 := (List.getElem?_eq_some_iff.1 hy).1
        rw [List.length_append, List.length_singleton] at hn2
        obtain rfl : n = R.length := by omega
        rw [List.getElem?_append_right (Nat.le_refl _), Nat.sub_self] at hy
        simp at hy
        exact .inr ⟨rfl, hy.symm⟩
    rcases key i u hu with ⟨hi, hu'⟩ | ⟨rfl, rfl⟩
    · rcases key j x hx with ⟨hj, hx'⟩ | ⟨rfl, rfl⟩
      · exact h.apart i j u x hij hu' hx'
      · exact (hA u (List.mem_of_getElem? hu')).symm
    · rcases key j x hx with ⟨hj, hx'⟩ | ⟨rfl, rfl⟩
      · exact hA x (List.mem_of_getElem? hx')
      · exact absurd rfl hij
end
end Culp.Bag

/- Walks of bags: a text that marks a place; lists of texts lie apart. -/
namespace Culp.Bag
set_option linter.unusedSimpArgs false
set_option linter.unusedVariables false
open Go Go.RowKit
section
variable {e se : TypeId} {B W : Nat} {R : List Value} {L : Nat → Nat} {mk : Nat → Nat → Value} {bv l one more v : Value} {n k t g c : Nat} {Us Vs xs : List Value} {w w' : World}
theorem Ph1.later (h : Ph1 e B R L mk n k w) (hb : Below w.heap.size w w') : Ph1 e B R L mk n k w' := fun j v hv => by
  obtain ⟨xs, hx, h1⟩ := h j v hv
  exact ⟨xs, own_later hx hb, h1⟩
theorem Ph2.later (h : Ph2 e se B W R L mk bv n one more Us Vs w) (hb : Below w.heap.size w w') : Ph2 e se B W R L mk bv n one more Us Vs w' :=
  { h with
    hbag := own_later h.hbag hb
    hone := own_later h.hone hb
    hmore := own_later h.hmore hb
    row := fun j v hv => own_later (h.row j v hv) hb
    us := fun k u hu => ⟨own_later (h.us k u hu).1 hb, (h.us k u hu).2⟩
    vs := fun k u hu => ⟨own_later (h.vs k u hu).1 hb, (h.vs k u hu).2⟩ }
theorem In.later (h : In e se B W R L mk bv n t l one more Us Vs w) (hb : Below w.heap.size w w') : In e se B W R L mk bv n t l one more Us Vs w' :=
  { h with
    hbag := own_later h.hbag hb
    hone := own_later h.hone hb
    hmore := own_later h.hmore hb
    own := own_later h.own hb
    row := fun j v hv => own_later (h.row j v hv) hb
    us := fun k u hu => ⟨own_later (h.us k u hu).1 hb, (h.us k u hu).2⟩
    vs := fun k u hu => ⟨own_later (h.vs k u hu).1 hb, (h.vs k u hu).2⟩ }
end
end Culp.Bag
namespace Go.Proofs.YtdobaililmkkcaaGreatDoor
set_option linter.unusedSimpArgs false
set_option linter.unusedVariables false
open Go.RowKit Go.Maps Culp

/-- The library's table of powers of ten. -/
def Pw (w : World) : Prop := Lib.TabIs Tryz.prog w "internal/strconv.uint64pow10" .u64 Lib.pow10Tab
theorem Pw.later {w w' : World} (h : Pw w) {B : Nat} (hb : Below B w w') (hB : 4 < B) : Pw w' := by
  unfold Pw Lib.TabIs World.var? at h ⊢
  have hg : Tryz.prog.globalNamed "internal/strconv.uint64pow10" = some 4 := by kernel_rfl
  rw [hg] at h ⊢
  simp only [Option.bind_some] at h ⊢
  rw [hb.block _ hB]
  exact h
theorem Pw.lt {w : World} (h : Pw w) : 4 < w.heap.size := by
  unfold Pw Lib.TabIs World.var? at h
  have hg : Tryz.prog.globalNamed "internal/strconv.uint64pow10" = some 4 := by kernel_rfl
  rw [hg] at h
  simp only [Option.bind_some] at h
  rcases Nat.lt_or_ge 4 w.heap.size with h1 | h1
  · exact h1
  · rw [Array.getElem?_eq_none h1] at h; cases h
/-- The text that marks a place of a list. -/
def txt (n i : Nat) : ByteArray := (⟨#[33]⟩ : ByteArray) ++ ⟨(Lib.itoa ((1048576 * n + i + 1 : Nat) : Int)).toArray⟩
def mkT (n i : Nat) : Value := .string (txt n i)
set_option maxHeartbeats 800000 in
theorem text_any (n i : Nat) (hn : n ≤ 1000) (hi : i ≤ 1000000000000) (w : World) (hP : Pw w) : Calls Tryz.prog 30 #[.int .i64 n, .int .i64 i] w (Makes (mkT n i) w) := by
  have HP := Lib.hid hP
  have hl := Lib.itoa_length_le ((1048576 * n + i + 1 : Nat) : Int) (by omega) (by omega)
  have ecast : ((1048576 * n + i + 1 : Nat) : Int) = 1048576 * (n : Int) + (i : Int) + 1 := by omega
  have HCA := Lib.hid ecast
  rw [ecast] at hl
  have hl2 : ¬ 9223372036854775807 < 1 + (Lib.itoa (1048576 * (n : Int) + (i : Int) + 1)).length := by omega
  clear hP hl ecast
  go_enter Tryz.func30, Tryz.ntmps30
  go_wp2_with fail
  refine (num_any n i hn hi _).mono ?_
  rintro e w1 ⟨rfl, rfl⟩
  go_wp2_with fail
  refine (Tryz.strconv_Itoa ((1048576 * n + i + 1 : Nat) : Int) (by omega) (by omega) w HP.out).mono ?_
  rintro e w2 ⟨rfl, k, os, rfl⟩
  have HB : Hid (Below w.heap.size w (Go.Sort.grow (w.drewN k) os)) := Lib.hid (Lib.below_grow _ w (Nat.le_refl _) k os)
  generalize Go.Sort.grow (w.drewN k) os = w3 at *
  go_wp2_with fail
  go_ret
  exact Makes.mk (by unfold mkT txt; rw [HCA.out]; rfl) HB.out
/-- The bag's own block. -/
def BagIs (gb : Nat) (cs : Array Value) (w : World) : Prop := w.heap[gb]? = some (.cells cs 56 (0, 0))
section
variable {gb : Nat} {cs : Array Value} {w w' : World}
theorem BagIs.lt (h : BagIs gb cs w) : gb < w.heap.size := (Array.getElem?_eq_some_iff.1 h).1
theorem BagIs.later (h : BagIs gb cs w) (hb : Below w.heap.size w w') : BagIs gb cs w' := (hb.block gb h.lt).trans h
theorem BagIs.cell {j : Nat} {v : Value} (h : BagIs gb cs w) (hv : cs[j]? = some v) : w.cell? ⟨gb, j, none⟩ = some v := by
  unfold BagIs at h
  simp [World.cell?, h, hv]
theorem BagIs.ne {B n size : Nat} {e : TypeId} {v : Value} {xs : List Value} (h : BagIs gb cs w) (ho : w.ownsRow B e size v n xs) (he : e ≠ 56) : v.ownBlock ≠ some gb := own_ne ho fun cur hc => by
  unfold BagIs at h
  rw [h] at hc
  simp only [Option.some.injEq, Obj.cells.injEq] at hc
  exact he hc.2.1.symm
theorem BagIs.grown {o : Option Nat} (h : BagIs gb cs w) (hg : w.grownBy w' o) (ho : o ≠ some gb) : BagIs gb cs w' := (hg.block gb h.lt (fun e => ho e.symm)).trans h
theorem BagIs.set {g : Nat} (h : BagIs gb cs w) (hne : g ≠ gb) (i : Nat) (u : Value) : BagIs gb cs (w.setCell ⟨g, i, none⟩ u) := (((Keep.refl g w).setCell i u).block gb h.lt (fun e => hne e.symm)).trans h
end
theorem stexts_info : (Tryz.prog.info? 23).map (fun i => (i.zero, i.size, i.bytes)) = some (some (.slice none 0 0), 1, 24) := by kernel_rfl
set_option maxRecDepth 100000 in
set_option maxHeartbeats 6400000 in
theorem apartTexts_any (gb B : Nat) (R : List Value) (L : Nat → Nat) (bv : Value) (w : World) (cs : Array Value) (hBI : BagIs gb cs w) (hc4 : cs[4]? = some bv) (hBw : B ≤ w.heap.size) (hbv : w.ownsRow B 23 1 bv R.length R)
    (hG : ∀ n v, R[n]? = some v → ∃ xs, w.ownsRow B 9 1 v (L n) xs) (hA : ∀ (i j : Nat) (u v : Value), i ≠ j → R[i]? = some u → R[j]? = some v → Culp.Apart u v) (hM : R.length ≤ 300) (hL : ∀ n, L n ≤ 1000000) (hP : Pw w) (hpB : 4 < B) :
    Calls Tryz.prog 35 #[.pointer (some ⟨gb, 0, none⟩)] w (fun e w' => e = .returned (.bool true) ∧ Below B w w' ∧ BagIs gb cs w') := by
  have HL := Lib.hid hL
  have HPW := Lib.hid (fun wx (hb : Below B w wx) => hP.later hb hpB)
  have HA := Lib.hid hA
  have HC := Lib.hid hc4
  have HBI := Lib.hid hBI
  have HP0 := Lib.hid (Bag.Ph1.start (mk := mkT) hG)
  have HV0 := Lib.hid hbv
  obtain ⟨A0, cb, rfl, _, hA0⟩ := own_form hbv
  have HA0 := Lib.hid hA0
  clear hG hA hL hbv hA0 hP hpB hBI hc4
  go_enter Tryz.func35, Tryz.ntmps35
  go_wp2_with fail
  go_loopw [3] (fun i wr => ∃ n : Nat, n ≤ R.length ∧ i = .int .i64 n ∧ Hid (Bag.Ph1 9 B R L mkT n 0 wr) ∧ Hid (wr.ownsRow B 23 1 (.slice A0 R.length cb) R.length R) ∧ Hid (Below B w wr) ∧ Hid (BagIs gb cs wr)) (fun i _ => R.length - (intOf i).toNat)
  case atStart => exact ⟨0, Nat.zero_le _, rfl, HP0, HV0, Lib.hid (Below.refl _ _), HBI⟩
  case round =>
    clear HP0 HV0
    obtain ⟨n, hn, rfl, HP, HV, HB, HBI⟩ := hrel
    have c1 := HBI.out.cell HC.out
    by_cases hlt : n < R.length
    · obtain ⟨v, hv⟩ : ∃ v, R[n]? = some v := ⟨_, List.getElem?_eq_getElem hlt⟩
      have HVN := Lib.hid hv
      obtain ⟨rb, rfl, hrb, _⟩ := HA0.out (by omega)
      obtain ⟨Av, cv, rfl⟩ := HP.out.form hv
      have r0 := (own_get HV.out hv).1
      clear hv
      go_wp2_with fail
      go_loopw [4] (fun i wr => ∃ k : Nat, k ≤ L n ∧ i = .int .i64 k ∧ Hid (Bag.Ph1 9 B R L mkT n k wr) ∧ Hid (wr.ownsRow B 23 1 (.slice (some ⟨rb, 0, none⟩) R.length cb) R.length R) ∧ Hid (Below B w wr) ∧ Hid (BagIs gb cs wr)) (fun i _ => L n - (intOf i).toNat)
      case atStart => exact ⟨0, Nat.zero_le _, rfl, HP, HV, HB, HBI⟩
      case round =>
        clear HP HV HB c1 r0
        obtain ⟨k, hk, rfl, HP, HV, HB, HBI⟩ := hrel
        have c1 := HBI.out.cell HC.out
        have r0 := (own_get HV.out HVN.out).1
        have hLn := HL.out n
        by_cases hkl : k < L n
        · obtain ⟨g, c, x0, e0, hBg, x1, x2, xs, hxs⟩ := HP.out.cell HVN.out hkl
          simp only [Value.slice.injEq] at e0
          obtain ⟨rfl, _, rfl⟩ := e0
          have hgg : g ≠ gb := fun he => HBI.out.ne hxs (by decide) (congrArg some he)
          have hgr : g ≠ rb := fun he => own_apart_type hxs HV.out (by decide) g rfl (by rw [he]; rfl)
          have HPd : Hid (Bag.Ph1 9 B R L mkT n k wr.drew) := Lib.hid HP.out
          have HVd : Hid (wr.drew.ownsRow B 23 1 (.slice (some ⟨rb, 0, none⟩) R.length cb) R.length R) := Lib.hid HV.out
          have HBd := Lib.hid HB.out.drew
          have HBId : Hid (BagIs gb cs wr.drew) := Lib.hid HBI.out
          clear hxs HP HV HB x1 x2
          go_wp2_with fail
          refine wp_region_plan (S := fun w' => w'.cell? ⟨gb, 4, none⟩ = some (.slice (some ⟨rb, 0, none⟩) R.length cb) ∧ w'.cell? ⟨rb, n, none⟩ = some (.slice (some ⟨g, 0, none⟩) (L n) cv))
            [(0, true), (1, true), (2, true), (3, true), (4, true), (5, true), (6, true), (7, true), (8, true), (9, true), (10, false), (11, true), (12, false)] (by kernel_rfl) (by kernel_rfl) (by kernel_rfl) (fun _ _ _ _ _ h => h) ⟨c1, r0⟩ ?_
          intro HS
          repeat (first | (apply wpPlan_look; rfl; rfl; (intro wq hq; (try dsimp only at hq); go_split_ands; go_simp; (try rw [if_neg (by omega)]); (try rw [if_pos (by omega)]); try with_reducible rfl); simp only [Act.put, List.setIfInBounds_toArray, List.set_cons_zero, List.set_cons_succ]) | (apply wpPlan_skip; rfl; rfl; simp only [Act.put, List.setIfInBounds_toArray, List.set_cons_zero, List.set_cons_succ]) | (apply wpPlan_pass; rfl; rfl; assumption; simp only [Act.put, List.setIfInBounds_toArray, List.set_cons_zero, List.set_cons_succ]))
          apply wpPlan_call; rfl; rfl; rfl; rfl; kernel_rfl; exact text_any n k (by omega) (by omega) _ (HPW.out _ HBd.out); rfl; rintro e w1 ⟨rfl, hb1⟩
          refine ⟨_, rfl, as_S ⟨cell_later hb1 c1, cell_later hb1 r0⟩ ?_⟩
          intro HS1
          simp only [Act.put, List.setIfInBounds_toArray, List.set_cons_zero, List.set_cons_succ]
          repeat (first | (apply wpPlan_look; rfl; rfl; (intro wq hq; (try dsimp only at hq); go_split_ands; go_simp; (try rw [if_neg (by omega)]); (try rw [if_pos (by omega)]); try with_reducible rfl); simp only [Act.put, List.setIfInBounds_toArray, List.set_cons_zero, List.set_cons_succ]) | (apply wpPlan_skip; rfl; rfl; simp only [Act.put, List.setIfInBounds_toArray, List.set_cons_zero, List.set_cons_succ]) | (apply wpPlan_pass; rfl; rfl; assumption; simp only [Act.put, List.setIfInBounds_toArray, List.set_cons_zero, List.set_cons_succ]))
          have HP1 := Lib.hid (HPd.out.later hb1)
          have HV1 := Lib.hid (own_later HVd.out hb1)
          have HB1 : Hid (Below B w w1) := Lib.hid (HBd.out.trans (hb1.mono (Nat.le_trans hBw HBd.out.size)))
          have HBI1 := Lib.hid (HBId.out.later hb1)
          obtain ⟨g9, c9, x9, e9, _, y1, y2, -⟩ := HP1.out.cell HVN.out hkl
          simp only [Value.slice.injEq, Option.some.injEq, Addr.mk.injEq] at e9
          obtain ⟨⟨rfl, _⟩, _, rfl⟩ := e9
          have HP2 := Lib.hid (HP1.out.set HA.out HVN.out hkl)
          have HV2 := Lib.hid (own_apart_keep HV1.out ((Keep.refl g w1).setCell k (mkT n k)) (fun he => hgr (by injection he with he; exact he.symm)))
          have HB2 := Lib.hid (Below.setCell (p := ⟨g, k, none⟩) HB1.out hBg (mkT n k))
          have HBI2 := Lib.hid (HBI1.out.set hgg k (mkT n k))
          have c2 := Keep.cell ((Keep.refl g w1).setCell k (mkT n k)) HS1.1 hgg.symm
          have r2 := Keep.cell ((Keep.refl g w1).setCell k (mkT n k)) HS1.2 hgr.symm
          refine wpPlan_run0 (w' := w1.setCell ⟨g, k, none⟩ (mkT n k)) rfl rfl (by simp [execOp, go_sem, y1, y2, mkT]) _ (fun _ h => h) ⟨c2, r2⟩ ?_
          simp only [Act.put, List.setIfInBounds_toArray, List.set_cons_zero, List.set_cons_succ]
          apply wpPlan_done
          clear HPd HVd HBd HP1 HV1 HB1 y1 y2 c2 r2 HS HS1 c1 r0 hb1
          generalize w1.setCell ⟨g, k, none⟩ (mkT n k) = w2 at *
          go_wp2_with fail
          go_roundw
          case rel => exact ⟨k + 1, by omega, by go_num, HP2, HV2, HB2, HBI2⟩
          case measure => simp [intOf]; omega
        · have hkl2 : k = L n := by omega
          have HP2 := Lib.hid (Bag.Ph1.next (by have := HP.out; rw [hkl2] at this; exact this))
          clear HP hkl2
          go_wp2_with fail
          go_roundw
          case rel => exact ⟨n + 1, by omega, by go_num, HP2, HV, HB, HBI⟩
          case measure => simp [intOf]; omega
    · obtain rfl : n = R.length := by omega
      have HQ := Lib.hid (Bag.Ph2.start (W := w.heap.size) (se := 23) HP.out HV.out)
      clear HP HV
      go_wp2_with fail
      clear c1
      go_loopw [5, 6, 7] (fun ov mv i wr => ∃ (n : Nat) (o m : Value) (Us Vs : List Value), o = ov ∧ m = mv ∧ n ≤ R.length ∧ i = .int .i64 n ∧ Hid (Bag.Ph2 9 23 B w.heap.size R L mkT (.slice A0 R.length cb) n o m Us Vs wr) ∧ Hid (Below B w wr) ∧ Hid (BagIs gb cs wr)) (fun _ _ i _ => R.length - (intOf i).toNat)
      case atStart => exact ⟨0, _, _, [], [], rfl, rfl, Nat.zero_le _, rfl, HQ, HB, HBI⟩
      case round =>
        clear HQ HB
        obtain ⟨n, o, m, Us, Vs, rfl, rfl, hn, rfl, HQ, HB, HBI⟩ := hrel
        have c1 := HBI.out.cell HC.out
        by_cases hlt : n < R.length
        · obtain ⟨v, hv⟩ : ∃ v, R[n]? = some v := ⟨_, List.getElem?_eq_getElem hlt⟩
          have HVN := Lib.hid hv
          obtain ⟨rb, rfl, hrb, _⟩ := HA0.out (by omega)
          obtain ⟨Av, cv, rfl, _⟩ := own_form (HQ.out.row n v hv)
          have r0 := (own_get HQ.out.hbag hv).1
          have HI0 := Lib.hid (Bag.In.start HQ.out HA.out hv)
          have hLn := HL.out n
          clear hv HQ
          go_wp2_with fail
          go_loopw [5, 8, 9] (fun ov lv i wr => ∃ (t p : Nat) (o l : Value) (Us : List Value), o = ov ∧ l = lv ∧ t ≤ 70 ∧ L n ≤ p ∧ p ≤ L n + 70 ∧ i = .int .i64 p ∧ Hid (p = L n + t) ∧ Hid (Bag.In 9 23 B w.heap.size R L mkT (.slice (some ⟨rb, 0, none⟩) R.length cb) n t l o m Us Vs wr) ∧ Hid (Below B w wr) ∧ Hid (BagIs gb cs wr)) (fun _ _ i _ => L n + 70 - (intOf i).toNat)
          case atStart => exact ⟨0, L n, _, _, Us, rfl, rfl, by omega, Nat.le_refl _, by omega, rfl, Lib.hid rfl, HI0, HB, HBI⟩
          case round =>
            clear HI0 HB c1 r0
            obtain ⟨t, p, o, l, Us, rfl, rfl, ht, hp0, hp1, rfl, HPT, HI, HB, HBI⟩ := hrel
            have c1 := HBI.out.cell HC.out
            have r0 := (own_get HI.out.hbag HVN.out).1
            have hpt := HPT.out
            by_cases hkl : t < 70
            · have hpl : p < L n + 70 := by omega
              have own4 : wr.ownsRow B 9 1 l p (Bag.marks mkT n p) := by rw [HPT.out]; exact HI.out.own
              clear hpt
              go_wp2_with fail
              refine (text_any n p (by omega) (by omega) _ (HPW.out _ HB.out)).mono ?_
              rintro e w1 ⟨rfl, hb1⟩
              unfold mkT
              have HI1 := Lib.hid (HI.out.later hb1)
              have HB1 : Hid (Below B w w1) := Lib.hid (HB.out.trans (hb1.mono (Nat.le_trans hBw HB.out.size)))
              have HBI1 := Lib.hid (HBI.out.later hb1)
              have own4 := own_later own4 hb1
              clear hb1 HI HB
              clear c1 r0
              go_wp2_with (at_builtin; refine append_held rfl (.tmp 78) (.tmp 82) 23 9 rfl B _ 1 16 Tryz.underlying23 strings_info rfl (by decide) _ _ _ rfl own4 [.string (txt n p)] rfl w1.heap.size rfl rfl ?_ ?_ ?_ ?_ ?_)
              · intro y hy; simp only [List.mem_cons, List.not_mem_nil, or_false] at hy; subst hy; rfl
              · omega
              · omega
              · have := HB1.out.size; omega
              intro v' w5 a1 a2 a3 a4 a5
              have HG : Hid (Bag.Grew B 9 w1 w5 l v' (L n + t) (Bag.marks mkT n (L n + t)) (mkT n (L n + t))) := Lib.hid (by rw [← HPT.out]; exact ⟨a1, a2, a3, a4, a5⟩)
              have HB5 := Lib.hid (HB1.out.trans a3)
              have HBI5 := Lib.hid (HBI1.out.grown a2 (HBI1.out.ne own4 (by decide)))
              obtain ⟨A5, c5, rfl, _⟩ := own_form a1
              have c1 := HBI5.out.cell HC.out
              have r0 := (own_get (own_other HI1.out.hbag a2 (own_apart_type own4 HI1.out.hbag (by decide))) HVN.out).1
              have ownO := own_other HI1.out.hone a2 (own_apart_type own4 HI1.out.hone (by decide))
              clear a1 a2 a3 a4 a5 own4
              by_cases ht0 : t = 0
              · have hpe : p = L n := by have := HPT.out; omega
                have e1 : (((p : Nat) : Int) == ((L n : Nat) : Int)) = true := int_eq' hpe
                have HUn : Hid (Us.length = n) := Lib.hid (by have := HI1.out.lu; rw [ht0] at this; exact this)
                have hUn := HUn.out
                clear hpe
                go_wp2_with (at_builtin; refine append_held rfl (.tmp 94) (.tmp 96) 41 23 rfl w.heap.size _ 1 24 Tryz.underlying41 stexts_info rfl (by decide) _ _ _ rfl ownO [.slice A5 (p + 1) c5] rfl w5.heap.size rfl rfl ?_ ?_ ?_ ?_ ?_)
                · intro y hy; simp only [List.mem_cons, List.not_mem_nil, or_false] at hy; subst hy; rfl
                · omega
                · omega
                · exact HB5.out.size
                intro o' w6 a1 a2 a3 a4 a5
                have HI6 : Hid (Bag.In 9 23 B w.heap.size R L mkT (.slice (some ⟨rb, 0, none⟩) R.length cb) n (t + 1) (.slice A5 (p + 1) c5) o' m (Us ++ [.slice A5 (p + 1) c5]) Vs w6) := Lib.hid (by
                  have hI := HI1.out
                  have hG := HG.out
                  subst ht0
                  exact Bag.In.first (by decide) hI hG (one' := o') ⟨a1, a2, a3, a4, a5⟩ hBw)
                have HB6 := Lib.hid (HB5.out.trans (Below.mono a3 hBw))
                have HBI6 := Lib.hid (HBI5.out.grown a2 (HBI5.out.ne ownO (by decide)))
                clear a1 a2 a3 a4 a5 HI1 HG HB5 HB1 c1 r0 ownO
                go_wp2_with fail
                go_roundw
                case rel => exact ⟨t + 1, p + 1, o', _, _, rfl, rfl, by omega, by omega, by omega, by go_num, Lib.hid (by rw [HPT.out]; omega), HI6, HB6, HBI6⟩
                case measure => simp [intOf]; omega
              · have e1 : (((p : Nat) : Int) == ((L n : Nat) : Int)) = false := beq_no (by have := HPT.out; omega)
                have HI6 := Lib.hid (Bag.In.push (by decide) HI1.out (fun h => absurd h ht0) HA.out HG.out (by omega))
                clear HI1 HG HB1 ownO
                go_wp2_with fail
                go_roundw
                case rel => exact ⟨t + 1, p + 1, o, _, Us, rfl, rfl, by omega, by omega, by omega, by go_num, Lib.hid (by rw [HPT.out]; omega), HI6, HB5, HBI5⟩
                case measure => simp [intOf]; omega
            · have ht70 : t = 70 := by omega
              have hpe : p = L n + 70 := by omega
              have HI70 : Hid (Bag.In 9 23 B w.heap.size R L mkT (.slice (some ⟨rb, 0, none⟩) R.length cb) n 70 l o m Us Vs wr) := Lib.hid (by have := HI.out; rw [ht70] at this; exact this)
              have ownM := HI.out.hmore
              have own7 := HI70.out.own
              rw [← hpe] at own7
              obtain ⟨A5, c5, rfl, _⟩ := own_form own7
              have hnp : ¬ p < L n + 70 := by omega
              clear hpt hpe HI ht70 HPT own7
              go_wp2_with (at_builtin; refine append_held rfl (.tmp 98) (.tmp 100) 41 23 rfl w.heap.size _ 1 24 Tryz.underlying41 stexts_info rfl (by decide) _ _ _ rfl ownM [.slice A5 p c5] rfl wr.heap.size rfl rfl ?_ ?_ ?_ ?_ ?_)
              · intro y hy; simp only [List.mem_cons, List.not_mem_nil, or_false] at hy; subst hy; rfl
              · omega
              · omega
              · exact HB.out.size
              intro m' w6 a1 a2 a3 a4 a5
              have HQ6 := Lib.hid (Bag.In.done (by decide) HI70.out ⟨a1, a2, a3, a4, a5⟩)
              have HB6 := Lib.hid (HB.out.trans (Below.mono a3 hBw))
              have HBI6 := Lib.hid (HBI.out.grown a2 (HBI.out.ne ownM (by decide)))
              clear a1 a2 a3 a4 a5 HI70 HB c1 r0 ownM
              go_wp2_with fail
              go_roundw
              case rel => exact ⟨n + 1, _, m', Us, _, rfl, rfl, by omega, by go_num, HQ6, HB6, HBI6⟩
              case measure => simp [intOf]; omega
        · obtain rfl : n = R.length := by omega
          obtain ⟨Am, cm, rfl, -⟩ := own_form HQ.out.hmore
          obtain ⟨Ao, co, rfl, -⟩ := own_form HQ.out.hone
          go_wp2_with fail
          clear c1
          go_loopw [10] (fun i wr => ∃ n : Nat, n ≤ R.length ∧ i = .int .i64 n ∧ Hid (Bag.Ph2 9 23 B w.heap.size R L mkT (.slice A0 R.length cb) R.length (.slice Ao R.length co) (.slice Am R.length cm) Us Vs wr) ∧ Hid (Below B w wr) ∧ Hid (BagIs gb cs wr)) (fun i _ => R.length - (intOf i).toNat)
          case atStart => exact ⟨0, Nat.zero_le _, rfl, HQ, HB, HBI⟩
          case round =>
            clear HQ HB
            obtain ⟨n, hn, rfl, HQ, HB, HBI⟩ := hrel
            by_cases hlt : n < R.length
            · have hv0 : ∃ v, R[n]? = some v := ⟨_, List.getElem?_eq_getElem hlt⟩
              obtain ⟨v, hv⟩ := hv0
              have hu0 : ∃ u, Us[n]? = some u := ⟨_, List.getElem?_eq_getElem (by rw [HQ.out.lu]; exact hlt)⟩
              have hx0 : ∃ u, Vs[n]? = some u := ⟨_, List.getElem?_eq_getElem (by rw [HQ.out.lv]; exact hlt)⟩
              obtain ⟨u, hu⟩ := hu0
              obtain ⟨x, hx⟩ := hx0
              have hLn := HL.out n
              obtain ⟨rb, rfl, hrb, -⟩ := HA0.out (by omega)
              obtain ⟨_, _, e1, -⟩ := own_read HQ.out.hmore (by omega)
              obtain ⟨_, _, e2, -⟩ := own_read HQ.out.hone (by omega)
              simp only [Value.slice.injEq] at e1 e2
              obtain ⟨rfl, _, rfl⟩ := e1
              obtain ⟨rfl, _, rfl⟩ := e2
              obtain ⟨Av, cv, rfl, -⟩ := own_form (HQ.out.row n v hv)
              obtain ⟨gu, cu, rfl, -⟩ := own_read (HQ.out.us n u hu).1 (by omega)
              obtain ⟨gx, cx, rfl, -⟩ := own_read (HQ.out.vs n x hx).1 (by omega)
              have HV := Lib.hid hv
              have HU := Lib.hid hu
              have HX := Lib.hid hx
              have m0 := (own_get HQ.out.hmore hx).1
              clear hv hu hx
              go_wp2_with fail
              clear m0
              go_loopw [11] (fun i wr => ∃ k : Nat, k ≤ L n + 70 ∧ i = .int .i64 k ∧ Hid (Bag.Ph2 9 23 B w.heap.size R L mkT (.slice (some ⟨rb, 0, none⟩) R.length cb) R.length (.slice _ R.length co) (.slice _ R.length cm) Us Vs wr) ∧ Hid (Below B w wr) ∧ Hid (BagIs gb cs wr)) (fun i _ => L n + 70 - (intOf i).toNat)
              case atStart => exact ⟨0, Nat.zero_le _, rfl, HQ, HB, HBI⟩
              case round =>
                clear HQ HB
                obtain ⟨k, hk, rfl, HQ, HB, HBI⟩ := hrel
                have c1 := HBI.out.cell HC.out
                have r0 := (own_get HQ.out.hbag HV.out).1
                have m0 := (own_get HQ.out.hmore HX.out).1
                have o0 := (own_get HQ.out.hone HU.out).1
                by_cases hkl : k < L n + 70
                · have x0 : wr.cell? ⟨gx, k, none⟩ = some (.string (txt n k)) := (own_get (HQ.out.vs n _ HX.out).1 (Bag.marks_get hkl)).1
                  by_cases hk1 : k < L n
                  · obtain ⟨gv, _, e3, -⟩ := own_read (HQ.out.row n _ HV.out) (by omega)
                    simp only [Value.slice.injEq] at e3
                    obtain ⟨rfl, _, rfl⟩ := e3
                    have v0 : wr.cell? ⟨gv, k, none⟩ = some (.string (txt n k)) := (own_get (HQ.out.row n _ HV.out) (Bag.marks_get hk1)).1
                    have e4 : (((k : Nat) : Int) == ((L n : Nat) : Int)) = false := beq_no (by omega)
                    go_wp2_with fail
                    refine (text_any n k (by omega) (by omega) _ (HPW.out _ HB.out)).mono ?_
                    rintro e w1 ⟨rfl, hb1⟩
                    have HQ1 := Lib.hid (HQ.out.later hb1)
                    have HB1 : Hid (Below B w w1) := Lib.hid (HB.out.trans (hb1.mono (Nat.le_trans hBw HB.out.size)))
                    have HBI1 := Lib.hid (HBI.out.later hb1)
                    have m0 := cell_later hb1 m0
                    have x0 := cell_later hb1 x0
                    clear hb1 HQ HB
                    unfold mkT
                    go_wp2_with fail
                    refine (text_any n k (by omega) (by omega) _ (HPW.out _ HB1.out)).mono ?_
                    rintro e w2 ⟨rfl, hb2⟩
                    have HQ2 := Lib.hid (HQ1.out.later hb2)
                    have HB2 : Hid (Below B w w2) := Lib.hid (HB1.out.trans (hb2.mono (Nat.le_trans hBw HB1.out.size)))
                    have HBI2 := Lib.hid (HBI1.out.later hb2)
                    clear hb2 HQ1 HB1
                    unfold mkT
                    go_wp2_with fail
                    go_roundw
                    case rel => exact ⟨k + 1, by omega, by go_num, HQ2, HB2, HBI2⟩
                    case measure => simp [intOf]; omega
                  · by_cases hk2 : k = L n
                    · have e4 : (((k : Nat) : Int) == ((L n : Nat) : Int)) = true := int_eq' hk2
                      have u0 : wr.cell? ⟨gu, k, none⟩ = some (.string (txt n k)) := (own_get (HQ.out.us n _ HU.out).1 (Bag.marks_get (by omega))).1
                      have hk3 : k < L n + 1 := by omega
                      clear hk2
                      go_wp2_with fail
                      refine (text_any n k (by omega) (by omega) _ (HPW.out _ HB.out)).mono ?_
                      rintro e w1 ⟨rfl, hb1⟩
                      have HQ1 := Lib.hid (HQ.out.later hb1)
                      have HB1 : Hid (Below B w w1) := Lib.hid (HB.out.trans (hb1.mono (Nat.le_trans hBw HB.out.size)))
                      have HBI1 := Lib.hid (HBI.out.later hb1)
                      have m0 := cell_later hb1 m0
                      have x0 := cell_later hb1 x0
                      clear hb1 HQ HB
                      unfold mkT
                      go_wp2_with fail
                      refine (text_any n k (by omega) (by omega) _ (HPW.out _ HB1.out)).mono ?_
                      rintro e w2 ⟨rfl, hb2⟩
                      have HQ2 := Lib.hid (HQ1.out.later hb2)
                      have HB2 : Hid (Below B w w2) := Lib.hid (HB1.out.trans (hb2.mono (Nat.le_trans hBw HB1.out.size)))
                      have HBI2 := Lib.hid (HBI1.out.later hb2)
                      clear hb2 HQ1 HB1
                      unfold mkT
                      go_wp2_with fail
                      go_roundw
                      case rel => exact ⟨k + 1, by omega, by go_num, HQ2, HB2, HBI2⟩
                      case measure => simp [intOf]; omega
                    · have e4 : (((k : Nat) : Int) == ((L n : Nat) : Int)) = false := beq_no (by omega)
                      clear hk2
                      go_wp2_with fail
                      refine (text_any n k (by omega) (by omega) _ (HPW.out _ HB.out)).mono ?_
                      rintro e w1 ⟨rfl, hb1⟩
                      have HQ1 := Lib.hid (HQ.out.later hb1)
                      have HB1 : Hid (Below B w w1) := Lib.hid (HB.out.trans (hb1.mono (Nat.le_trans hBw HB.out.size)))
                      have HBI1 := Lib.hid (HBI.out.later hb1)
                      have m0 := cell_later hb1 m0
                      have x0 := cell_later hb1 x0
                      clear hb1 HQ HB
                      unfold mkT
                      go_wp2_with fail
                      refine (text_any n k (by omega) (by omega) _ (HPW.out _ HB1.out)).mono ?_
                      rintro e w2 ⟨rfl, hb2⟩
                      have HQ2 := Lib.hid (HQ1.out.later hb2)
                      have HB2 : Hid (Below B w w2) := Lib.hid (HB1.out.trans (hb2.mono (Nat.le_trans hBw HB1.out.size)))
                      have HBI2 := Lib.hid (HBI1.out.later hb2)
                      clear hb2 HQ1 HB1
                      unfold mkT
                      go_wp2_with fail
                      go_roundw
                      case rel => exact ⟨k + 1, by omega, by go_num, HQ2, HB2, HBI2⟩
                      case measure => simp [intOf]; omega
                · go_wp2_with fail
                  go_roundw
                  case rel => exact ⟨n + 1, by omega, by go_num, HQ, HB, HBI⟩
                  case measure => simp [intOf]; omega
            · go_wp2_with fail
              go_ret
              exact ⟨rfl, HB.out, HBI.out⟩
end Go.Proofs.YtdobaililmkkcaaGreatDoor

/- Walks of bags: one more list of texts; do the lists that were gathered lie apart? -/
namespace Go.Proofs.YtdobaililmkkcaaGreatDoor
set_option linter.unusedSimpArgs false
set_option linter.unusedVariables false
open Go.RowKit Go.Maps Culp

theorem keepN_put {a : Nat} {o : Option Nat} {w w5 : World} (hg : w.grownBy w5 o) (i : Nat) (u : Value) : KeepN a o w (w5.setCell ⟨a, i, none⟩ u) := by
  have hk : Keep a w5 (w5.setCell ⟨a, i, none⟩ u) := (Keep.refl a w5).setCell i u
  exact ⟨hk.os.trans hg.os, hk.tape.trans hg.tape, hk.output.trans hg.output, Nat.le_trans hg.size hk.size, fun k h1 h2 h3 => (hk.block k (Nat.lt_of_lt_of_le h1 hg.size) h2).trans (hg.block k h1 (fun e => h3 e.symm))⟩
theorem BagIs.free {gb : Nat} {cs : Array Value} {w : World} (h : BagIs gb cs w) (j : Nat) : w.frozen? ⟨gb, j, none⟩ = false := by
  unfold BagIs at h
  simp [World.frozen?, h]
theorem BagIs.put {gb : Nat} {cs : Array Value} {w : World} (h : BagIs gb cs w) (j : Nat) (u : Value) : BagIs gb (cs.setIfInBounds j u) (w.setCell ⟨gb, j, none⟩ u) := by
  unfold BagIs at h ⊢
  simp [World.setCell, Array.getElem?_modify, h]
/-- A bag that holds rows that lie apart, wherever they were made. -/
structure Full2 (e se : TypeId) (K g B : Nat) (R : List Value) (L : Nat → Nat) (bv : Value) (cs : Array Value) (w : World) : Prop where
  bagis : BagIs g cs w
  size : cs.size = 18
  at_ : cs[K]? = some bv
  none_ : ∀ j, j < 18 → j ≠ K → cs[j]? = some (.slice none 0 0)
  le : B ≤ w.heap.size
  bag : w.ownsRow B se 1 bv R.length R
  rows : ∀ n v, R[n]? = some v → ∃ xs, w.ownsRow B e 1 v (L n) xs
  apart : ∀ (i j : Nat) (u v : Value), i ≠ j → R[i]? = some u → R[j]? = some v → Culp.Apart u v
section
variable {e se : TypeId} {K g B : Nat} {R : List Value} {L : Nat → Nat} {bv bv' v : Value} {cs : Array Value} {w w' : World} {xs : List Value}
theorem Full2.start (hK : K < 18) (hB : B ≤ w.heap.size) : Full2 e se K w.heap.size B [] L (.slice none 0 0) #[.slice none 0 0, .slice none 0 0, .slice none 0 0, .slice none 0 0, .slice none 0 0, .slice none 0 0, .slice none 0 0, .slice none 0 0, .slice none 0 0, .slice none 0 0, .slice none 0 0, .slice none 0 0, .slice none 0 0, .slice none 0 0, .slice none 0 0, .slice none 0 0, .slice none 0 0, .slice none 0 0] (w.alloc (.cells #[.slice none 0 0, .slice none 0 0, .slice none 0 0, .slice none 0 0, .slice none 0 0, .slice none 0 0, .slice none 0 0, .slice none 0 0, .slice none 0 0, .slice none 0 0, .slice none 0 0, .slice none 0 0, .slice none 0 0, .slice none 0 0, .slice none 0 0, .slice none 0 0, .slice none 0 0, .slice none 0 0] 56)) where
  bagis := (MapKept.heap_alloc w _).1
  size := rfl
  at_ := by
    show ((List.replicate 18 (Value.slice none 0 0)).toArray)[K]? = _
    rw [List.getElem?_toArray, List.getElem?_replicate, if_pos hK]
  none_ := fun j hj _ => by
    show ((List.replicate 18 (Value.slice none 0 0)).toArray)[j]? = _
    rw [List.getElem?_toArray, List.getElem?_replicate, if_pos hj]
  le := by simp; omega
  bag := World.ownsRow_nil _ _ _ _
  rows := fun n v hv => by simp at hv
  apart := fun i j u v _ hu => by simp at hu
theorem Full2.later (h : Full2 e se K g B R L bv cs w) (hb : Below w.heap.size w w') : Full2 e se K g B R L bv cs w' :=
  { h with
    bagis := h.bagis.later hb
    le := Nat.le_trans h.le hb.size
    bag := own_later h.bag hb
    rows := fun n v hv => by
      obtain ⟨xs, hx⟩ := h.rows n v hv
      exact ⟨xs, own_later hx hb⟩ }
theorem Full2.add (h : Full2 e se K g B R L bv cs w) (hne : e ≠ se) (he : e ≠ 56) (hs : se ≠ 56) (hK : K < 18) (hv : w.ownsRow B e 1 v (L R.length) xs) (hA : ∀ u ∈ R, Culp.Apart v u)
    (ho : w'.ownsRow B se 1 bv' (R.length + 1) (R ++ [v])) (hg : w.grownBy w' bv.ownBlock) (hb : Below B w w') :
    Full2 e se K g B (R ++ [v]) L bv' (cs.setIfInBounds K bv') (w'.setCell ⟨g, K, none⟩ bv') := by
  have hk : Keep g w' (w'.setCell ⟨g, K, none⟩ bv') := (Keep.refl g w').setCell K bv'
  have hbi : BagIs g cs w' := h.bagis.grown hg (h.bagis.ne h.bag hs)
  have hst : ∀ {X : Value} {n : Nat} {ys : List Value}, w.ownsRow B e 1 X n ys → (w'.setCell ⟨g, K, none⟩ bv').ownsRow B e 1 X n ys := by
    intro X n ys hX
    have h1 := own_other hX hg (own_apart_type h.bag hX (fun he => hne he.symm))
    exact own_apart_keep h1 hk (hbi.ne h1 he)
  have hKc : K < cs.size := by rw [h.size]; exact hK
  refine
    { bagis := hbi.put K bv'
      size := by simpa using h.size
      at_ := by rw [Array.getElem?_setIfInBounds_self_of_lt hKc]
      none_ := fun j hj hn => by
        rw [Array.getElem?_setIfInBounds_ne (fun he => hn he.symm)]
        exact h.none_ j hj hn
      le := by have := hb.size; have := hk.size; have := h.le; omega
      bag := by
        rw [List.length_append, List.length_singleton]
        exact own_apart_keep ho hk (hbi.ne ho hs)
      rows := fun n u hu => ?_
      apart := fun i j u x hij hu hx => ?_ }
  · by_cases hn : n < R.length
    · rw [List.getElem?_append_left hn] at hu
      obtain ⟨ys, hy⟩ := h.rows n u hu
      exact ⟨ys, hst hy⟩
    · have hn2 := (List.getElem?_eq_some_iff.1 hu).1
      rw [List.length_append, List.length_singleton] at hn2
      obtain rfl : n = R.length := by omega
      rw [List.getElem?_append_right (Nat.le_refl _), Nat.sub_self] at hu
      simp at hu
      subst hu
      exact ⟨xs, hst hv⟩
  · have key : ∀ n y, (R ++ [v])[n]? = some y → (n < R.length ∧ R[n]? = some y) ∨ (n = R.length ∧ y = v) := by
      intro n y hy
      by_cases hn : n < R.length
      · rw [List.getElem?_append_left hn] at hy
        exact .inl ⟨hn, hy⟩
      · have hn2 := (List.getElem?_eq_some_iff.1 hy).1
        rw [List.length_append, List.length_singleton] at hn2
        obtain rfl : n = R.length := by omega
        rw [List.getElem?_append_right (Nat.le_refl _), Nat.sub_self] at hy
        simp at hy
        exact .inr ⟨rfl, hy.symm⟩
    rcases key i u hu with ⟨hi, hu'⟩ | ⟨rfl, rfl⟩
    · rcases key j x hx with ⟨hj, hx'⟩ | ⟨rfl, rfl⟩
      · exact h.apart i j u x hij hu' hx'
      · exact (hA u (List.mem_of_getElem? hu')).symm
    · rcases key j x hx with ⟨hj, hx'⟩ | ⟨rfl, rfl⟩
      · exact hA x (List.mem_of_getElem? hx')
      · exact absurd rfl hij
end
set_option maxRecDepth 100000 in
set_option maxHeartbeats 1600000 in
theorem ApartTexts_any (gb B : Nat) (R : List Value) (L : Nat → Nat) (bv : Value) (cs : Array Value) (w : World) (h : Full2 9 23 4 gb B R L bv cs w) (hM : R.length ≤ 300) (hL : ∀ n, L n ≤ 1000000) (hP : Pw w) (hpB : 4 < B) :
    Calls Tryz.prog 17 #[.pointer (some ⟨gb, 0, none⟩)] w (fun e w' => e = .returned (.bool true) ∧ Below B w w') := by
  have HL := Lib.hid hL
  have HF := Lib.hid h
  have HA := Lib.hid (apartTexts_any gb B R L bv w cs h.bagis h.at_ h.le h.bag h.rows h.apart hM hL hP hpB)
  clear h hL hP hpB
  go_enter Tryz.func17, Tryz.ntmps17
  go_wp2_with fail
  refine (apartBytes_none gb _ (HF.out.bagis.cell (HF.out.none_ 0 (by decide) (by decide)))).mono ?_
  rintro e w' ⟨rfl, rfl⟩
  go_wp2_with fail
  refine (apartInts_none gb _ (HF.out.bagis.cell (HF.out.none_ 1 (by decide) (by decide)))).mono ?_
  rintro e w' ⟨rfl, rfl⟩
  go_wp2_with fail
  refine (apartLongs_none gb _ (HF.out.bagis.cell (HF.out.none_ 2 (by decide) (by decide)))).mono ?_
  rintro e w' ⟨rfl, rfl⟩
  go_wp2_with fail
  refine (apartBools_none gb _ (HF.out.bagis.cell (HF.out.none_ 3 (by decide) (by decide)))).mono ?_
  rintro e w' ⟨rfl, rfl⟩
  go_wp2_with fail
  refine HA.out.mono ?_
  rintro e w1 ⟨rfl, hb1, hi1⟩
  have HB1 := Lib.hid hb1
  have HI1 := Lib.hid hi1
  clear hb1 HA hi1
  go_wp2_with fail
  refine (apartNodes_none gb _ (HI1.out.cell (HF.out.none_ 5 (by decide) (by decide)))).mono ?_
  rintro e w' ⟨rfl, rfl⟩
  go_wp2_with fail
  refine (apartCos_none gb _ (HI1.out.cell (HF.out.none_ 6 (by decide) (by decide)))).mono ?_
  rintro e w' ⟨rfl, rfl⟩
  go_wp2_with fail
  refine (apartSeen_none gb _ (HI1.out.cell (HF.out.none_ 7 (by decide) (by decide)))).mono ?_
  rintro e w' ⟨rfl, rfl⟩
  go_wp2_with fail
  refine (apartSites_none gb _ (HI1.out.cell (HF.out.none_ 8 (by decide) (by decide)))).mono ?_
  rintro e w' ⟨rfl, rfl⟩
  go_wp2_with fail
  refine (apartIns_none gb _ (HI1.out.cell (HF.out.none_ 9 (by decide) (by decide)))).mono ?_
  rintro e w' ⟨rfl, rfl⟩
  go_wp2_with fail
  refine (apartImports_none gb _ (HI1.out.cell (HF.out.none_ 10 (by decide) (by decide)))).mono ?_
  rintro e w' ⟨rfl, rfl⟩
  go_wp2_with fail
  refine (apartTraps_none gb _ (HI1.out.cell (HF.out.none_ 11 (by decide) (by decide)))).mono ?_
  rintro e w' ⟨rfl, rfl⟩
  go_wp2_with fail
  refine (apartRows_none gb _ (HI1.out.cell (HF.out.none_ 12 (by decide) (by decide)))).mono ?_
  rintro e w' ⟨rfl, rfl⟩
  go_wp2_with fail
  refine (apartDefs_none gb _ (HI1.out.cell (HF.out.none_ 13 (by decide) (by decide)))).mono ?_
  rintro e w' ⟨rfl, rfl⟩
  go_wp2_with fail
  refine (apartModules_none gb _ (HI1.out.cell (HF.out.none_ 14 (by decide) (by decide)))).mono ?_
  rintro e w' ⟨rfl, rfl⟩
  go_wp2_with fail
  refine (apartFunctions_none gb _ (HI1.out.cell (HF.out.none_ 15 (by decide) (by decide)))).mono ?_
  rintro e w' ⟨rfl, rfl⟩
  go_wp2_with fail
  refine (apartWaits_none gb _ (HI1.out.cell (HF.out.none_ 16 (by decide) (by decide)))).mono ?_
  rintro e w' ⟨rfl, rfl⟩
  go_wp2_with fail
  refine (apartTrees_none gb _ (HI1.out.cell (HF.out.none_ 17 (by decide) (by decide)))).mono ?_
  rintro e w' ⟨rfl, rfl⟩
  go_wp2_with fail
  go_ret
  exact ⟨rfl, HB1.out⟩
/-- What a bag is after one more list. -/
def AddRes (gb B : Nat) (R : List Value) (L : Nat → Nat) (o : Option Nat) (v : Value) (w : World) (e : Ending) (w' : World) : Prop :=
  e = .returned (.tuple #[]) ∧ ∃ bv' cs', Full2 9 23 4 gb B (R ++ [v]) L bv' cs' w' ∧ KeepN gb o w w' ∧ (bv'.ownBlock = o ∨ ∃ b, bv'.ownBlock = some b ∧ w.heap.size ≤ b)
set_option maxRecDepth 100000 in
set_option maxHeartbeats 1600000 in
theorem AddTexts_any (gb B : Nat) (R : List Value) (L : Nat → Nat) (bv v : Value) (cs : Array Value) (xs : List Value) (w : World) (h : Full2 9 23 4 gb B R L bv cs w) (hv : w.ownsRow B 9 1 v (L R.length) xs) (hA : ∀ u ∈ R, Culp.Apart v u) (hR : R.length < 300) :
    Calls Tryz.prog 16 #[.pointer (some ⟨gb, 0, none⟩), v] w (AddRes gb B R L bv.ownBlock v w) := by
  have c1 := h.bagis.cell h.at_
  have f1 := h.bagis.free 4
  have HF := Lib.hid h
  have HV := Lib.hid hv
  have HA := Lib.hid hA
  have own4 := h.bag
  have hB := h.le
  obtain ⟨Av, cv, rfl⟩ := own_shape hv
  obtain ⟨Ab, cb, rfl⟩ := own_shape h.bag
  have hR2 : R.length < 300 := hR
  clear h hv hA
  go_enter Tryz.func16, Tryz.ntmps16
  go_wp2_with (at_builtin; refine append_agg_at rfl (.tmp 14) (.tmp 16) 41 23 rfl B _ 1 24 Tryz.underlying41 stexts_info rfl (by decide) _ _ _ rfl own4 [.slice Av (L R.length) cv] rfl w.heap.size rfl rfl ?_ ?_ ?_ hB ?_)
  · first
      | rfl
      | (intro y hy; simp only [List.mem_cons, List.not_mem_nil, or_false] at hy; subst hy; rfl)
  · omega
  · omega
  intro bv' w5 hown' hg' hb' hat
  have hF5 := HF.out.add (by decide) (by decide) (by decide) (by decide) HV.out HA.out hown' hg' hb'
  have h5 : BagIs gb cs w5 := HF.out.bagis.grown hg' (HF.out.bagis.ne HF.out.bag (by decide))
  obtain ⟨A5, k5, rfl⟩ := own_shape hown'
  have c5 := h5.cell HF.out.at_
  have f5 := h5.free 4
  have HR : Hid (AddRes gb B R L (Value.slice Ab R.length cb).ownBlock (.slice Av (L R.length) cv) w (.returned (.tuple #[])) (w5.setCell ⟨gb, 4, none⟩ (.slice A5 (R.length + 1) k5))) := Lib.hid ⟨rfl, _, _, hF5, keepN_put hg' 4 _, by
    rcases hat with e | e
    · exact .inl e
    · exact .inr ⟨_, e, Nat.le_succ _⟩⟩
  clear hown' hg' hb' hat own4 h5 hF5 c1 f1
  go_wp2_with fail
  exact bodyPost_end (v := .tuple #[]) (by simp [results, Tryz.results16, go_sem]) rfl HR.out
end Go.Proofs.YtdobaililmkkcaaGreatDoor

/- Walks: lists of texts that are made, with marks behind them. -/
namespace Go.Proofs.YtdobaililmkkcaaGreatDoor
set_option linter.unusedSimpArgs false
set_option linter.unusedVariables false
open Go.RowKit Go.Maps Culp
/-- Texts that lie in a block from its beginning on. -/
def TxtsAt (w : World) (g : Nat) (M : List ByteArray) : Prop := ∀ (j : Nat) (s : ByteArray), M[j]? = some s → w.cell? ⟨g, j, none⟩ = some (.string s)
theorem TxtsAt.later {w w' : World} {g : Nat} {M : List ByteArray} (h : TxtsAt w g M) (hb : Below w.heap.size w w') : TxtsAt w' g M := fun j s hj => cell_later hb (h j s hj)
theorem TxtsAt.txts {w : World} {g n c : Nat} {L M : List ByteArray} (h : TxtsAt w g (L ++ M)) (hn : n = L.length) (hc : L.length ≤ c) : Txts w (.slice (some ⟨g, 0, none⟩) n c) L := by
  subst hn
  refine ⟨_, c, rfl, hc, fun _ => ⟨g, 0, rfl, fun j s hj => ?_⟩⟩
  rw [Nat.zero_add]
  exact h j s (by rw [List.getElem?_append_left (List.getElem?_eq_some_iff.1 hj).1]; exact hj)
def marksT (n : Nat) : List ByteArray := (List.range 64).map fun k => txt 9 (n + k)
theorem marksT_at {L : List ByteArray} {i : Nat} (h1 : L.length ≤ i) (h2 : i < L.length + 64) : (L ++ marksT L.length)[i]? = some (txt 9 i) := by
  rw [List.getElem?_append_right h1]
  unfold marksT
  rw [List.getElem?_map, List.getElem?_range (by omega)]
  simp only [Option.map_some, Option.some.injEq]
  congr 1
  omega
def RowT (R N : Nat) (w : World) : Prop := ∃ cs : Array Value, w.heap[R]? = some (.cells cs 9 (0, 0)) ∧ cs.size = N
theorem RowT.cell {R N : Nat} {w : World} (h : RowT R N w) {i : Nat} (hi : i < N) : ∃ v, w.cell? ⟨R, i, none⟩ = some v := by
  obtain ⟨cs, h1, h2⟩ := h
  exact ⟨cs[i]'(by omega), by simp [World.cell?, h1, show i < cs.size by omega]⟩
theorem RowT.free {R N : Nat} {w : World} (h : RowT R N w) (i : Nat) : w.frozen? ⟨R, i, none⟩ = false := by
  obtain ⟨cs, h1, _⟩ := h
  simp [World.frozen?, h1]
theorem RowT.set {R N : Nat} {w : World} (h : RowT R N w) (i : Nat) (u : Value) : RowT R N (w.setCell ⟨R, i, none⟩ u) := by
  obtain ⟨cs, h1, h2⟩ := h
  exact ⟨cs.setIfInBounds i u, by simp [World.setCell, Array.getElem?_modify, h1], by simpa using h2⟩
theorem RowT.later {R N : Nat} {w w' : World} (h : RowT R N w) (hb : Below w.heap.size w w') : RowT R N w' := by
  obtain ⟨cs, h1, h2⟩ := h
  exact ⟨cs, (hb.block R (Array.getElem?_eq_some_iff.1 h1).1).trans h1, h2⟩
theorem TxtsAt.put {w : World} {R N k : Nat} {s : ByteArray} {M : List ByteArray} (hr : RowT R N w) (hk : k < N) (h : TxtsAt w R (M.take k)) (hx : M[k]? = some s) : TxtsAt (w.setCell ⟨R, k, none⟩ (.string s)) R (M.take (k + 1)) := by
  intro i y hy
  rw [List.getElem?_take] at hy
  split at hy
  · rename_i hik
    rcases Nat.lt_or_ge i k with hlt | hge
    · have hy' : (M.take k)[i]? = some y := by rw [List.getElem?_take, if_pos hlt]; exact hy
      have h0 := h i y hy'
      rw [World.cell?_setCell_other]
      · exact h0
      · simp only [ne_eq, Addr.mk.injEq, true_and, and_true]; omega
    · obtain rfl : i = k := by omega
      rw [hx] at hy
      cases hy
      obtain ⟨v, hv⟩ := hr.cell hk
      exact World.cell?_setCell_same _ _ _ hv
  · cases hy
/-- A list of its own, with marks behind it. -/
def WideT (L : List ByteArray) (w : World) (e : Ending) (w' : World) : Prop := ∃ g, e = .returned (.slice (some ⟨g, 0, none⟩) L.length (L.length + 64 : Nat)) ∧ TxtsAt w' g (L ++ marksT L.length) ∧ Below w.heap.size w w'
set_option maxRecDepth 100000 in
set_option maxHeartbeats 3200000 in
theorem WideTexts_any (L : List ByteArray) (tv : Value) (w : World) (hn : Txts w tv L) (hL : L.length ≤ 1000000000) (hP : Pw w) : Calls Tryz.prog 14 #[tv] w (WideT L w) := by
  have HN := Lib.hid hn
  have HP := Lib.hid hP
  obtain ⟨A, c, rfl, hlc, _⟩ := hn
  obtain ⟨i0, hi, hz0, hz1, hz2⟩ := info_parts strings_info
  clear hP
  go_enter Tryz.func14, Tryz.ntmps14
  go_wp2_with (refine wpList_make_full _ rfl (.tmp 7) (.tmp 7) 23 rfl w.heap.size 9 i0 _ 1 Tryz.underlying23 hi hz0 hz1 .i64 .i64 ((L.length : Int) + 64) ((L.length : Int) + 64) (L.length + 64) rfl rfl (by omega) (by omega) (by rw [hz2]; omega) (by unfold maxLen; omega) (Nat.le_refl _) ?_)
  intro w1 hown hgr
  have hrow : RowT w.heap.size (L.length + 64) w1 := by
    rcases hown.2 with ⟨h1, _⟩ | ⟨g, cap, cur, h1, _, h2, _, _, h3, _⟩
    · cases h1
    · simp only [Value.slice.injEq, Option.some.injEq, Addr.mk.injEq] at h1
      obtain ⟨⟨rfl, _⟩, _, rfl⟩ := h1
      exact ⟨cur, h2, by omega⟩
  have hb1 : Below w.heap.size w w1 := (Below.refl _ _).grown hgr (Nat.le_refl _) fun k hk => by cases hk
  have HR := Lib.hid hrow
  have HB := Lib.hid hb1
  clear hown hgr hrow hb1
  go_wp2_with fail
  go_loopw [4] (fun i wr => ∃ k : Nat, k ≤ L.length + 64 ∧ i = .int .i64 k ∧ Hid (RowT w.heap.size (L.length + 64) wr) ∧ Hid (TxtsAt wr w.heap.size ((L ++ marksT L.length).take k)) ∧ Hid (Below w.heap.size w wr)) (fun i _ => L.length + 64 - (intOf i).toNat)
  case atStart => exact ⟨0, by omega, rfl, HR, Lib.hid (by intro i x hx; simp at hx), HB⟩
  case round =>
    obtain ⟨k, hk, rfl, HRr, HNr, HBr⟩ := hrel
    by_cases hlt : k < L.length + 64
    · by_cases hkT : k < L.length
      · obtain ⟨v0, r0⟩ := HRr.out.cell hlt
        have f0 := HRr.out.free k
        obtain ⟨g2, o2, c2, e2, n0⟩ := (HN.out.later HBr.out).at_ hkT
        simp only [Value.slice.injEq] at e2
        obtain ⟨rfl, -, rfl⟩ := e2
        have hx2 := Lib.hid (List.getElem?_eq_getElem hkT)
        generalize L[k] = x at *
        have HR2 := Lib.hid (HRr.out.set k (.string x))
        have HN2 := Lib.hid (TxtsAt.put HRr.out hlt HNr.out (s := x) (by rw [List.getElem?_append_left hkT]; exact hx2.out))
        have HB2 := Lib.hid (HBr.out.setCell (p := ⟨w.heap.size, k, none⟩) (Nat.le_refl _) (.string x))
        go_wp2_with fail
        go_roundw
        case rel => exact ⟨k + 1, by omega, by go_num, HR2, HN2, HB2⟩
        case measure => simp [intOf]; omega
      · have HMX := Lib.hid (marksT_at (L := L) (i := k) (by omega) hlt)
        have HTX := Lib.hid (text_any 9 k (by decide) (by omega) wr (HP.out.later HBr.out HP.out.lt))
        unfold mkT at HTX
        go_wp2_with fail
        refine HTX.out.mono ?_
        rintro e w2 ⟨rfl, hb2⟩
        have HRt := Lib.hid (HRr.out.later hb2)
        have HNt := Lib.hid (HNr.out.later hb2)
        have HBt := Lib.hid (below_later hb2 HBr.out)
        obtain ⟨v0, r0⟩ := HRt.out.cell hlt
        have f0 := HRt.out.free k
        have HR2 := Lib.hid (HRt.out.set k (.string (txt 9 k)))
        have HN2 := Lib.hid (TxtsAt.put HRt.out hlt HNt.out HMX.out)
        have HB2 := Lib.hid (HBt.out.setCell (p := ⟨w.heap.size, k, none⟩) (Nat.le_refl _) (.string (txt 9 k)))
        clear hb2 HTX HMX HRr HNr HBr
        generalize txt 9 k = tx at *
        go_wp2_with fail
        go_roundw
        case rel => exact ⟨k + 1, by omega, by go_num, HR2, HN2, HB2⟩
        case measure => simp [intOf]; omega
    · obtain rfl : k = L.length + 64 := by omega
      have HN2 : Hid (TxtsAt wr w.heap.size (L ++ marksT L.length)) := by
        have := HNr.out
        rw [List.take_of_length_le (by simp [marksT])] at this
        exact this
      go_wp2_with fail
      go_ret
      exact ⟨_, rfl, HN2.out, HBr.out⟩
set_option maxRecDepth 100000 in
set_option maxHeartbeats 1600000 in
theorem SpareTexts_any (L : List ByteArray) (g : Nat) (w : World) (hn : TxtsAt w g (L ++ marksT L.length)) (hL : L.length ≤ 1000000000) (hP : Pw w) : Calls Tryz.prog 20 #[.slice (some ⟨g, 0, none⟩) L.length (L.length + 64 : Nat)] w (Makes (.bool true) w) := by
  have HN := Lib.hid hn
  have HP := Lib.hid hP
  clear hn hP
  go_enter Tryz.func20, Tryz.ntmps20
  go_wp2_with fail
  go_loopw [4] (fun i wr => ∃ k : Nat, L.length ≤ k ∧ k ≤ L.length + 64 ∧ i = .int .i64 k ∧ Hid (Below w.heap.size w wr)) (fun i _ => L.length + 64 - (intOf i).toNat)
  case atStart => exact ⟨L.length, by omega, by omega, rfl, Lib.hid (Below.refl _ _)⟩
  case round =>
    obtain ⟨k, hk0, hk, rfl, HB⟩ := hrel
    by_cases hlt : k < L.length + 64
    · have n0 := (HN.out.later HB.out) k _ (marksT_at hk0 hlt)
      have HTX := Lib.hid (text_any 9 k (by decide) (by omega) wr (HP.out.later HB.out HP.out.lt))
      unfold mkT at HTX
      generalize txt 9 k = tx at *
      go_wp2_with fail
      refine HTX.out.mono ?_
      rintro e w2 ⟨rfl, hb2⟩
      have HB2 := Lib.hid (below_later hb2 HB.out)
      clear hb2 HTX n0
      go_wp2_with fail
      go_roundw
      case rel => exact ⟨k + 1, by omega, by omega, by go_num, HB2⟩
      case measure => simp [intOf]; omega
    · go_wp2_with fail
      go_ret
      exact Makes.mk rfl HB.out
end Go.Proofs.YtdobaililmkkcaaGreatDoor

/- The walks of the statements TreeArities and TreeChecks. -/
namespace Go.Proofs.YtdobaililmkkcaaGreatDoor
set_option linter.unusedSimpArgs false
set_option linter.unusedVariables false
open Go.RowKit Go.Maps Culp

theorem wide_nodes {T : List Nd} {g : Nat} {w : World} (h : NodesAt w g 0 (T ++ marks T.length)) : Nodes w (.slice (some ⟨g, 0, none⟩) T.length (T.length + 64 : Nat)) T :=
  ⟨_, _, rfl, by omega, fun _ => ⟨g, 0, rfl, fun i x hx j u hu => h i x (by rw [List.getElem?_append_left (List.getElem?_eq_some_iff.1 hx).1]; exact hx) j u hu⟩⟩
theorem arV_is (k : Int) : arV k = .tuple #[.int .i64 (max (Tr.arit k) 0), .bool (decide (0 ≤ Tr.arit k))] := by
  unfold arV
  split
  · rename_i h
    rw [Int.max_eq_left h, decide_eq_true h]
  · rename_i h
    rw [Int.max_eq_right (by omega), decide_eq_false h]
end Go.Proofs.YtdobaililmkkcaaGreatDoor

/- The walk of the statement CheckExprs. -/
namespace Go.Proofs.YtdobaililmkkcaaGreatDoor
set_option linter.unusedSimpArgs false
set_option linter.unusedVariables false
open Go.RowKit Go.Maps Culp
theorem wide_nodes' {w : World} {g : Nat} {T : List Nd} (h : NodesAt w g 0 (T ++ marks T.length)) : Nodes w (.slice (some ⟨g, 0, none⟩) T.length (T.length + 64 : Nat)) T :=
  ⟨some ⟨g, 0, none⟩, T.length + 64, rfl, by omega, fun _ => ⟨g, 0, rfl, fun i x hx j u hu => h i x (by rw [List.getElem?_append_left (List.getElem?_eq_some_iff.1 hx).1]; exact hx) j u hu⟩⟩
theorem keepN_own' {gb : Nat} {o : Option Nat} {w w' : World} {cs : Array Value} {B C n m : Nat} {bv v : Value} {xs ys : List Value} (k : KeepN gb o w w') (hb : BagIs gb cs w) (hbv : w.ownsRow B 23 1 bv m ys) (ho : bv.ownBlock = o) (h : w.ownsRow C 9 1 v n xs) : w'.ownsRow C 9 1 v n xs :=
  k.own h (hb.ne h (by decide)) fun g hg he => by
    subst ho
    exact own_apart_type h hbv (by decide) g hg he
/-- What both sides answer: texts (none, if it is refused), the error, the place. -/
structure Ans (T : List Nd) (N S : List ByteArray) (M : List ByteArray) (e p : Int) : Prop where
  len : M.length ≤ 1000000
  prog : ∀ (tv nv sv : Value) (w : World), Nodes w tv T → Txts w nv N → Txts w sv S → Sp w → Tab w → Calls Tryz.prog 9 #[tv, nv, sv] w (fun E w' => ∃ v, E = .returned (.tuple #[v, .int .i64 e, .int .i64 p]) ∧ w'.ownsRow w.heap.size 9 1 v M.length (M.map Value.string) ∧ Below w.heap.size w w')
  doc : ∀ (tv nv sv : Value) (w : World), Nodes w tv T → Txts w nv N → Txts w sv S → Sp w → Calls Tryz.prog 15 #[tv, nv, sv] w (fun E w' => ∃ v, E = .returned (.tuple #[v, .int .i64 e, .int .i64 p]) ∧ w'.ownsRow w.heap.size 9 1 v M.length (M.map Value.string) ∧ Below w.heap.size w w')
theorem slenM {x : Nd} {ks : Tr.F} {E : Tr.Env} {p : Nat} {ts : List Ty} (h : Tr.chk1 false x ks E p = .ok ts) : ts.length = 1 + ks.flat.length := by
  unfold Tr.chk1 at h
  cases hc : Tr.chk false (.cons x ks .nil) (fun _ => E) 0 p with
  | error b => rw [hc] at h; cases h
  | ok K =>
    rw [hc] at h
    injection h with h
    subst h
    have := Tr.F.chk_len false _ _ _ _ K hc
    simp only [Tr.F.flat, List.append_nil, List.length_cons] at this
    omega
theorem nil_own {w w' : World} (e : TypeId) : w'.ownsRow w.heap.size e 1 (.slice none 0 0) ([] : List ByteArray).length (([] : List ByteArray).map Value.string) := World.ownsRow_nil _ _ _ _
theorem ans_of (T : List Nd) (N S : List ByteArray) (hz : ∀ s ∈ N, s.size ≤ 140737488351232) (hNl : N.length ≤ 100) (hzT : ∀ x ∈ T, x.s.size ≤ 140737488351232) (hkT : ∀ x ∈ T, x.kids ≤ 9223372036854775807) : ∃ M e p, Ans T N S M e p := by
  rcases ex_cases T N S with ⟨e, p, _, hbad⟩ | ⟨x, ks, hgood⟩
  · refine ⟨[], e, p, by simp, fun tv nv sv w hn hN hS hSp hTab => ?_, fun tv nv sv w hn hN hS hSp => ?_⟩
    · exact (Expr_bad T tv nv sv N S w hn hN hS hSp hz (by omega) hzT hkT hbad).mono fun E w' ⟨h1, h2⟩ => ⟨_, h1, nil_own _, h2⟩
    · exact (rExpr_bad T tv nv sv N S w hn hN hS hSp hz (by omega) hzT hkT hbad).mono fun E w' ⟨h1, h2⟩ => ⟨_, h1, nil_own _, h2⟩
  · cases hR : Tr.chk1 false x ks (envTo N S N.length) 0 with
    | error b =>
      refine ⟨[], b.1, b.2, by simp, fun tv nv sv w hn hN hS hSp hTab => ?_, fun tv nv sv w hn hN hS hSp => ?_⟩
      · have := Expr_good T tv nv sv N S w hn hN hS hSp hz (by omega) hTab hzT hkT hgood
        rw [hR] at this
        exact this.mono fun E w' ⟨_, h1, h2⟩ => ⟨_, h1, nil_own _, h2⟩
      · have := rExpr_good T tv nv sv N S w hn hN hS hSp hz (by omega) hzT hkT hgood
        rw [hR] at this
        exact this.mono fun E w' ⟨_, h1, h2⟩ => ⟨_, h1, nil_own _, h2⟩
    | ok ts =>
      have hl := slenM hR
      have hT : T.length = 1 + ks.flat.length := by rw [hgood.2.1]; simp; omega
      have h4 : T.length ≤ 4096 := hgood.2.2.2.2.2.1
      refine ⟨ts.map Ty.str, 0, 0, by rw [List.length_map]; omega, fun tv nv sv w hn hN hS hSp hTab => ?_, fun tv nv sv w hn hN hS hSp => ?_⟩
      · have := Expr_good T tv nv sv N S w hn hN hS hSp hz (by omega) hTab hzT hkT hgood
        rw [hR] at this
        exact this.mono fun E w' ⟨v, h1, h2, h3⟩ => ⟨v, h1, by rw [List.length_map, List.map_map]; exact h2, h3⟩
      · have := rExpr_good T tv nv sv N S w hn hN hS hSp hz (by omega) hzT hkT hgood
        rw [hR] at this
        exact this.mono fun E w' ⟨v, h1, h2, h3⟩ => ⟨v, h1, by rw [List.length_map, List.map_map]; exact h2, h3⟩
set_option maxRecDepth 100000 in
set_option maxHeartbeats 6400000 in
theorem exprs_law (T : List Nd) (N S : List ByteArray) (tv nv sv : Value) (w : World) (hn : Nodes w tv T) (hN : Txts w nv N) (hS : Txts w sv S) (hSp : Sp w) (hTab : Tab w) (hPw : Pw w) (hz : ∀ s ∈ N, s.size ≤ 140737488351232) (hzT : ∀ x ∈ T, x.s.size ≤ 140737488351232) (hkT : ∀ x ∈ T, x.kids ≤ 9223372036854775807) :
    Calls Tryz.prog 4 #[.agg #[tv, nv, sv]] w (Makes (.bool true) w) := by
  have HN := Lib.hid hn
  have HNN := Lib.hid hN
  have HSS := Lib.hid hS
  have HSP := Lib.hid hSp
  have HTB := Lib.hid hTab
  have HPW := Lib.hid hPw
  have HZ := Lib.hid hz
  have HZT := Lib.hid hzT
  have HKT := Lib.hid hkT
  obtain ⟨A, C, rfl, hlc, hNN⟩ := hn
  obtain ⟨A2, C2, rfl⟩ := hN.form
  obtain ⟨A3, C3, rfl⟩ := hS.form
  have hb1 : Below w.heap.size w (w.alloc (.cells #[.slice A T.length C, .slice A2 N.length C2, .slice A3 S.length C3] 25)) := (Below.refl _ _).alloc (Nat.le_refl _) _
  have HB1 := Lib.hid hb1
  have HBX : Hid (((w.alloc (.cells #[.slice A T.length C, .slice A2 N.length C2, .slice A3 S.length C3] 25))).heap[w.heap.size]? = some (.cells #[.slice A T.length C, .slice A2 N.length C2, .slice A3 S.length C3] 25 (0, 0))) := Lib.hid (MapKept.heap_alloc w _).1
  clear hN hS hSp hTab hPw hz hzT hkT hNN hb1
  go_enter Tryz.func4, Tryz.ntmps4
  go_wp2_with fail
  generalize (w.alloc (.cells #[.slice A T.length C, .slice A2 N.length C2, .slice A3 S.length C3] 25)) = w1 at *
  refine (cworks_any _ (HSP.out.later HB1.out) (HTB.out.later HB1.out)).mono ?_
  rintro E w2 ⟨rfl, hb2⟩
  have HB2 := Lib.hid (below_later hb2 HB1.out)
  have hbk : w2.heap[w.heap.size]? = _ := (hb2.block w.heap.size (Array.getElem?_eq_some_iff.1 HBX.out).1).trans HBX.out
  have HBX2 := Lib.hid hbk
  have k0 : w2.cell? ⟨w.heap.size, 0, none⟩ = some (.slice A T.length C) := by simp [World.cell?, hbk]
  have k1 : w2.cell? ⟨w.heap.size, 1, none⟩ = some (.slice A2 N.length C2) := by simp [World.cell?, hbk]
  have k2 : w2.cell? ⟨w.heap.size, 2, none⟩ = some (.slice A3 S.length C3) := by simp [World.cell?, hbk]
  clear hb2 hbk HB1 HBX
  go_wp2_with fail
  refine (clong_any T N S A A2 A3 C C2 C3 _).mono ?_
  rintro E w3 ⟨rfl, hb3⟩
  have HB3 := Lib.hid (below_later hb3 HB2.out)
  have l0 := cell_later hb3 k0
  have l1 := cell_later hb3 k1
  have l2 := cell_later hb3 k2
  have HBX3 : Hid (w3.heap[w.heap.size]? = some (.cells #[.slice A T.length C, .slice A2 N.length C2, .slice A3 S.length C3] 25 (0, 0))) := Lib.hid ((hb3.block w.heap.size (Array.getElem?_eq_some_iff.1 HBX2.out).1).trans HBX2.out)
  clear hb3 HB2 k0 k1 k2 HBX2
  cases hlg : (decide (400 < T.length) || decide (100 < N.length) || decide (100 < S.length)) with
  | true =>
    go_wp2_with fail
    go_ret
    exact Makes.mk rfl HB3.out
  | false =>
    have hTl : T.length ≤ 400 := by
      simp only [Bool.or_eq_false_iff, decide_eq_false_iff_not] at hlg
      omega
    have hNl : N.length ≤ 100 := by
      simp only [Bool.or_eq_false_iff, decide_eq_false_iff_not] at hlg
      omega
    have hSl : S.length ≤ 100 := by
      simp only [Bool.or_eq_false_iff, decide_eq_false_iff_not] at hlg
      omega
    clear hlg
    obtain ⟨M, ee, pp, hans⟩ := ans_of T N S HZ.out hNl HZT.out HKT.out
    have HAN := Lib.hid hans
    have hMl : M.length ≤ 1000000 := hans.len
    clear hans
    go_wp2_with fail
    refine (WideNodes_any T _ _ (HN.out.later HB3.out) (by omega)).mono ?_
    rintro E w4 ⟨gl, rfl, hw4, hb4⟩
    have HB4 := Lib.hid (below_later hb4 HB3.out)
    have HBX4 : Hid (w4.heap[w.heap.size]? = some (.cells #[.slice A T.length C, .slice A2 N.length C2, .slice A3 S.length C3] 25 (0, 0))) := Lib.hid ((hb4.block w.heap.size (Array.getElem?_eq_some_iff.1 HBX3.out).1).trans HBX3.out)
    have HW4 := Lib.hid hw4
    have l0 := cell_later hb4 l0
    have l1 := cell_later hb4 l1
    have l2 := cell_later hb4 l2
    clear hw4 hb4 HB3
    go_wp2_with fail
    refine (WideTexts_any N _ _ (HNN.out.later HB4.out) (by omega) (HPW.out.later HB4.out HPW.out.lt)).mono ?_
    rintro E w5 ⟨gn, rfl, ht5, hb5⟩
    have HB5 := Lib.hid (below_later hb5 HB4.out)
    have HBX5 : Hid (w5.heap[w.heap.size]? = some (.cells #[.slice A T.length C, .slice A2 N.length C2, .slice A3 S.length C3] 25 (0, 0))) := Lib.hid ((hb5.block w.heap.size (Array.getElem?_eq_some_iff.1 HBX4.out).1).trans HBX4.out)
    have HW5 := Lib.hid (HW4.out.later hb5)
    have HT5 := Lib.hid ht5
    have l0 := cell_later hb5 l0
    have l1 := cell_later hb5 l1
    have l2 := cell_later hb5 l2
    clear ht5 hb5 HB4 HW4
    go_wp2_with fail
    refine (WideTexts_any S _ _ (HSS.out.later HB5.out) (by omega) (HPW.out.later HB5.out HPW.out.lt)).mono ?_
    rintro E w6 ⟨gs, rfl, hu6, hb6⟩
    have HB6 := Lib.hid (below_later hb6 HB5.out)
    have HBX6 : Hid (w6.heap[w.heap.size]? = some (.cells #[.slice A T.length C, .slice A2 N.length C2, .slice A3 S.length C3] 25 (0, 0))) := Lib.hid ((hb6.block w.heap.size (Array.getElem?_eq_some_iff.1 HBX5.out).1).trans HBX5.out)
    have HW6 := Lib.hid (HW5.out.later hb6)
    have HT6 := Lib.hid (HT5.out.later hb6)
    have HU6 := Lib.hid hu6
    have l0 := cell_later hb6 l0
    have l1 := cell_later hb6 l1
    have l2 := cell_later hb6 l2
    clear hu6 hb6 HB5 HW5 HT5
    go_wp2_with fail
    refine (HAN.out.prog _ _ _ _ (wide_nodes' HW6.out) (HT6.out.txts rfl (by omega)) (HU6.out.txts rfl (by omega)) (HSP.out.later HB6.out) (HTB.out.later HB6.out)).mono ?_
    rintro E w7 ⟨va, rfl, ho7, hb7⟩
    have HB7 := Lib.hid (below_later hb7 HB6.out)
    have HK7 := Lib.hid hb7
    have HA7 := Lib.hid ho7
    have HT7 : Hid (TxtsAt w7 gn (N ++ marksT N.length)) := Lib.hid (HT6.out.later hb7)
    have HU7 : Hid (TxtsAt w7 gs (S ++ marksT S.length)) := Lib.hid (HU6.out.later hb7)
    have HW7 := Lib.hid (HW6.out.later hb7)
    have l0 := cell_later hb7 l0
    have l1 := cell_later hb7 l1
    have l2 := cell_later hb7 l2
    obtain ⟨Aa, ca, rfl⟩ := own_shape ho7
    clear ho7 hb7
    go_wp2_with fail
    refine (HAN.out.prog _ _ _ _ (wide_nodes' HW7.out) (HT7.out.txts rfl (by omega)) (HU7.out.txts rfl (by omega)) (HSP.out.later HB7.out) (HTB.out.later HB7.out)).mono ?_
    rintro E w8 ⟨vb, rfl, ho8, hb8⟩
    have HAP : Hid (Culp.Apart vb (.slice Aa M.length ca)) := Lib.hid (apart_base ho8 fun g hg => (HA7.out.lt g hg).2)
    have HA8 := Lib.hid (own_later HA7.out hb8)
    have HV8 : Hid (w8.ownsRow w6.heap.size 9 1 vb M.length (M.map Value.string)) := Lib.hid (own_base ho8 HK7.out.size)
    have HK8 := Lib.hid (below_later hb8 HK7.out)
    have HB8 := Lib.hid (below_later hb8 HB7.out)
    have l0 := cell_later hb8 l0
    have l1 := cell_later hb8 l1
    have l2 := cell_later hb8 l2
    obtain ⟨Ab, cb, rfl⟩ := own_shape ho8
    clear ho8 hb8 HA7 HK7 HB7 HT7 HU7 HW7
    go_wp2_with fail
    refine (HAN.out.doc _ _ _ _ (HN.out.later HB8.out) (HNN.out.later HB8.out) (HSS.out.later HB8.out) (HSP.out.later HB8.out)).mono ?_
    rintro E w9 ⟨vr, rfl, ho9, hb9⟩
    have HR9 := Lib.hid (own_base ho9 (show w6.heap.size ≤ w8.heap.size from HK8.out.size))
    have HA9 := Lib.hid (own_later HA8.out hb9)
    have HV9 := Lib.hid (own_later HV8.out hb9)
    have HK9 := Lib.hid (below_later hb9 HK8.out)
    have HB9 := Lib.hid (below_later hb9 HB8.out)
    obtain ⟨Ar, cr, rfl⟩ := own_shape ho9
    clear ho9 hb9 HA8 HV8 HK8 HB8 l0 l1 l2
    go_wp2_with fail
    have hb5 : Below w9.heap.size w9 (w9.alloc (.cells #[.slice none 0 0, .slice none 0 0, .slice none 0 0, .slice none 0 0, .slice none 0 0, .slice none 0 0, .slice none 0 0, .slice none 0 0, .slice none 0 0, .slice none 0 0, .slice none 0 0, .slice none 0 0, .slice none 0 0, .slice none 0 0, .slice none 0 0, .slice none 0 0, .slice none 0 0, .slice none 0 0] 56)) := (Below.refl _ _).alloc (Nat.le_refl _) _
    have HF5 : Hid (Full2 9 23 4 w9.heap.size w6.heap.size [] (fun _ => M.length) (.slice none 0 0) _ (w9.alloc (.cells #[.slice none 0 0, .slice none 0 0, .slice none 0 0, .slice none 0 0, .slice none 0 0, .slice none 0 0, .slice none 0 0, .slice none 0 0, .slice none 0 0, .slice none 0 0, .slice none 0 0, .slice none 0 0, .slice none 0 0, .slice none 0 0, .slice none 0 0, .slice none 0 0, .slice none 0 0, .slice none 0 0] 56))) := Lib.hid (Full2.start (by decide) HK9.out.size)
    have HA5 := Lib.hid (own_later HA9.out hb5)
    have HV5 := Lib.hid (own_later HV9.out hb5)
    have HR5 := Lib.hid (own_later HR9.out hb5)
    have HK5 := Lib.hid (below_later hb5 HK9.out)
    have HB5 := Lib.hid (below_later hb5 HB9.out)
    have hgb : w6.heap.size ≤ w9.heap.size := HK9.out.size
    clear hb5 HA9 HV9 HR9 HK9 HB9
    generalize w9.alloc (.cells #[.slice none 0 0, .slice none 0 0, .slice none 0 0, .slice none 0 0, .slice none 0 0, .slice none 0 0, .slice none 0 0, .slice none 0 0, .slice none 0 0, .slice none 0 0, .slice none 0 0, .slice none 0 0, .slice none 0 0, .slice none 0 0, .slice none 0 0, .slice none 0 0, .slice none 0 0, .slice none 0 0] 56) = w5a at *
    generalize w9.heap.size = gb at *
    refine (AddTexts_any gb w6.heap.size [] (fun _ => M.length) _ _ _ _ _ HF5.out HA5.out (fun u hu => by simp at hu) (by simp)).mono ?_
    rintro e w10 ⟨rfl, bv6, cs6, hF6, hKN6, hV6⟩
    have HF6 := Lib.hid hF6
    have HA6 := Lib.hid (keepN_own' hKN6 HF5.out.bagis HF5.out.bag rfl HA5.out)
    have HV6 := Lib.hid (keepN_own' hKN6 HF5.out.bagis HF5.out.bag rfl HV5.out)
    have HR6 := Lib.hid (keepN_own' hKN6 HF5.out.bagis HF5.out.bag rfl HR5.out)
    have HK6 : Hid (Below w6.heap.size w6 w10) := Lib.hid (hKN6.below HK5.out HK5.out.size hgb (fun k hk => (HF5.out.bag.lt k hk).1))
    clear hF6 hKN6 hV6 HF5 HA5 HV5 HR5 HK5 HB5
    go_wp2_with fail
    refine (AddTexts_any gb w6.heap.size _ (fun _ => M.length) _ _ _ _ _ HF6.out HV6.out (fun u hu => by
      simp only [List.nil_append, List.mem_singleton] at hu
      subst hu
      exact HAP.out) (by simp)).mono ?_
    rintro e w11 ⟨rfl, bv7, cs7, hF7, hKN7, hV7⟩
    have HF7 := Lib.hid hF7
    have HA7 := Lib.hid (keepN_own' hKN7 HF6.out.bagis HF6.out.bag rfl HA6.out)
    have HV7 := Lib.hid (keepN_own' hKN7 HF6.out.bagis HF6.out.bag rfl HV6.out)
    have HR7 := Lib.hid (keepN_own' hKN7 HF6.out.bagis HF6.out.bag rfl HR6.out)
    have HK7 : Hid (Below w6.heap.size w6 w11) := Lib.hid (hKN7.below HK6.out HK6.out.size hgb (fun k hk => (HF6.out.bag.lt k hk).1))
    have HB7 := Lib.hid (below_later HK7.out HB6.out)
    clear hF7 hKN7 hV7 HF6 HA6 HV6 HR6 HK6 HAP
    go_wp2_with fail
    refine (EqTexts_txts M _ _ _ (Txts.own HA7.out) (Txts.own HR7.out) (by omega)).mono ?_
    rintro e w12 ⟨rfl, hb12⟩
    have HF12 := Lib.hid (HF7.out.later hb12)
    have HV12 := Lib.hid (own_later HV7.out hb12)
    have HR12 := Lib.hid (own_later HR7.out hb12)
    have HK12 : Hid (Below w6.heap.size w6 w12) := Lib.hid (HK7.out.trans (hb12.mono HK7.out.size))
    clear hb12 HF7 HA7 HV7 HR7 HK7 HB7
    go_wp2_with fail
    refine (EqTexts_txts M _ _ _ (Txts.own HV12.out) (Txts.own HR12.out) (by omega)).mono ?_
    rintro e w13 ⟨rfl, hb13⟩
    have HF13 := Lib.hid (HF12.out.later hb13)
    have HK13 : Hid (Below w6.heap.size w6 w13) := Lib.hid (HK12.out.trans (hb13.mono HK12.out.size))
    have HB13 := Lib.hid (below_later HK13.out HB6.out)
    have hsz6 := HB6.out.size
    clear hb13 HF12 HV12 HR12 HK12
    go_wp2_with fail
    refine (ApartTexts_any gb w6.heap.size _ _ _ _ _ HF13.out (by simp) (fun _ => hMl) (HPW.out.later HB13.out HPW.out.lt) (Nat.lt_of_lt_of_le HPW.out.lt hsz6)).mono ?_
    rintro e w14 ⟨rfl, hb14⟩
    have HK14 : Hid (Below w6.heap.size w6 w14) := Lib.hid (HK13.out.trans hb14)
    have HB14 := Lib.hid (below_later HK14.out HB6.out)
    have HW14 := Lib.hid (HW6.out.later HK14.out)
    have HT14 := Lib.hid (HT6.out.later HK14.out)
    have HU14 := Lib.hid (HU6.out.later HK14.out)
    have HBC : Hid (w14.heap[w.heap.size]? = some (.cells #[.slice A T.length C, .slice A2 N.length C2, .slice A3 S.length C3] 25 (0, 0))) := Lib.hid ((HK14.out.block w.heap.size (Array.getElem?_eq_some_iff.1 HBX6.out).1).trans HBX6.out)
    have hbk := HBC.out
    have k0 : w14.cell? ⟨w.heap.size, 0, none⟩ = some (.slice A T.length C) := by simp [World.cell?, hbk]
    clear hbk hb14 HF13 HK13 HB13
    go_wp2_with fail
    refine (EqNodes_same T _ _ _ (wide_nodes' HW14.out) (HN.out.later HB14.out) (by omega)).mono ?_
    rintro e w15 ⟨rfl, hb15⟩
    have HB15 := Lib.hid (below_later hb15 HB14.out)
    have HT15 : Hid (TxtsAt w15 gn (N ++ marksT N.length)) := Lib.hid (HT14.out.later hb15)
    have HU15 : Hid (TxtsAt w15 gs (S ++ marksT S.length)) := Lib.hid (HU14.out.later hb15)
    have HW15 := Lib.hid (HW14.out.later hb15)
    have HBC2 : Hid (w15.heap[w.heap.size]? = some (.cells #[.slice A T.length C, .slice A2 N.length C2, .slice A3 S.length C3] 25 (0, 0))) := Lib.hid ((hb15.block w.heap.size (Array.getElem?_eq_some_iff.1 HBC.out).1).trans HBC.out)
    clear hb15 HB14 HW14 HT14 HU14 HBC k0
    go_wp2_with fail
    refine (SpareNodes_any T gl _ HW15.out (by omega)).mono ?_
    rintro e w16 ⟨rfl, hb16⟩
    have HB16 := Lib.hid (below_later hb16 HB15.out)
    have HT16 : Hid (TxtsAt w16 gn (N ++ marksT N.length)) := Lib.hid (HT15.out.later hb16)
    have HU16 : Hid (TxtsAt w16 gs (S ++ marksT S.length)) := Lib.hid (HU15.out.later hb16)
    have HW16 := Lib.hid (HW15.out.later hb16)
    have HBC3 : Hid (w16.heap[w.heap.size]? = some (.cells #[.slice A T.length C, .slice A2 N.length C2, .slice A3 S.length C3] 25 (0, 0))) := Lib.hid ((hb16.block w.heap.size (Array.getElem?_eq_some_iff.1 HBC2.out).1).trans HBC2.out)
    have hbk := HBC3.out
    have k1 : w16.cell? ⟨w.heap.size, 1, none⟩ = some (.slice A2 N.length C2) := by simp [World.cell?, hbk]
    clear hbk hb16 HB15 HW15 HT15 HU15 HBC2
    go_wp2_with fail
    refine (EqTexts_txts N _ _ _ (HT16.out.txts rfl (by omega)) (HNN.out.later HB16.out) (by omega)).mono ?_
    rintro e w17 ⟨rfl, hb17⟩
    have HB17 := Lib.hid (below_later hb17 HB16.out)
    have HT17 : Hid (TxtsAt w17 gn (N ++ marksT N.length)) := Lib.hid (HT16.out.later hb17)
    have HU17 : Hid (TxtsAt w17 gs (S ++ marksT S.length)) := Lib.hid (HU16.out.later hb17)
    have HW17 := Lib.hid (HW16.out.later hb17)
    have HBC4 : Hid (w17.heap[w.heap.size]? = some (.cells #[.slice A T.length C, .slice A2 N.length C2, .slice A3 S.length C3] 25 (0, 0))) := Lib.hid ((hb17.block w.heap.size (Array.getElem?_eq_some_iff.1 HBC3.out).1).trans HBC3.out)
    clear hb17 HB16 HW16 HT16 HU16 HBC3 k1
    go_wp2_with fail
    refine (SpareTexts_any N gn _ HT17.out (by omega) (HPW.out.later HB17.out HPW.out.lt)).mono ?_
    rintro e w18 ⟨rfl, hb18⟩
    have HB18 := Lib.hid (below_later hb18 HB17.out)
    have HT18 : Hid (TxtsAt w18 gn (N ++ marksT N.length)) := Lib.hid (HT17.out.later hb18)
    have HU18 : Hid (TxtsAt w18 gs (S ++ marksT S.length)) := Lib.hid (HU17.out.later hb18)
    have HW18 := Lib.hid (HW17.out.later hb18)
    have HBC5 : Hid (w18.heap[w.heap.size]? = some (.cells #[.slice A T.length C, .slice A2 N.length C2, .slice A3 S.length C3] 25 (0, 0))) := Lib.hid ((hb18.block w.heap.size (Array.getElem?_eq_some_iff.1 HBC4.out).1).trans HBC4.out)
    have hbk := HBC5.out
    have k2 : w18.cell? ⟨w.heap.size, 2, none⟩ = some (.slice A3 S.length C3) := by simp [World.cell?, hbk]
    clear hbk hb18 HB17 HW17 HT17 HU17 HBC4
    go_wp2_with fail
    refine (EqTexts_txts S _ _ _ (HU18.out.txts rfl (by omega)) (HSS.out.later HB18.out) (by omega)).mono ?_
    rintro e w19 ⟨rfl, hb19⟩
    have HB19 := Lib.hid (below_later hb19 HB18.out)
    have HT19 : Hid (TxtsAt w19 gn (N ++ marksT N.length)) := Lib.hid (HT18.out.later hb19)
    have HU19 : Hid (TxtsAt w19 gs (S ++ marksT S.length)) := Lib.hid (HU18.out.later hb19)
    have HW19 := Lib.hid (HW18.out.later hb19)
    clear hb19 HB18 HW18 HT18 HU18 HBC5 k2
    go_wp2_with fail
    refine (SpareTexts_any S gs _ HU19.out (by omega) (HPW.out.later HB19.out HPW.out.lt)).mono ?_
    rintro e w20 ⟨rfl, hb20⟩
    have HB20 := Lib.hid (below_later hb20 HB19.out)
    clear hb20
    go_wp2_with fail
    go_ret
    exact Makes.mk rfl HB20.out
end Go.Proofs.YtdobaililmkkcaaGreatDoor

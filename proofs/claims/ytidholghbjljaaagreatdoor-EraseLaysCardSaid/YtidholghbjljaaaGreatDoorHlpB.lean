
/- Walks of what statements lean on: lists of nodes that are made. -/
import Derived.Test.YtidholghbjljaaaGreatDoorOpen
import Derived.Test.YtidholghbjljaaaGreatDoorTrW
namespace Go.Proofs.YtidholghbjljaaaGreatDoor
set_option linter.unusedSimpArgs false
set_option linter.unusedVariables false
open Go.RowKit Culp

/-- A row of nodes that is being filled. -/
def RowAt (R N : Nat) (w : World) : Prop := ∃ cs : Array Value, w.heap[R]? = some (.cells cs 81 (0, 0)) ∧ cs.size = N * 8
theorem RowAt.cell {R N : Nat} {w : World} (h : RowAt R N w) {i : Nat} (hi : i < N * 8) : ∃ v, w.cell? ⟨R, i, none⟩ = some v := by
  obtain ⟨cs, h1, h2⟩ := h
  exact ⟨cs[i]'(by omega), by simp [World.cell?, h1, show i < cs.size by omega]⟩
theorem RowAt.free {R N : Nat} {w : World} (h : RowAt R N w) (i : Nat) : w.frozen? ⟨R, i, none⟩ = false := by
  obtain ⟨cs, h1, _⟩ := h
  simp [World.frozen?, h1]

theorem RowAt.set {R N : Nat} {w : World} (h : RowAt R N w) (i : Nat) (u : Value) : RowAt R N (w.setCell ⟨R, i, none⟩ u) := by
  obtain ⟨cs, h1, h2⟩ := h
  exact ⟨cs.setIfInBounds i u, by simp [World.setCell, Array.getElem?_modify, h1], by simpa using h2⟩
/-- A node is laid. -/
def putNode (w : World) (R k : Nat) (x : Nd) : World :=
  ((((((((w.setCell ⟨R, k * 8, none⟩ (.int .i8 x.kind)).setCell ⟨R, k * 8 + 1, none⟩ (.int .i64 x.kids)).setCell ⟨R, k * 8 + 2, none⟩ (.int .i64 x.n)).setCell ⟨R, k * 8 + 3, none⟩ (.string x.s)).setCell ⟨R, k * 8 + 4, none⟩ (.string x.t)).setCell ⟨R, k * 8 + 5, none⟩ (.string x.u)).setCell ⟨R, k * 8 + 6, none⟩ (.int .i64 x.line)).setCell ⟨R, k * 8 + 7, none⟩ (.int .i64 x.col))
theorem RowAt.put {R N : Nat} {w : World} (h : RowAt R N w) (k : Nat) (x : Nd) : RowAt R N (putNode w R k x) :=
  (((((((h.set _ _).set _ _).set _ _).set _ _).set _ _).set _ _).set _ _).set _ _
theorem set_other {w : World} {R i j : Nat} {u v : Value} (h : w.cell? ⟨R, i, none⟩ = some v) (hij : i ≠ j) : (w.setCell ⟨R, j, none⟩ u).cell? ⟨R, i, none⟩ = some v := by
  rw [World.cell?_setCell_other]
  · exact h
  all_goals simp [hij]
theorem put_old {w : World} {R k i : Nat} {x : Nd} {v : Value} (h : w.cell? ⟨R, i, none⟩ = some v) (hi : i < k * 8) : (putNode w R k x).cell? ⟨R, i, none⟩ = some v := by
  unfold putNode
  exact set_other (set_other (set_other (set_other (set_other (set_other (set_other (set_other h (by omega)) (by omega)) (by omega)) (by omega)) (by omega)) (by omega)) (by omega)) (by omega)
theorem RowAt.same {R N : Nat} {w : World} (h : RowAt R N w) {i : Nat} (hi : i < N * 8) (u : Value) : (w.setCell ⟨R, i, none⟩ u).cell? ⟨R, i, none⟩ = some u := by
  obtain ⟨v, hv⟩ := h.cell hi
  exact World.cell?_setCell_same _ _ _ hv
theorem put_new {w : World} {R N k : Nat} {x : Nd} (h : RowAt R N w) (hk : k < N) : ∀ j u, x.cells[j]? = some u → (putNode w R k x).cell? ⟨R, k * 8 + j, none⟩ = some u := by
  intro j u hu
  unfold putNode
  have s0 := h.set (k * 8) (.int .i8 x.kind)
  have s1 := s0.set (k * 8 + 1) (.int .i64 x.kids)
  have s2 := s1.set (k * 8 + 2) (.int .i64 x.n)
  have s3 := s2.set (k * 8 + 3) (.string x.s)
  have s4 := s3.set (k * 8 + 4) (.string x.t)
  have s5 := s4.set (k * 8 + 5) (.string x.u)
  have s6 := s5.set (k * 8 + 6) (.int .i64 x.line)
  match j, hu with
  | 0, hu => cases hu; exact set_other (set_other (set_other (set_other (set_other (set_other (set_other (h.same (by omega) _) (by omega)) (by omega)) (by omega)) (by omega)) (by omega)) (by omega)) (by omega)
  | 1, hu => cases hu; exact set_other (set_other (set_other (set_other (set_other (set_other (s0.same (by omega) _) (by omega)) (by omega)) (by omega)) (by omega)) (by omega)) (by omega)
  | 2, hu => cases hu; exact set_other (set_other (set_other (set_other (set_other (s1.same (by omega) _) (by omega)) (by omega)) (by omega)) (by omega)) (by omega)
  | 3, hu => cases hu; exact set_other (set_other (set_other (set_other (s2.same (by omega) _) (by omega)) (by omega)) (by omega)) (by omega)
  | 4, hu => cases hu; exact set_other (set_other (set_other (s3.same (by omega) _) (by omega)) (by omega)) (by omega)
  | 5, hu => cases hu; exact set_other (set_other (s4.same (by omega) _) (by omega)) (by omega)
  | 6, hu => cases hu; exact set_other (s5.same (by omega) _) (by omega)
  | 7, hu => cases hu; exact s6.same (by omega) _
  | j + 8, hu => simp [Nd.cells] at hu
theorem NodesAt.put {w : World} {R N k : Nat} {x : Nd} {L : List Nd} (hr : RowAt R N w) (hk : k < N) (h : NodesAt w R 0 (L.take k)) (hx : L[k]? = some x) : NodesAt (putNode w R k x) R 0 (L.take (k + 1)) := by
  intro i y hy j u hu
  rw [Nat.zero_add]
  have hj : j < 8 := by have := (List.getElem?_eq_some_iff.1 hu).1; simpa [Nd.cells] using this
  rw [List.getElem?_take] at hy
  split at hy
  · rename_i hik
    rcases Nat.lt_or_ge i k with hlt | hge
    · have hy' : (L.take k)[i]? = some y := by rw [List.getElem?_take, if_pos hlt]; exact hy
      have := h i y hy' j u hu
      rw [Nat.zero_add] at this
      exact put_old this (by omega)
    · obtain rfl : i = k := by omega
      rw [hx] at hy
      cases hy
      exact put_new hr hk j u hu
  · cases hy
theorem below_put {B R k : Nat} {W w : World} {x : Nd} (h : Below B W w) (hR : B ≤ R) : Below B W (putNode w R k x) :=
  (((((((h.setCell hR _).setCell hR _).setCell hR _).setCell hR _).setCell hR _).setCell hR _).setCell hR _).setCell hR _

set_option maxRecDepth 100000 in
set_option maxHeartbeats 3200000 in
theorem WideNodes_at (T : List Nd) (tv : Value) (w : World) (hn : Nodes w tv T) (hT : T.length ≤ 100000000000) : Calls Tryz.prog 130 #[tv] w (fun e w' => ∃ g, w.heap.size ≤ g ∧ e = .returned (.slice (some ⟨g, 0, none⟩) T.length (T.length + 64 : Nat)) ∧ NodesAt w' g 0 (T ++ marks T.length) ∧ Below w.heap.size w w') := by
  have HN := Lib.hid hn
  obtain ⟨A, c, rfl, hlc, hN⟩ := hn
  obtain ⟨i0, hi, hz0, hz1, hz2⟩ := info_parts node_info
  clear hN
  go_enter Tryz.func130, Tryz.ntmps130
  go_wp2_with (refine wpList_make_full _ rfl (.tmp 7) (.tmp 7) 82 rfl w.heap.size 81 i0 _ 8 Tryz.underlying82 hi hz0 hz1 .i64 .i64 ((T.length : Int) + 64) ((T.length : Int) + 64) (T.length + 64) rfl rfl (by omega) (by omega) (by rw [hz2]; omega) (by unfold maxLen; omega) (Nat.le_refl _) ?_)
  intro w1 hown hgr
  have hrow : RowAt w.heap.size (T.length + 64) w1 := by
    rcases hown.2 with ⟨h1, _⟩ | ⟨g, cap, cur, h1, _, h2, _, _, h3, _⟩
    · cases h1
    · simp only [Value.slice.injEq, Option.some.injEq, Addr.mk.injEq] at h1
      obtain ⟨⟨rfl, _⟩, _, rfl⟩ := h1
      exact ⟨cur, h2, by omega⟩
  have hb1 : Below w.heap.size w w1 := (Below.refl _ _).grown hgr (Nat.le_refl _) fun k hk => by cases hk
  have HR := Lib.hid hrow
  have HB := Lib.hid hb1
  clear hown hgr hrow hb1
  go_wp2_with fail
  go_loopw [4] (fun i wr => ∃ k : Nat, k ≤ T.length + 64 ∧ i = .int .i64 k ∧ Hid (RowAt w.heap.size (T.length + 64) wr) ∧ Hid (NodesAt wr w.heap.size 0 ((T ++ marks T.length).take k)) ∧ Hid (Below w.heap.size w wr)) (fun i _ => T.length + 64 - (intOf i).toNat)
  case atStart => exact ⟨0, by omega, rfl, HR, Lib.hid (by intro i x hx; simp at hx), HB⟩
  case round =>
    obtain ⟨k, hk, rfl, HRr, HNr, HBr⟩ := hrel
    by_cases hlt : k < T.length + 64
    · obtain ⟨v0, r0⟩ := HRr.out.cell (i := k * 8) (by omega)
      obtain ⟨v1, r1⟩ := HRr.out.cell (i := k * 8 + 1) (by omega)
      obtain ⟨v2, r2⟩ := HRr.out.cell (i := k * 8 + 2) (by omega)
      obtain ⟨v3, r3⟩ := HRr.out.cell (i := k * 8 + 3) (by omega)
      obtain ⟨v4, r4⟩ := HRr.out.cell (i := k * 8 + 4) (by omega)
      obtain ⟨v5, r5⟩ := HRr.out.cell (i := k * 8 + 5) (by omega)
      obtain ⟨v6, r6⟩ := HRr.out.cell (i := k * 8 + 6) (by omega)
      obtain ⟨v7, r7⟩ := HRr.out.cell (i := k * 8 + 7) (by omega)
      have f0 := HRr.out.free (k * 8)
      have f1 := HRr.out.free (k * 8 + 1)
      have f2 := HRr.out.free (k * 8 + 2)
      have f3 := HRr.out.free (k * 8 + 3)
      have f4 := HRr.out.free (k * 8 + 4)
      have f5 := HRr.out.free (k * 8 + 5)
      have f6 := HRr.out.free (k * 8 + 6)
      have f7 := HRr.out.free (k * 8 + 7)
      by_cases hkT : k < T.length
      · obtain ⟨A2, c2, e2, _, hN⟩ := (HN.out.later HBr.out)
        simp only [Value.slice.injEq] at e2
        obtain ⟨rfl, _, rfl⟩ := e2
        obtain ⟨b, off, rfl, hM⟩ := hN (by omega)
        have hx : T[k]? = some T[k] := List.getElem?_eq_getElem hkT
        have hx2 := Lib.hid hx
        obtain ⟨n0, n1, n2, n3, n4, n5, n6, n7⟩ := hM.at_ hx
        generalize T[k] = x at *
        clear hx hN hM
        have HR2 := Lib.hid (HRr.out.put k x)
        have HN2 := Lib.hid (NodesAt.put HRr.out hlt HNr.out (x := x) (by rw [List.getElem?_append_left hkT]; exact hx2.out))
        have HB2 := Lib.hid (below_put (k := k) (x := x) HBr.out (Nat.le_refl _))
        go_wp2_with fail
        exact ⟨⟨k + 1, by omega, by go_num, HR2, HN2, HB2⟩, by simp [intOf]; omega⟩
      · have hx := marks_at (T := T) (i := k) (by omega) hlt
        have HR2 := Lib.hid (HRr.out.put k (markN k))
        have HN2 := Lib.hid (NodesAt.put HRr.out hlt HNr.out hx)
        have HB2 := Lib.hid (below_put (k := k) (x := markN k) HBr.out (Nat.le_refl _))
        have hk6 : k ≤ 1000000000000 := by omega
        clear hx
        go_wp2_with fail
        refine (hnum_any k hk6 _).mono ?_
        rintro e w' ⟨rfl, rfl⟩
        go_wp2_with fail
        exact ⟨⟨k + 1, by omega, by go_num, HR2, HN2, HB2⟩, by simp [intOf]; omega⟩
    · obtain rfl : k = T.length + 64 := by omega
      have HN2 : Hid (NodesAt wr w.heap.size 0 (T ++ marks T.length)) := by
        have := HNr.out
        rw [List.take_of_length_le (by simp [marks])] at this
        exact this
      go_wp2_with fail
      go_ret
      exact ⟨_, Nat.le_refl _, rfl, HN2.out, HBr.out⟩
end Go.Proofs.YtidholghbjljaaaGreatDoor

/- The walks of the statements TreeArities and TreeChecks. -/
namespace Go.Proofs.YtidholghbjljaaaGreatDoor
set_option linter.unusedSimpArgs false
set_option linter.unusedVariables false
open Go.RowKit Go.Maps Culp

end Go.Proofs.YtidholghbjljaaaGreatDoor

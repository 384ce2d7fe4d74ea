
/- Walks of trees: likeness of any two lists. -/
import Derived.Test.YtebameiaeldfiaaDoorTrR
import Derived.Test.YtebameiaeldfiaaDoorBl
import Derived.Test.YtebameiaeldfiaaDoorFq
import Derived.Test.YtebameiaeldfiaaDoorTrW
import Derived.Test.YtebameiaeldfiaaDoorTrS
namespace Culp.Tr
set_option linter.unusedSimpArgs false
set_option linter.unusedVariables false
/-- Two nodes, but for their places. -/
def like (x y : Nd) : Prop := x.kind = y.kind ∧ x.kids = y.kids ∧ x.n = y.n ∧ x.s = y.s ∧ x.t = y.t ∧ x.u = y.u
instance likeDec (x y : Nd) : Decidable (like x y) := inferInstanceAs (Decidable (_ ∧ _))
def likeAll (T U : List Nd) : Prop := T.length = U.length ∧ ∀ (i : Nat) x y, T[i]? = some x → U[i]? = some y → like x y
end Culp.Tr
namespace Go.Proofs.YtebameiaeldfiaaDoor
set_option linter.unusedSimpArgs false
set_option linter.unusedVariables false
set_option linter.unusedSimpArgs false
set_option linter.unusedVariables false
open Go.RowKit Go.Maps Culp

theorem toL_inj (a b : ByteArray) : a.toList = b.toList ↔ a = b := ⟨fun h => str_inj' (by rw [← toL', ← toL']; exact h), fun h => by rw [h]⟩
/-- Are they alike? -/
def LikeRes (T U : List Nd) (w : World) (e : Ending) (w' : World) : Prop := (∃ b : Bool, e = .returned (.bool b) ∧ (b = true ↔ Tr.likeAll T U)) ∧ Below w.heap.size w w'
set_option maxRecDepth 100000 in
set_option maxHeartbeats 3200000 in
theorem tEqual_any (T U : List Nd) (tv uv : Value) (w : World) (hn : Nodes w tv T) (hu : Nodes w uv U) (hT : T.length ≤ 100000000000) (hU : U.length ≤ 100000000000) :
    Calls Tryd.prog 33 #[tv, uv] w (LikeRes T U w) := by
  have HN := Lib.hid hn
  have HU := Lib.hid hu
  obtain ⟨A, c, rfl, hlc, _⟩ := hn
  obtain ⟨B, d, rfl, hld, _⟩ := hu
  by_cases hl : T.length = U.length
  rotate_left
  · have el : (((T.length : Nat) : Int) != ((U.length : Nat) : Int)) = true := by rw [bne, beq_eq_false_iff_ne.2 (by omega)]; rfl
    have HR : Hid (LikeRes T U w (.returned (.bool false)) w) := Lib.hid ⟨⟨false, rfl, by simp only [Bool.false_eq_true, false_iff]; exact fun h => hl h.1⟩, Below.refl _ _⟩
    clear hl
    go_enter Tryd.func33, Tryd.ntmps33
    go_wp2_with fail
    go_ret
    exact HR.out
  have el : (((T.length : Nat) : Int) != ((U.length : Nat) : Int)) = false := by rw [hl]; simp
  have HL := Lib.hid hl
  clear hl
  go_enter Tryd.func33, Tryd.ntmps33
  go_wp2_with fail
  go_loopw [14] (fun i wr => ∃ k : Nat, k ≤ T.length ∧ i = .int .i64 k ∧ Hid (∀ (i : Nat) x y, i < k → T[i]? = some x → U[i]? = some y → Tr.like x y) ∧ Hid (Below w.heap.size w wr)) (fun i _ => T.length - (intOf i).toNat)
  case atStart => exact ⟨0, Nat.zero_le _, rfl, Lib.hid (fun i x y h => by omega), Lib.hid (Below.refl _ _)⟩
  case round =>
    obtain ⟨k, hk, rfl, HI, HB⟩ := hrel
    by_cases hlt : k < T.length
    · have hltu : k < U.length := by have := HL.out; omega
      obtain ⟨A2, c2, e2, _, hN⟩ := HN.out.later HB.out
      simp only [Value.slice.injEq] at e2
      obtain ⟨rfl, _, rfl⟩ := e2
      obtain ⟨b, off, rfl, hM⟩ := hN (by omega)
      obtain ⟨B2, d2, e3, _, hN2⟩ := HU.out.later HB.out
      simp only [Value.slice.injEq] at e3
      obtain ⟨rfl, _, rfl⟩ := e3
      obtain ⟨b2, off2, rfl, hM2⟩ := hN2 (by omega)
      have hx : T[k]? = some T[k] := List.getElem?_eq_getElem hlt
      have hy : U[k]? = some U[k] := List.getElem?_eq_getElem hltu
      have HX := Lib.hid hx
      have HY := Lib.hid hy
      obtain ⟨n0, n1, n2, n3, n4, n5, n6, n7⟩ := hM.at_ hx
      obtain ⟨q0, q1, q2, q3, q4, q5, q6, q7⟩ := hM2.at_ hy
      generalize T[k] = x at *
      generalize U[k] = y at *
      have hl2 : b2 < wr.heap.size := World.block_lt_of_cell? _ _ q0
      clear hx hy hN hM hN2 hM2
      have HBX : Hid (Box wr.heap.size ⟨x.kind, x.kids, x.n, x.s, x.t, x.u, y.line, y.col⟩ (wr.alloc (.cells #[.int .i8 x.kind, .int .i64 x.kids, .int .i64 x.n, .string x.s, .string x.t, .string x.u, .int .i64 y.line, .int .i64 y.col] 41))) := Lib.hid (box_alloc wr ⟨x.kind, x.kids, x.n, x.s, x.t, x.u, y.line, y.col⟩)
      have hb2 : Below wr.heap.size wr (wr.alloc (.cells #[.int .i8 x.kind, .int .i64 x.kids, .int .i64 x.n, .string x.s, .string x.t, .string x.u, .int .i64 x.line, .int .i64 x.col] 41)) := (Below.refl _ _).alloc (Nat.le_refl _) _
      have hb3 : Below wr.heap.size wr (wr.alloc (.cells #[.int .i8 x.kind, .int .i64 x.kids, .int .i64 x.n, .string x.s, .string x.t, .string x.u, .int .i64 y.line, .int .i64 y.col] 41)) := (Below.refl _ _).alloc (Nat.le_refl _) _
      have HB1 := Lib.hid (below_later hb3 HB.out)
      have p0 := cell_later hb2 q6
      have p1 := cell_later hb2 q7
      have r0 := cell_later hb3 q0
      have r1 := cell_later hb3 q1
      have r2 := cell_later hb3 q2
      have r3 := cell_later hb3 q3
      have r4 := cell_later hb3 q4
      have r5 := cell_later hb3 q5
      have r6 := cell_later hb3 q6
      have r7 := cell_later hb3 q7
      have hne : ¬ b2 = wr.heap.size := by omega
      clear hb2 hb3 HB
      go_wp2_with fail
      clear n0 n1 n2 n3 n4 n5 n6 n7 q0 q1 q2 q3 q4 q5 q6 q7 p0 p1
      generalize wr.alloc (.cells #[.int .i8 x.kind, .int .i64 x.kids, .int .i64 x.n, .string x.s, .string x.t, .string x.u, .int .i64 y.line, .int .i64 y.col] 41) = w3 at *
      generalize wr.heap.size = gx at *
      have c0 := HBX.out.cell 0
      have c1 := HBX.out.cell 1
      have c2 := HBX.out.cell 2
      have c3 := HBX.out.cell 3
      have c4 := HBX.out.cell 4
      have c5 := HBX.out.cell 5
      have c6 := HBX.out.cell 6
      have c7 := HBX.out.cell 7
      refine wp_region_plan (S := fun w' => (w'.cell? ⟨gx, 0, none⟩ = some (.int .i8 x.kind) ∧ w'.cell? ⟨gx, 1, none⟩ = some (.int .i64 x.kids) ∧ w'.cell? ⟨gx, 2, none⟩ = some (.int .i64 x.n) ∧ w'.cell? ⟨gx, 3, none⟩ = some (.string x.s) ∧ w'.cell? ⟨gx, 4, none⟩ = some (.string x.t) ∧ w'.cell? ⟨gx, 5, none⟩ = some (.string x.u) ∧ w'.cell? ⟨gx, 6, none⟩ = some (.int .i64 y.line) ∧ w'.cell? ⟨gx, 7, none⟩ = some (.int .i64 y.col)) ∧
          (w'.cell? ⟨b2, off2 + k * 8, none⟩ = some (.int .i8 y.kind) ∧ w'.cell? ⟨b2, off2 + k * 8 + 1, none⟩ = some (.int .i64 y.kids) ∧ w'.cell? ⟨b2, off2 + k * 8 + 2, none⟩ = some (.int .i64 y.n) ∧ w'.cell? ⟨b2, off2 + k * 8 + 3, none⟩ = some (.string y.s) ∧ w'.cell? ⟨b2, off2 + k * 8 + 4, none⟩ = some (.string y.t) ∧ w'.cell? ⟨b2, off2 + k * 8 + 5, none⟩ = some (.string y.u) ∧ w'.cell? ⟨b2, off2 + k * 8 + 6, none⟩ = some (.int .i64 y.line) ∧ w'.cell? ⟨b2, off2 + k * 8 + 7, none⟩ = some (.int .i64 y.col)))
        [(0, true), (1, true), (2, true), (3, true), (4, true), (5, true)] (by kernel_rfl) (by kernel_rfl) (by kernel_rfl) (fun _ _ _ _ _ h => h) ⟨⟨c0, c1, c2, c3, c4, c5, c6, c7⟩, ⟨r0, r1, r2, r3, r4, r5, r6, r7⟩⟩ ?_
      clear c0 c1 c2 c3 c4 c5 c6 c7 r0 r1 r2 r3 r4 r5 r6 r7
      intro HP
      repeat (first | (apply wpPlan_look; rfl; rfl; (intro wq hq; (try dsimp only at hq); go_split_ands; go_simp; (try rw [if_neg (by omega)]); (try rw [if_pos (by omega)]); try with_reducible rfl); simp only [Act.put, List.setIfInBounds_toArray, List.set_cons_zero, List.set_cons_succ]) | (apply wpPlan_skip; rfl; rfl; simp only [Act.put, List.setIfInBounds_toArray, List.set_cons_zero, List.set_cons_succ]) | (apply wpPlan_pass; rfl; rfl; assumption; simp only [Act.put, List.setIfInBounds_toArray, List.set_cons_zero, List.set_cons_succ]))
      obtain ⟨bb, hbb⟩ : ∃ bb : Bool, bb = !decide (x.kind = y.kind ∧ x.kids = y.kids ∧ x.n = y.n ∧ x.s = y.s ∧ x.t = y.t ∧ x.u = y.u) := ⟨_, rfl⟩
      refine wpPlan_look (v := .bool bb) rfl rfl (fun wq hq => by
        rw [hbb]
        simp [execOp, go_sem, toL_inj]
        by_cases h1 : x.kind = y.kind <;> by_cases h2 : x.kids = y.kids <;> by_cases h3 : x.n = y.n <;> by_cases h4 : x.s = y.s <;> by_cases h5 : x.t = y.t <;> by_cases h6 : x.u = y.u <;> simp [h1, h2, h3, h4, h5, h6]) ?_
      simp only [Act.put, List.setIfInBounds_toArray, List.set_cons_zero, List.set_cons_succ]
      apply wpPlan_done
      clear HP
      have HB2 := Lib.hid HB1.out.drew
      have HBB := Lib.hid hbb
      clear hbb
      cases bb with
      | true =>
        have HR : Hid (LikeRes T U w (.returned (.bool false)) w3.drew) := Lib.hid ⟨⟨false, rfl, by
          simp only [Bool.false_eq_true, false_iff]
          intro h
          have h1 := h.2 k x y HX.out HY.out
          have h2 := HBB.out
          have h4 : decide (x.kind = y.kind ∧ x.kids = y.kids ∧ x.n = y.n ∧ x.s = y.s ∧ x.t = y.t ∧ x.u = y.u) = true := decide_eq_true h1
          rw [h4] at h2
          cases h2⟩, HB2.out⟩
        clear HI HBB
        go_wp2_with fail
        go_ret
        exact HR.out
      | false =>
        have HI2 : Hid (∀ (i : Nat) x y, i < k + 1 → T[i]? = some x → U[i]? = some y → Tr.like x y) := Lib.hid (fun i x' y' hi h1 h2 => by
          rcases Nat.lt_or_ge i k with h | h
          · exact HI.out i x' y' h h1 h2
          · obtain rfl : i = k := by omega
            rw [HX.out] at h1
            rw [HY.out] at h2
            obtain rfl := Option.some.inj h1
            obtain rfl := Option.some.inj h2
            have h3 := HBB.out
            have h4 : decide (x.kind = y.kind ∧ x.kids = y.kids ∧ x.n = y.n ∧ x.s = y.s ∧ x.t = y.t ∧ x.u = y.u) = true := by
              cases hd : decide (x.kind = y.kind ∧ x.kids = y.kids ∧ x.n = y.n ∧ x.s = y.s ∧ x.t = y.t ∧ x.u = y.u) with
              | true => rfl
              | false => rw [hd] at h3; cases h3
            exact of_decide_eq_true h4)
        clear HI HBB
        go_wp2_with fail
        go_roundw
        case rel => exact ⟨k + 1, by omega, by go_num, HI2, HB2⟩
        case measure => simp [intOf]; omega
    · have HR : Hid (Tr.likeAll T U) := Lib.hid ⟨HL.out, fun i x y h1 h2 => HI.out i x y (by have := (List.getElem?_eq_some_iff.1 h1).1; omega) h1 h2⟩
      clear HI
      go_wp2_with fail
      go_ret
      exact ⟨⟨true, rfl, by simp only [true_iff]; exact HR.out⟩, HB.out⟩
set_option maxRecDepth 100000 in
set_option maxHeartbeats 3200000 in
theorem rEqual_any (T U : List Nd) (tv uv : Value) (w : World) (hn : Nodes w tv T) (hu : Nodes w uv U) (hT : T.length ≤ 100000000000) (hU : U.length ≤ 100000000000) :
    Calls Tryd.prog 34 #[tv, uv] w (LikeRes T U w) := by
  have HN := Lib.hid hn
  have HU := Lib.hid hu
  obtain ⟨A, c, rfl, hlc, _⟩ := hn
  obtain ⟨B, d, rfl, hld, _⟩ := hu
  by_cases hl : T.length = U.length
  rotate_left
  · have el : (((T.length : Nat) : Int) != ((U.length : Nat) : Int)) = true := by rw [bne, beq_eq_false_iff_ne.2 (by omega)]; rfl
    have HR : Hid (LikeRes T U w (.returned (.bool false)) w) := Lib.hid ⟨⟨false, rfl, by simp only [Bool.false_eq_true, false_iff]; exact fun h => hl h.1⟩, Below.refl _ _⟩
    clear hl
    go_enter Tryd.func34, Tryd.ntmps34
    go_wp2_with fail
    go_ret
    exact HR.out
  have el : (((T.length : Nat) : Int) != ((U.length : Nat) : Int)) = false := by rw [hl]; simp
  have HL := Lib.hid hl
  clear hl
  go_enter Tryd.func34, Tryd.ntmps34
  go_wp2_with fail
  go_loopw [5] (fun i wr => ∃ k : Nat, k ≤ T.length ∧ i = .int .i64 k ∧ Hid (∀ (i : Nat) x y, i < k → T[i]? = some x → U[i]? = some y → Tr.like x y) ∧ Hid (Below w.heap.size w wr)) (fun i _ => T.length - (intOf i).toNat)
  case atStart => exact ⟨0, Nat.zero_le _, rfl, Lib.hid (fun i x y h => by omega), Lib.hid (Below.refl _ _)⟩
  case round =>
    obtain ⟨k, hk, rfl, HI, HB⟩ := hrel
    by_cases hlt : k < T.length
    · have hltu : k < U.length := by have := HL.out; omega
      obtain ⟨A2, c2, e2, _, hN⟩ := HN.out.later HB.out
      simp only [Value.slice.injEq] at e2
      obtain ⟨rfl, _, rfl⟩ := e2
      obtain ⟨b, off, rfl, hM⟩ := hN (by omega)
      obtain ⟨B2, d2, e3, _, hN2⟩ := HU.out.later HB.out
      simp only [Value.slice.injEq] at e3
      obtain ⟨rfl, _, rfl⟩ := e3
      obtain ⟨b2, off2, rfl, hM2⟩ := hN2 (by omega)
      have hx : T[k]? = some T[k] := List.getElem?_eq_getElem hlt
      have hy : U[k]? = some U[k] := List.getElem?_eq_getElem hltu
      have HX := Lib.hid hx
      have HY := Lib.hid hy
      obtain ⟨n0, n1, n2, n3, n4, n5, n6, n7⟩ := hM.at_ hx
      obtain ⟨q0, q1, q2, q3, q4, q5, q6, q7⟩ := hM2.at_ hy
      generalize T[k] = x at *
      generalize U[k] = y at *
      have hl2 : b2 < wr.heap.size := World.block_lt_of_cell? _ _ q0
      clear hx hy hN hM hN2 hM2
      have HBX : Hid (Box wr.heap.size ⟨x.kind, x.kids, x.n, x.s, x.t, x.u, y.line, y.col⟩ (wr.alloc (.cells #[.int .i8 x.kind, .int .i64 x.kids, .int .i64 x.n, .string x.s, .string x.t, .string x.u, .int .i64 y.line, .int .i64 y.col] 41))) := Lib.hid (box_alloc wr ⟨x.kind, x.kids, x.n, x.s, x.t, x.u, y.line, y.col⟩)
      have hb2 : Below wr.heap.size wr (wr.alloc (.cells #[.int .i8 x.kind, .int .i64 x.kids, .int .i64 x.n, .string x.s, .string x.t, .string x.u, .int .i64 x.line, .int .i64 x.col] 41)) := (Below.refl _ _).alloc (Nat.le_refl _) _
      have hb3 : Below wr.heap.size wr (wr.alloc (.cells #[.int .i8 x.kind, .int .i64 x.kids, .int .i64 x.n, .string x.s, .string x.t, .string x.u, .int .i64 y.line, .int .i64 y.col] 41)) := (Below.refl _ _).alloc (Nat.le_refl _) _
      have HB1 := Lib.hid (below_later hb3 HB.out)
      have p0 := cell_later hb2 q6
      have p1 := cell_later hb2 q7
      have r0 := cell_later hb3 q0
      have r1 := cell_later hb3 q1
      have r2 := cell_later hb3 q2
      have r3 := cell_later hb3 q3
      have r4 := cell_later hb3 q4
      have r5 := cell_later hb3 q5
      have r6 := cell_later hb3 q6
      have r7 := cell_later hb3 q7
      have hne : ¬ b2 = wr.heap.size := by omega
      clear hb2 hb3 HB
      go_wp2_with fail
      clear n0 n1 n2 n3 n4 n5 n6 n7 q0 q1 q2 q3 q4 q5 q6 q7 p0 p1
      generalize wr.alloc (.cells #[.int .i8 x.kind, .int .i64 x.kids, .int .i64 x.n, .string x.s, .string x.t, .string x.u, .int .i64 y.line, .int .i64 y.col] 41) = w3 at *
      generalize wr.heap.size = gx at *
      have c0 := HBX.out.cell 0
      have c1 := HBX.out.cell 1
      have c2 := HBX.out.cell 2
      have c3 := HBX.out.cell 3
      have c4 := HBX.out.cell 4
      have c5 := HBX.out.cell 5
      have c6 := HBX.out.cell 6
      have c7 := HBX.out.cell 7
      refine wp_region_plan (S := fun w' => (w'.cell? ⟨gx, 0, none⟩ = some (.int .i8 x.kind) ∧ w'.cell? ⟨gx, 1, none⟩ = some (.int .i64 x.kids) ∧ w'.cell? ⟨gx, 2, none⟩ = some (.int .i64 x.n) ∧ w'.cell? ⟨gx, 3, none⟩ = some (.string x.s) ∧ w'.cell? ⟨gx, 4, none⟩ = some (.string x.t) ∧ w'.cell? ⟨gx, 5, none⟩ = some (.string x.u) ∧ w'.cell? ⟨gx, 6, none⟩ = some (.int .i64 y.line) ∧ w'.cell? ⟨gx, 7, none⟩ = some (.int .i64 y.col)) ∧
          (w'.cell? ⟨b2, off2 + k * 8, none⟩ = some (.int .i8 y.kind) ∧ w'.cell? ⟨b2, off2 + k * 8 + 1, none⟩ = some (.int .i64 y.kids) ∧ w'.cell? ⟨b2, off2 + k * 8 + 2, none⟩ = some (.int .i64 y.n) ∧ w'.cell? ⟨b2, off2 + k * 8 + 3, none⟩ = some (.string y.s) ∧ w'.cell? ⟨b2, off2 + k * 8 + 4, none⟩ = some (.string y.t) ∧ w'.cell? ⟨b2, off2 + k * 8 + 5, none⟩ = some (.string y.u) ∧ w'.cell? ⟨b2, off2 + k * 8 + 6, none⟩ = some (.int .i64 y.line) ∧ w'.cell? ⟨b2, off2 + k * 8 + 7, none⟩ = some (.int .i64 y.col)))
        [(0, true), (1, true), (2, true), (3, true), (4, true), (5, true)] (by kernel_rfl) (by kernel_rfl) (by kernel_rfl) (fun _ _ _ _ _ h => h) ⟨⟨c0, c1, c2, c3, c4, c5, c6, c7⟩, ⟨r0, r1, r2, r3, r4, r5, r6, r7⟩⟩ ?_
      clear c0 c1 c2 c3 c4 c5 c6 c7 r0 r1 r2 r3 r4 r5 r6 r7
      intro HP
      repeat (first | (apply wpPlan_look; rfl; rfl; (intro wq hq; (try dsimp only at hq); go_split_ands; go_simp; (try rw [if_neg (by omega)]); (try rw [if_pos (by omega)]); try with_reducible rfl); simp only [Act.put, List.setIfInBounds_toArray, List.set_cons_zero, List.set_cons_succ]) | (apply wpPlan_skip; rfl; rfl; simp only [Act.put, List.setIfInBounds_toArray, List.set_cons_zero, List.set_cons_succ]) | (apply wpPlan_pass; rfl; rfl; assumption; simp only [Act.put, List.setIfInBounds_toArray, List.set_cons_zero, List.set_cons_succ]))
      obtain ⟨bb, hbb⟩ : ∃ bb : Bool, bb = !decide (x.kind = y.kind ∧ x.kids = y.kids ∧ x.n = y.n ∧ x.s = y.s ∧ x.t = y.t ∧ x.u = y.u) := ⟨_, rfl⟩
      refine wpPlan_look (v := .bool bb) rfl rfl (fun wq hq => by
        rw [hbb]
        simp [execOp, go_sem, toL_inj]
        by_cases h1 : x.kind = y.kind <;> by_cases h2 : x.kids = y.kids <;> by_cases h3 : x.n = y.n <;> by_cases h4 : x.s = y.s <;> by_cases h5 : x.t = y.t <;> by_cases h6 : x.u = y.u <;> simp [h1, h2, h3, h4, h5, h6]) ?_
      simp only [Act.put, List.setIfInBounds_toArray, List.set_cons_zero, List.set_cons_succ]
      apply wpPlan_done
      clear HP
      have HB2 := Lib.hid HB1.out.drew
      have HBB := Lib.hid hbb
      clear hbb
      cases bb with
      | true =>
        have HR : Hid (LikeRes T U w (.returned (.bool false)) w3.drew) := Lib.hid ⟨⟨false, rfl, by
          simp only [Bool.false_eq_true, false_iff]
          intro h
          have h1 := h.2 k x y HX.out HY.out
          have h2 := HBB.out
          have h4 : decide (x.kind = y.kind ∧ x.kids = y.kids ∧ x.n = y.n ∧ x.s = y.s ∧ x.t = y.t ∧ x.u = y.u) = true := decide_eq_true h1
          rw [h4] at h2
          cases h2⟩, HB2.out⟩
        clear HI HBB
        go_wp2_with fail
        go_ret
        exact HR.out
      | false =>
        have HI2 : Hid (∀ (i : Nat) x y, i < k + 1 → T[i]? = some x → U[i]? = some y → Tr.like x y) := Lib.hid (fun i x' y' hi h1 h2 => by
          rcases Nat.lt_or_ge i k with h | h
          · exact HI.out i x' y' h h1 h2
          · obtain rfl : i = k := by omega
            rw [HX.out] at h1
            rw [HY.out] at h2
            obtain rfl := Option.some.inj h1
            obtain rfl := Option.some.inj h2
            have h3 := HBB.out
            have h4 : decide (x.kind = y.kind ∧ x.kids = y.kids ∧ x.n = y.n ∧ x.s = y.s ∧ x.t = y.t ∧ x.u = y.u) = true := by
              cases hd : decide (x.kind = y.kind ∧ x.kids = y.kids ∧ x.n = y.n ∧ x.s = y.s ∧ x.t = y.t ∧ x.u = y.u) with
              | true => rfl
              | false => rw [hd] at h3; cases h3
            exact of_decide_eq_true h4)
        clear HI HBB
        go_wp2_with fail
        go_roundw
        case rel => exact ⟨k + 1, by omega, by go_num, HI2, HB2⟩
        case measure => simp [intOf]; omega
    · have HR : Hid (Tr.likeAll T U) := Lib.hid ⟨HL.out, fun i x y h1 h2 => HI.out i x y (by have := (List.getElem?_eq_some_iff.1 h1).1; omega) h1 h2⟩
      clear HI
      go_wp2_with fail
      go_ret
      exact ⟨⟨true, rfl, by simp only [true_iff]; exact HR.out⟩, HB.out⟩
end Go.Proofs.YtebameiaeldfiaaDoor

/- Walks of bags: one more list of numbers. -/
namespace Go.Proofs.YtebameiaeldfiaaDoor
set_option linter.unusedSimpArgs false
set_option linter.unusedVariables false
open Go.RowKit Go.Maps Culp

theorem keepN_put {a : Nat} {o : Option Nat} {w w5 : World} (hg : w.grownBy w5 o) (i : Nat) (u : Value) : KeepN a o w (w5.setCell ⟨a, i, none⟩ u) := by
  have hk : Keep a w5 (w5.setCell ⟨a, i, none⟩ u) := (Keep.refl a w5).setCell i u
  exact ⟨hk.os.trans hg.os, hk.tape.trans hg.tape, hk.output.trans hg.output, Nat.le_trans hg.size hk.size, fun k h1 h2 h3 => (hk.block k (Nat.lt_of_lt_of_le h1 hg.size) h2).trans (hg.block k h1 (fun e => h3 e.symm))⟩
theorem row_lits (w : World) (B g : Nat) (cs : Array Value) (e : TypeId) (n : Nat) (hB : B ≤ w.heap.size) (hg : w.heap.size = g) (hn : n ≤ 100) (hs : cs.size = n) : (w.alloc (.cells cs e)).ownsRow B e 1 (.slice (some ⟨g, 0, none⟩) n n) n cs.toList := by
  subst hg
  exact World.ownsRow_lit w cs n hB (by unfold maxLen; omega) (by rw [hs, Nat.mul_one])
/-- What a bag is after one more list. -/
def AddRes (gb B : Nat) (R : List Value) (L : Nat → Nat) (o : Option Nat) (v : Value) (w : World) (e : Ending) (w' : World) : Prop :=
  e = .returned (.tuple #[]) ∧ ∃ bv', Bag.Full 68 3 36 18 1 gb B (R ++ [v]) L bv' w' ∧ KeepN gb o w w' ∧ (bv'.ownBlock = o ∨ ∃ b, bv'.ownBlock = some b ∧ w.heap.size ≤ b)
set_option maxRecDepth 100000 in
set_option maxHeartbeats 1600000 in
theorem AddInts_any (gb B : Nat) (R : List Value) (L : Nat → Nat) (bv v : Value) (xs : List Value) (w : World) (h : Bag.Full 68 3 36 18 1 gb B R L bv w) (hv : w.ownsRow B 3 1 v (L R.length) xs) (hA : ∀ u ∈ R, Culp.Apart v u) (hR : R.length < 300) :
    Calls Tryd.prog 31 #[.pointer (some ⟨gb, 0, none⟩), v] w (AddRes gb B R L bv.ownBlock v w) := by
  have c1 := h.at_.cell
  have f1 := h.at_.free 1
  have HF := Lib.hid h
  have HV := Lib.hid hv
  have HA := Lib.hid hA
  have own4 := h.bag
  have hB := h.le
  obtain ⟨Av, cv, rfl⟩ := own_shape hv
  obtain ⟨Ab, cb, rfl⟩ := own_shape h.bag
  have hR2 : R.length < 300 := hR
  clear h hv hA
  go_enter Tryd.func31, Tryd.ntmps31
  go_wp2_with (at_builtin; refine append_agg_at rfl (.tmp 14) (.tmp 16) 50 36 rfl B _ 1 24 Tryd.underlying50 sints_info rfl (by decide) _ _ _ rfl own4 [.slice Av (L R.length) cv] rfl w.heap.size rfl rfl ?_ ?_ ?_ hB ?_)
  · first
      | rfl
      | (intro y hy; simp only [List.mem_cons, List.not_mem_nil, or_false] at hy; subst hy; rfl)
  · omega
  · omega
  intro bv' w5 hown' hg' hb' hat
  have hgb : gb < B := HF.out.lt
  have hne : (Value.slice Ab R.length cb).ownBlock ≠ some gb := fun he => by have := (HF.out.bag.lt gb he).1; omega
  have hF5 := HF.out.add (by decide) HV.out HA.out hown' hg' hb'
  obtain ⟨A5, k5, rfl⟩ := own_shape hown'
  have h5 : Bag.BagAt 68 18 1 gb (.slice Ab R.length cb) w5 := HF.out.at_.below hb' hgb
  have c5 := h5.cell
  have f5 := h5.free 1
  have HR : Hid (AddRes gb B R L (Value.slice Ab R.length cb).ownBlock (.slice Av (L R.length) cv) w (.returned (.tuple #[])) (w5.setCell ⟨gb, 1, none⟩ (.slice A5 (R.length + 1) k5))) := Lib.hid ⟨rfl, _, hF5, keepN_put hg' 1 _, by
    rcases hat with e | e
    · exact .inl e
    · exact .inr ⟨_, e, Nat.le_succ _⟩⟩
  clear hown' hg' hb' hat own4 h5 hF5 hne c1 f1 hgb
  go_wp2_with fail
  exact bodyPost_end (v := .tuple #[]) (by simp [results, Tryd.results31, go_sem]) rfl HR.out
end Go.Proofs.YtebameiaeldfiaaDoor

/- The walk of the statement TreeParts. -/
namespace Go.Proofs.YtebameiaeldfiaaDoor
set_option linter.unusedSimpArgs false
set_option linter.unusedVariables false
open Go.RowKit Go.Maps Culp

theorem below_later' {B : Nat} {W x y : World} (h : Below B W x) (hb : Below x.heap.size x y) (hB : B ≤ x.heap.size) : Below B W y := h.trans (hb.mono hB)
/-- The places that are asked for. -/
def plc (T : List Nd) (a : Int) : List Int := [a, -1, 0, 1, (T.length : Int) / 2, (T.length : Int) - 1, T.length, 4611686018427387904, -9223372036854775808]
def plcL (T : List Nd) (a : Int) (n : Nat) : Nat := (Tr.kidsOf T ((plc T a).getD n 0)).length
theorem kids_le (T : List Nd) (a : Int) : (Tr.kidsOf T a).length ≤ T.length := by
  unfold Tr.kidsOf
  split
  · simp
  · rename_i hb
    obtain ⟨m, x, k, rfl, hm, hx, h0, h1, _, _⟩ := Tr.behind_pos hb
    rw [show (m : Int).toNat = m from Int.toNat_natCast m, hx]
    have : ∀ (n p : Nat), (Tr.kidsFrom T n p).length = n := by
      intro n
      induction n with
      | zero => intro p; rfl
      | succ n ih => intro p; rw [Tr.kidsFrom, List.length_cons, ih]
    rw [this]
    simp only [Option.map_some, Option.getD_some]
    omega
theorem bag_start (w : World) (t : TypeId) (o : Obj) (K : Nat) (hK : K < 18) : Bag.BagAt t 18 K w.heap.size (.slice none 0 0) ((w.alloc (.cells #[.slice none 0 0, .slice none 0 0, .slice none 0 0, .slice none 0 0, .slice none 0 0, .slice none 0 0, .slice none 0 0, .slice none 0 0, .slice none 0 0, .slice none 0 0, .slice none 0 0, .slice none 0 0, .slice none 0 0, .slice none 0 0, .slice none 0 0, .slice none 0 0, .slice none 0 0, .slice none 0 0] t)).alloc o) := by
  refine ⟨(List.replicate 18 (Value.slice none 0 0)).toArray, ?_, rfl, ?_, fun j hj _ => ?_⟩
  · rw [Below.heap_alloc _ _ _ (by simp)]
    exact (MapKept.heap_alloc w _).1
  · rw [List.getElem?_toArray, List.getElem?_replicate, if_pos hK]
  · rw [List.getElem?_toArray, List.getElem?_replicate, if_pos hj]
set_option maxRecDepth 100000 in
set_option maxHeartbeats 12800000 in
theorem parts_walk (T U : List Nd) (tv uv : Value) (a : Int) (w : World) (hn : Nodes w tv T) (hu : Nodes w uv U) (hS : Sp w) (hT : T.length ≤ 1000000000000000) (hU : U.length ≤ 1000000000000000) (hkd : ∀ x ∈ T, x.kids ≤ 9223372036854775807) :
    Calls Tryd.prog 7 #[tv, uv, .int .i64 a] w (Makes (.bool true) w) := by
  have HN := Lib.hid hn
  have HU := Lib.hid hu
  have HS := Lib.hid hS
  have HK := Lib.hid hkd
  obtain ⟨A, c, rfl, hlc, _⟩ := hn
  obtain ⟨Au, cu, rfl, hlu, _⟩ := hu
  clear hS hkd
  go_enter Tryd.func7, Tryd.ntmps7
  go_wp2_with fail
  refine (works_any _ HS.out).mono ?_
  rintro e w1 ⟨rfl, hb1⟩
  have HB1 := Lib.hid hb1
  clear hb1
  by_cases hbig : 3000 < T.length
  · go_wp2_with fail
    go_ret
    exact Makes.mk rfl HB1.out
  by_cases hbig2 : 3000 < U.length
  · go_wp2_with fail
    go_ret
    exact Makes.mk rfl HB1.out
  have hT3 : T.length ≤ 3000 := by omega
  have hU3 : U.length ≤ 3000 := by omega
  clear hT hU
  go_wp2_with fail
  clear hbig hbig2
  refine (WideNodes_any T _ _ (HN.out.later HB1.out) (by omega)).mono ?_
  rintro e w2 ⟨g, rfl, hw2, hb2⟩
  have HB2 := Lib.hid (below_later hb2 HB1.out)
  have HW2 := Lib.hid hw2
  clear hw2 hb2 HB1
  go_wp2_with fail
  have HF0 : Hid (Bag.Full 68 3 36 18 1 w2.heap.size (w2.heap.size + 1) [] (plcL T a) (.slice none 0 0) ((w2.alloc (.cells #[.slice none 0 0, .slice none 0 0, .slice none 0 0, .slice none 0 0, .slice none 0 0, .slice none 0 0, .slice none 0 0, .slice none 0 0, .slice none 0 0, .slice none 0 0, .slice none 0 0, .slice none 0 0, .slice none 0 0, .slice none 0 0, .slice none 0 0, .slice none 0 0, .slice none 0 0, .slice none 0 0] 68)).alloc (.cells #[.int .i64 a, .int .i64 (-1), .int .i64 0, .int .i64 1, .int .i64 ((T.length : Int) / 2), .int .i64 ((T.length : Int) - 1), .int .i64 T.length, .int .i64 4611686018427387904, .int .i64 (-9223372036854775808)] 3))) := Lib.hid (Bag.Full.start (bag_start w2 _ _ 1 (by decide)) (Nat.lt_succ_self _) (by simp))
  have HP0 : Hid (((w2.alloc (.cells #[.slice none 0 0, .slice none 0 0, .slice none 0 0, .slice none 0 0, .slice none 0 0, .slice none 0 0, .slice none 0 0, .slice none 0 0, .slice none 0 0, .slice none 0 0, .slice none 0 0, .slice none 0 0, .slice none 0 0, .slice none 0 0, .slice none 0 0, .slice none 0 0, .slice none 0 0, .slice none 0 0] 68)).alloc (.cells #[.int .i64 a, .int .i64 (-1), .int .i64 0, .int .i64 1, .int .i64 ((T.length : Int) / 2), .int .i64 ((T.length : Int) - 1), .int .i64 T.length, .int .i64 4611686018427387904, .int .i64 (-9223372036854775808)] 3)).ownsRow (w2.heap.size + 1) 3 1 (.slice (some ⟨w2.heap.size + 1, 0, none⟩) 9 9) 9 ((plc T a).map (Value.int .i64))) := Lib.hid (row_lits _ _ _ #[.int .i64 a, .int .i64 (-1), .int .i64 0, .int .i64 1, .int .i64 ((T.length : Int) / 2), .int .i64 ((T.length : Int) - 1), .int .i64 T.length, .int .i64 4611686018427387904, .int .i64 (-9223372036854775808)] _ 9 (by simp) (by simp) (by omega) rfl)
  have HB0 : Hid (Below w2.heap.size w2 ((w2.alloc (.cells #[.slice none 0 0, .slice none 0 0, .slice none 0 0, .slice none 0 0, .slice none 0 0, .slice none 0 0, .slice none 0 0, .slice none 0 0, .slice none 0 0, .slice none 0 0, .slice none 0 0, .slice none 0 0, .slice none 0 0, .slice none 0 0, .slice none 0 0, .slice none 0 0, .slice none 0 0, .slice none 0 0] 68)).alloc (.cells #[.int .i64 a, .int .i64 (-1), .int .i64 0, .int .i64 1, .int .i64 ((T.length : Int) / 2), .int .i64 ((T.length : Int) - 1), .int .i64 T.length, .int .i64 4611686018427387904, .int .i64 (-9223372036854775808)] 3))) := Lib.hid (((Below.refl _ _).alloc (Nat.le_refl _) _).alloc (by simp) _)
  generalize (w2.alloc (.cells #[.slice none 0 0, .slice none 0 0, .slice none 0 0, .slice none 0 0, .slice none 0 0, .slice none 0 0, .slice none 0 0, .slice none 0 0, .slice none 0 0, .slice none 0 0, .slice none 0 0, .slice none 0 0, .slice none 0 0, .slice none 0 0, .slice none 0 0, .slice none 0 0, .slice none 0 0, .slice none 0 0] 68)).alloc (.cells #[.int .i64 a, .int .i64 (-1), .int .i64 0, .int .i64 1, .int .i64 ((T.length : Int) / 2), .int .i64 ((T.length : Int) - 1), .int .i64 T.length, .int .i64 4611686018427387904, .int .i64 (-9223372036854775808)] 3) = w3 at *
  have hgb0 := HB2.out.size
  obtain ⟨gb, hgb⟩ : ∃ gb, w2.heap.size = gb := ⟨_, rfl⟩
  rw [hgb] at HF0 HP0 HB0 hgb0 ⊢
  have HGB := Lib.hid hgb
  clear hgb
  go_loopw [11] (fun i wr => ∃ (R : List Value) (bv : Value), R.length ≤ 9 ∧ i = .int .i64 R.length ∧ Hid (Bag.Full 68 3 36 18 1 gb (gb + 1) R (plcL T a) bv wr) ∧ Hid (wr.ownsRow (gb + 1) 3 1 (.slice (some ⟨gb + 1, 0, none⟩) 9 9) 9 ((plc T a).map (Value.int .i64))) ∧ Hid (Below gb w2 wr)) (fun i _ => 9 - (intOf i).toNat)
  case atStart => exact ⟨[], _, Nat.zero_le _, rfl, HF0, HP0, HB0⟩
  case round =>
    clear HF0 HP0 HB0
    obtain ⟨R, bv, hR, rfl, HF, HP, HB⟩ := hrel
    obtain ⟨w4, rfl⟩ : ∃ w4, w4 = wr := ⟨_, rfl⟩
    by_cases hlt : R.length < 9
    · obtain ⟨p, hp⟩ : ∃ p, (plc T a)[R.length]? = some p := ⟨_, List.getElem?_eq_getElem (by show R.length < 9; exact hlt)⟩
      have HPL : Hid (plcL T a R.length = (Tr.kidsOf T p).length) := Lib.hid (by unfold plcL; rw [List.getD_eq_getElem?_getD, hp]; rfl)
      have x0 : w4.cell? ⟨gb + 1, R.length, none⟩ = some (.int .i64 p) := (own_get HP.out (by rw [List.getElem?_map, hp]; rfl)).1
      have hkl := kids_le T p
      clear hp
      have HBW : Hid (Below w.heap.size w w4) := Lib.hid (HB2.out.trans (HB.out.mono hgb0))
      have HW4 : Hid (NodesAt w4 g 0 (T ++ marks T.length)) := Lib.hid (HW2.out.later (by rw [HGB.out]; exact HB.out))
      go_wp2_with fail
      refine (tBehind_any T _ p _ (wide_nodes HW4.out) (by omega)).mono ?_
      rintro e w5 ⟨rfl, hb5⟩
      have HF5 := Lib.hid (HF.out.later hb5)
      have HP5 := Lib.hid (own_later HP.out hb5)
      have HB5 := Lib.hid (below_later' HB.out hb5 (Nat.le_trans (by rw [← HGB.out]; exact Nat.le_refl _) HB.out.size))
      have x0 := cell_later hb5 x0
      have HW5 := Lib.hid (HW4.out.later hb5)
      have HBW5 := Lib.hid (below_later hb5 HBW.out)
      obtain ⟨bh, hbh⟩ : ∃ bh, Tr.behind T p = bh := ⟨_, rfl⟩
      rw [hbh]
      have HBH := Lib.hid hbh
      clear hbh
      clear hb5 HF HP HB HW4 HBW
      go_wp2_with fail
      refine (tKids_any T _ p _ (wide_nodes HW5.out) (by omega)).mono ?_
      rintro e w6 ⟨kv, rfl, hown, hb6⟩
      have HFR : Hid (∀ u ∈ R, Culp.Apart kv u) := Lib.hid (HF5.out.fresh hown)
      have HKV : Hid (w6.ownsRow (gb + 1) 3 1 kv (Tr.kidsOf T p).length ((Tr.kidsOf T p).map natV)) := Lib.hid (own_base hown HF5.out.le)
      have HF6 := Lib.hid (HF5.out.later hb6)
      have HP6 := Lib.hid (own_later HP5.out hb6)
      have HB6 : Hid (Below gb w2 w6) := Lib.hid (below_later' HB5.out hb6 (Nat.le_trans (by rw [← HGB.out]; exact Nat.le_refl _) HB5.out.size))
      have x0 := cell_later hb6 x0
      have HW6 := Lib.hid (HW5.out.later hb6)
      have HBW6 := Lib.hid (below_later hb6 HBW5.out)
      obtain ⟨Ak, ck, rfl⟩ := own_shape hown
      clear hb6 hown HF5 HP5 HB5 HW5 HBW5
      go_wp2_with fail
      refine (rBehind_any T _ p _ (HN.out.later HBW6.out) (by omega)).mono ?_
      rintro e w' ⟨rfl, rfl⟩
      rw [HBH.out]
      go_wp2_with fail
      refine (rKids_any T _ p _ (HN.out.later HBW6.out) (by omega)).mono ?_
      rintro e w7 ⟨rv, rfl, hown, hb7⟩
      have HRV := Lib.hid hown
      have HKV7 := Lib.hid (own_later HKV.out hb7)
      have HF7 := Lib.hid (HF6.out.later hb7)
      have HP7 := Lib.hid (own_later HP6.out hb7)
      have HB7 : Hid (Below gb w2 w7) := Lib.hid (below_later' HB6.out hb7 (Nat.le_trans (by rw [← HGB.out]; exact Nat.le_refl _) HB6.out.size))
      obtain ⟨Ar, cr, rfl⟩ := own_shape hown
      clear hb7 hown HKV HF6 HP6 HB6 HW6 HBW6 x0
      go_wp2_with fail
      refine (EqInts_same (Tr.kidsOf T p) _ _ _ _ _ HKV7.out HRV.out (by omega)).mono ?_
      rintro e w8 ⟨rfl, hb8⟩
      have HKV8 := Lib.hid (own_later HKV7.out hb8)
      have HF8 := Lib.hid (HF7.out.later hb8)
      have HP8 := Lib.hid (own_later HP7.out hb8)
      have HB8 : Hid (Below gb w2 w8) := Lib.hid (below_later' HB7.out hb8 (Nat.le_trans (by rw [← HGB.out]; exact Nat.le_refl _) HB7.out.size))
      clear hb8 HKV7 HF7 HP7 HB7 HRV
      go_wp2_with fail
      refine (AddInts_any gb (gb + 1) R (plcL T a) bv _ _ _ HF8.out (by rw [HPL.out]; exact HKV8.out) HFR.out (by omega)).mono ?_
      rintro e w9 ⟨rfl, bv', hF9, hKN9, hV9⟩
      have HF9 := Lib.hid hF9
      have HP9 : Hid (w9.ownsRow (gb + 1) 3 1 (.slice (some ⟨gb + 1, 0, none⟩) 9 9) 9 ((plc T a).map (Value.int .i64))) := Lib.hid (hKN9.own HP8.out (fun he => Nat.succ_ne_self gb (Option.some.inj he)) (fun k hk he => own_apart_type HF8.out.bag HP8.out (by decide) k he hk))
      have HB9 : Hid (Below gb w2 w9) := Lib.hid (hKN9.below HB8.out (Nat.le_trans (by rw [← HGB.out]; exact Nat.le_refl _) HB8.out.size) (Nat.le_refl _) (fun k hk => by have := (HF8.out.bag.lt k hk).1; omega))
      have hl9 : (R ++ [Value.slice Ak (Tr.kidsOf T p).length ck]).length ≤ 9 := by rw [List.length_append, List.length_singleton]; omega
      have el9 : ((R ++ [Value.slice Ak (Tr.kidsOf T p).length ck]).length : Int) = (R.length : Int) + 1 := by rw [List.length_append, List.length_singleton]; omega
      have HEL := Lib.hid el9
      clear hF9 hKN9 hV9 HF8 HP8 HB8 HKV8 HFR el9
      go_wp2_with fail
      go_roundw
      case rel => exact ⟨R ++ [Value.slice Ak (Tr.kidsOf T p).length ck], bv', hl9, by rw [HEL.out], HF9, HP9, HB9⟩
      case measure => simp [intOf]; omega
    · have hR9 : R.length = 9 := by omega
      have HBW : Hid (Below w.heap.size w w4) := Lib.hid (HB2.out.trans (HB.out.mono hgb0))
      have HW4 : Hid (NodesAt w4 g 0 (T ++ marks T.length)) := Lib.hid (HW2.out.later (by rw [HGB.out]; exact HB.out))
      clear HP HB
      go_wp2_with fail
      refine (tDeep_any T _ _ (wide_nodes HW4.out) (by omega)).mono ?_
      rintro e w5 ⟨rfl, hb5⟩
      have HF5 := Lib.hid (HF.out.later hb5)
      have HW5 := Lib.hid (HW4.out.later hb5)
      have HBW5 := Lib.hid (below_later hb5 HBW.out)
      obtain ⟨dp, hdp⟩ : ∃ dp, Tr.deepOf T = dp := ⟨_, rfl⟩
      rw [hdp]
      have HDP := Lib.hid hdp
      clear hb5 HF HW4 HBW hdp
      go_wp2_with fail
      refine (rDeep_any T _ _ (HN.out.later HBW5.out) (by omega) HK.out).mono ?_
      rw [HDP.out]
      rintro e w6 ⟨rfl, hb6⟩
      have HF6 := Lib.hid (HF5.out.later hb6)
      have HW6 := Lib.hid (HW5.out.later hb6)
      have HBW6 := Lib.hid (below_later hb6 HBW5.out)
      clear hb6 HF5 HW5 HBW5
      go_wp2_with fail
      refine (tEqual_any T U _ _ _ (wide_nodes HW6.out) (HU.out.later HBW6.out) (by omega) (by omega)).mono ?_
      rintro e w7 ⟨⟨b1, rfl, h1⟩, hb7⟩
      have HQ1 := Lib.hid h1
      have HF7 := Lib.hid (HF6.out.later hb7)
      have HW7 := Lib.hid (HW6.out.later hb7)
      have HBW7 := Lib.hid (below_later hb7 HBW6.out)
      clear hb7 HF6 HW6 HBW6 h1
      go_wp2_with fail
      refine (rEqual_any T U _ _ _ (HN.out.later HBW7.out) (HU.out.later HBW7.out) (by omega) (by omega)).mono ?_
      rintro e w8 ⟨⟨b2, rfl, h2⟩, hb8⟩
      have hbb : b2 = b1 := by rw [Bool.eq_iff_iff, h2]; exact HQ1.out.symm
      subst hbb
      have HF8 := Lib.hid (HF7.out.later hb8)
      have HW8 := Lib.hid (HW7.out.later hb8)
      have HBW8 := Lib.hid (below_later hb8 HBW7.out)
      have ebb : (b2 != b2) = false := by cases b2 <;> rfl
      clear hb8 HF7 HW7 HBW7 h2 HQ1
      go_wp2_with fail
      refine (tEqual_any T T _ _ _ (wide_nodes HW8.out) (HN.out.later HBW8.out) (by omega) (by omega)).mono ?_
      rintro e w9 ⟨⟨b3, rfl, h3⟩, hb9⟩
      have hb3 : b3 = true := h3.2 ⟨rfl, fun i x y hx hy => by rw [hx] at hy; obtain rfl := Option.some.inj hy; exact ⟨rfl, rfl, rfl, rfl, rfl, rfl⟩⟩
      subst hb3
      have HF9 := Lib.hid (HF8.out.later hb9)
      have HW9 := Lib.hid (HW8.out.later hb9)
      have HBW9 := Lib.hid (below_later hb9 HBW8.out)
      clear hb9 HF8 HW8 HBW8 h3
      go_wp2_with fail
      refine (ApartInts_any gb (gb + 1) R (plcL T a) bv _ HF9.out (by omega) (fun n => Nat.le_trans (kids_le T _) (by omega))).mono ?_
      rintro e w10 ⟨rfl, hb10⟩
      have hsz := HF9.out.le
      have HW10 : Hid (NodesAt w10 g 0 (T ++ marks T.length)) := Lib.hid (fun i x hx j u hj => by
        have hc := HW2.out i x hx j u hj
        have hlt := World.block_lt_of_cell? _ _ hc
        have hc9 := HW9.out i x hx j u hj
        rw [World.cell?_of_block (w := w9) (hb10.block _ (by rw [HGB.out] at hlt; exact Nat.lt_succ_of_lt hlt))]
        exact hc9)
      have HBW10 : Hid (Below w.heap.size w w10) := Lib.hid (HBW9.out.trans (hb10.mono (by omega)))
      clear hb10 HF9 HW9 HBW9
      go_wp2_with fail
      refine (EqNodes_same T _ _ _ (wide_nodes HW10.out) (HN.out.later HBW10.out) (by omega)).mono ?_
      rintro e w11 ⟨rfl, hb11⟩
      have HBW11 := Lib.hid (below_later hb11 HBW10.out)
      have HW11 := Lib.hid (HW10.out.later hb11)
      clear hb11 HW10 HBW10
      go_wp2_with fail
      refine (SpareNodes_any T g _ HW11.out (by omega)).mono ?_
      rintro e w12 ⟨rfl, hb12⟩
      have HBW12 := Lib.hid (below_later hb12 HBW11.out)
      clear hb12
      go_wp2_with fail
      go_ret
      exact Makes.mk rfl HBW12.out
end Go.Proofs.YtebameiaeldfiaaDoor

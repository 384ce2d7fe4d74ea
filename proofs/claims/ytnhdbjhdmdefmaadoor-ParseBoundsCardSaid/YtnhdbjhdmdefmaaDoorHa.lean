
/- Walks of trees: likeness of any two lists. -/
import Derived.Test.YtnhdbjhdmdefmaaDoorTrW
namespace Culp.Tr
set_option linter.unusedSimpArgs false
set_option linter.unusedVariables false
/-- Two nodes, but for their places. -/
def like (x y : Nd) : Prop := x.kind = y.kind ∧ x.kids = y.kids ∧ x.n = y.n ∧ x.s = y.s ∧ x.t = y.t ∧ x.u = y.u
instance likeDec (x y : Nd) : Decidable (like x y) := inferInstanceAs (Decidable (_ ∧ _))
def likeAll (T U : List Nd) : Prop := T.length = U.length ∧ ∀ (i : Nat) x y, T[i]? = some x → U[i]? = some y → like x y
end Culp.Tr
namespace Go.Proofs.YtnhdbjhdmdefmaaDoor
set_option linter.unusedSimpArgs false
set_option linter.unusedVariables false
set_option linter.unusedSimpArgs false
set_option linter.unusedVariables false
open Go.RowKit Go.Maps Culp

theorem toL_inj (a b : ByteArray) : a.toList = b.toList ↔ a = b := ⟨fun h => str_inj' (by rw [← toL', ← toL']; exact h), fun h => by rw [h]⟩
/-- Are they alike? -/
def LikeRes (T U : List Nd) (w : World) (e : Ending) (w' : World) : Prop := (∃ b : Bool, e = .returned (.bool b) ∧ (b = true ↔ Tr.likeAll T U)) ∧ Below w.heap.size w w'
set_option maxRecDepth 100000 in
set_option maxHeartbeats 3200000 in
theorem tEqual_any (T U : List Nd) (tv uv : Value) (w : World) (hn : Nodes w tv T) (hu : Nodes w uv U) (hT : T.length ≤ 100000000000) (hU : U.length ≤ 100000000000) :
    Calls Tryd.prog 13 #[tv, uv] w (LikeRes T U w) := by
  have HN := Lib.hid hn
  have HU := Lib.hid hu
  obtain ⟨A, c, rfl, hlc, _⟩ := hn
  obtain ⟨B, d, rfl, hld, _⟩ := hu
  by_cases hl : T.length = U.length
  rotate_left
  · have el : (((T.length : Nat) : Int) != ((U.length : Nat) : Int)) = true := by rw [bne, beq_eq_false_iff_ne.2 (by omega)]; rfl
    have HR : Hid (LikeRes T U w (.returned (.bool false)) w) := Lib.hid ⟨⟨false, rfl, by simp only [Bool.false_eq_true, false_iff]; exact fun h => hl h.1⟩, Below.refl _ _⟩
    clear hl
    go_enter Tryd.func13, Tryd.ntmps13
    go_wp2_with fail
    go_ret
    exact HR.out
  have el : (((T.length : Nat) : Int) != ((U.length : Nat) : Int)) = false := by rw [hl]; simp
  have HL := Lib.hid hl
  clear hl
  go_enter Tryd.func13, Tryd.ntmps13
  go_wp2_with fail
  go_loopw [14] (fun i wr => ∃ k : Nat, k ≤ T.length ∧ i = .int .i64 k ∧ Hid (∀ (i : Nat) x y, i < k → T[i]? = some x → U[i]? = some y → Tr.like x y) ∧ Hid (Below w.heap.size w wr)) (fun i _ => T.length - (intOf i).toNat)
  case atStart => exact ⟨0, Nat.zero_le _, rfl, Lib.hid (fun i x y h => by omega), Lib.hid (Below.refl _ _)⟩
  case round =>
    obtain ⟨k, hk, rfl, HI, HB⟩ := hrel
    by_cases hlt : k < T.length
    · have hltu : k < U.length := by have := HL.out; omega
      obtain ⟨A2, c2, e2, _, hN⟩ := HN.out.later HB.out
      simp only [Value.slice.injEq] at e2
      obtain ⟨rfl, _, rfl⟩ := e2
      obtain ⟨b, off, rfl, hM⟩ := hN (by omega)
      obtain ⟨B2, d2, e3, _, hN2⟩ := HU.out.later HB.out
      simp only [Value.slice.injEq] at e3
      obtain ⟨rfl, _, rfl⟩ := e3
      obtain ⟨b2, off2, rfl, hM2⟩ := hN2 (by omega)
      have hx : T[k]? = some T[k] := List.getElem?_eq_getElem hlt
      have hy : U[k]? = some U[k] := List.getElem?_eq_getElem hltu
      have HX := Lib.hid hx
      have HY := Lib.hid hy
      obtain ⟨n0, n1, n2, n3, n4, n5, n6, n7⟩ := hM.at_ hx
      obtain ⟨q0, q1, q2, q3, q4, q5, q6, q7⟩ := hM2.at_ hy
      generalize T[k] = x at *
      generalize U[k] = y at *
      have hl2 : b2 < wr.heap.size := World.block_lt_of_cell? _ _ q0
      clear hx hy hN hM hN2 hM2
      have HBX : Hid (Box wr.heap.size ⟨x.kind, x.kids, x.n, x.s, x.t, x.u, y.line, y.col⟩ (wr.alloc (.cells #[.int .i8 x.kind, .int .i64 x.kids, .int .i64 x.n, .string x.s, .string x.t, .string x.u, .int .i64 y.line, .int .i64 y.col] 42))) := Lib.hid (box_alloc wr ⟨x.kind, x.kids, x.n, x.s, x.t, x.u, y.line, y.col⟩)
      have hb2 : Below wr.heap.size wr (wr.alloc (.cells #[.int .i8 x.kind, .int .i64 x.kids, .int .i64 x.n, .string x.s, .string x.t, .string x.u, .int .i64 x.line, .int .i64 x.col] 42)) := (Below.refl _ _).alloc (Nat.le_refl _) _
      have hb3 : Below wr.heap.size wr (wr.alloc (.cells #[.int .i8 x.kind, .int .i64 x.kids, .int .i64 x.n, .string x.s, .string x.t, .string x.u, .int .i64 y.line, .int .i64 y.col] 42)) := (Below.refl _ _).alloc (Nat.le_refl _) _
      have HB1 := Lib.hid (below_later hb3 HB.out)
      have p0 := cell_later hb2 q6
      have p1 := cell_later hb2 q7
      have r0 := cell_later hb3 q0
      have r1 := cell_later hb3 q1
      have r2 := cell_later hb3 q2
      have r3 := cell_later hb3 q3
      have r4 := cell_later hb3 q4
      have r5 := cell_later hb3 q5
      have r6 := cell_later hb3 q6
      have r7 := cell_later hb3 q7
      have hne : ¬ b2 = wr.heap.size := by omega
      clear hb2 hb3 HB
      go_wp2_with fail
      clear n0 n1 n2 n3 n4 n5 n6 n7 q0 q1 q2 q3 q4 q5 q6 q7 p0 p1
      generalize wr.alloc (.cells #[.int .i8 x.kind, .int .i64 x.kids, .int .i64 x.n, .string x.s, .string x.t, .string x.u, .int .i64 y.line, .int .i64 y.col] 42) = w3 at *
      generalize wr.heap.size = gx at *
      have c0 := HBX.out.cell 0
      have c1 := HBX.out.cell 1
      have c2 := HBX.out.cell 2
      have c3 := HBX.out.cell 3
      have c4 := HBX.out.cell 4
      have c5 := HBX.out.cell 5
      have c6 := HBX.out.cell 6
      have c7 := HBX.out.cell 7
      refine wp_region_plan (S := fun w' => (w'.cell? ⟨gx, 0, none⟩ = some (.int .i8 x.kind) ∧ w'.cell? ⟨gx, 1, none⟩ = some (.int .i64 x.kids) ∧ w'.cell? ⟨gx, 2, none⟩ = some (.int .i64 x.n) ∧ w'.cell? ⟨gx, 3, none⟩ = some (.string x.s) ∧ w'.cell? ⟨gx, 4, none⟩ = some (.string x.t) ∧ w'.cell? ⟨gx, 5, none⟩ = some (.string x.u) ∧ w'.cell? ⟨gx, 6, none⟩ = some (.int .i64 y.line) ∧ w'.cell? ⟨gx, 7, none⟩ = some (.int .i64 y.col)) ∧
          (w'.cell? ⟨b2, off2 + k * 8, none⟩ = some (.int .i8 y.kind) ∧ w'.cell? ⟨b2, off2 + k * 8 + 1, none⟩ = some (.int .i64 y.kids) ∧ w'.cell? ⟨b2, off2 + k * 8 + 2, none⟩ = some (.int .i64 y.n) ∧ w'.cell? ⟨b2, off2 + k * 8 + 3, none⟩ = some (.string y.s) ∧ w'.cell? ⟨b2, off2 + k * 8 + 4, none⟩ = some (.string y.t) ∧ w'.cell? ⟨b2, off2 + k * 8 + 5, none⟩ = some (.string y.u) ∧ w'.cell? ⟨b2, off2 + k * 8 + 6, none⟩ = some (.int .i64 y.line) ∧ w'.cell? ⟨b2, off2 + k * 8 + 7, none⟩ = some (.int .i64 y.col)))
        [(0, true), (1, true), (2, true), (3, true), (4, true), (5, true)] (by kernel_rfl) (by kernel_rfl) (by kernel_rfl) (fun _ _ _ _ _ h => h) ⟨⟨c0, c1, c2, c3, c4, c5, c6, c7⟩, ⟨r0, r1, r2, r3, r4, r5, r6, r7⟩⟩ ?_
      clear c0 c1 c2 c3 c4 c5 c6 c7 r0 r1 r2 r3 r4 r5 r6 r7
      intro HP
      repeat (first | (apply wpPlan_look; rfl; rfl; (intro wq hq; (try dsimp only at hq); go_split_ands; go_simp; (try rw [if_neg (by omega)]); (try rw [if_pos (by omega)]); try with_reducible rfl); simp only [Act.put, List.setIfInBounds_toArray, List.set_cons_zero, List.set_cons_succ]) | (apply wpPlan_skip; rfl; rfl; simp only [Act.put, List.setIfInBounds_toArray, List.set_cons_zero, List.set_cons_succ]) | (apply wpPlan_pass; rfl; rfl; assumption; simp only [Act.put, List.setIfInBounds_toArray, List.set_cons_zero, List.set_cons_succ]))
      obtain ⟨bb, hbb⟩ : ∃ bb : Bool, bb = !decide (x.kind = y.kind ∧ x.kids = y.kids ∧ x.n = y.n ∧ x.s = y.s ∧ x.t = y.t ∧ x.u = y.u) := ⟨_, rfl⟩
      refine wpPlan_look (v := .bool bb) rfl rfl (fun wq hq => by
        rw [hbb]
        simp [execOp, go_sem, toL_inj]
        by_cases h1 : x.kind = y.kind <;> by_cases h2 : x.kids = y.kids <;> by_cases h3 : x.n = y.n <;> by_cases h4 : x.s = y.s <;> by_cases h5 : x.t = y.t <;> by_cases h6 : x.u = y.u <;> simp [h1, h2, h3, h4, h5, h6]) ?_
      simp only [Act.put, List.setIfInBounds_toArray, List.set_cons_zero, List.set_cons_succ]
      apply wpPlan_done
      clear HP
      have HB2 := Lib.hid HB1.out.drew
      have HBB := Lib.hid hbb
      clear hbb
      cases bb with
      | true =>
        have HR : Hid (LikeRes T U w (.returned (.bool false)) w3.drew) := Lib.hid ⟨⟨false, rfl, by
          simp only [Bool.false_eq_true, false_iff]
          intro h
          have h1 := h.2 k x y HX.out HY.out
          have h2 := HBB.out
          have h4 : decide (x.kind = y.kind ∧ x.kids = y.kids ∧ x.n = y.n ∧ x.s = y.s ∧ x.t = y.t ∧ x.u = y.u) = true := decide_eq_true h1
          rw [h4] at h2
          cases h2⟩, HB2.out⟩
        clear HI HBB
        go_wp2_with fail
        go_ret
        exact HR.out
      | false =>
        have HI2 : Hid (∀ (i : Nat) x y, i < k + 1 → T[i]? = some x → U[i]? = some y → Tr.like x y) := Lib.hid (fun i x' y' hi h1 h2 => by
          rcases Nat.lt_or_ge i k with h | h
          · exact HI.out i x' y' h h1 h2
          · obtain rfl : i = k := by omega
            rw [HX.out] at h1
            rw [HY.out] at h2
            obtain rfl := Option.some.inj h1
            obtain rfl := Option.some.inj h2
            have h3 := HBB.out
            have h4 : decide (x.kind = y.kind ∧ x.kids = y.kids ∧ x.n = y.n ∧ x.s = y.s ∧ x.t = y.t ∧ x.u = y.u) = true := by
              cases hd : decide (x.kind = y.kind ∧ x.kids = y.kids ∧ x.n = y.n ∧ x.s = y.s ∧ x.t = y.t ∧ x.u = y.u) with
              | true => rfl
              | false => rw [hd] at h3; cases h3
            exact of_decide_eq_true h4)
        clear HI HBB
        go_wp2_with fail
        go_roundw
        case rel => exact ⟨k + 1, by omega, by go_num, HI2, HB2⟩
        case measure => simp [intOf]; omega
    · have HR : Hid (Tr.likeAll T U) := Lib.hid ⟨HL.out, fun i x y h1 h2 => HI.out i x y (by have := (List.getElem?_eq_some_iff.1 h1).1; omega) h1 h2⟩
      clear HI
      go_wp2_with fail
      go_ret
      exact ⟨⟨true, rfl, by simp only [true_iff]; exact HR.out⟩, HB.out⟩
end Go.Proofs.YtnhdbjhdmdefmaaDoor


/- Walks of parse: what is refused is caught. -/
import Derived.Test.YtnhdbjhdmdefmaaDoorZu
import Derived.Defers
import Derived.Recover
import Derived.Laws.Pointers
namespace Culp.Gr
set_option linter.unusedSimpArgs false
set_option linter.unusedVariables false
open Go Go.RowKit Culp Culp.Tr Go.Proofs.YtnhdbjhdmdefmaaDoor
theorem blk_other {a b j : Nat} {cs : Array Value} {t : TypeId} {w : World} (h : Blk a cs t w) (hb : b ≠ a) (u : Value) : Blk a cs t (w.setCell ⟨b, j, none⟩ u) := by
  unfold Blk at *
  rw [Below.heap_setCell _ _ _ _ (by simpa using hb.symm)]
  exact h
theorem far_cell {a b i j : Nat} {v : Value} {w : World} (h : w.cell? ⟨a, i, none⟩ = some v) (hb : b ≠ a) (u : Value) : (w.setCell ⟨b, j, none⟩ u).cell? ⟨a, i, none⟩ = some v := by
  rw [World.cell?_of_block (w := w) (Below.heap_setCell _ _ _ _ (by simpa using hb.symm))]
  exact h
theorem cmode_same {c₀ : Frame} {cs : List Frame} {u : FrameMode} (hu : c₀.mode = u) : c₀ :: cs = { c₀ with mode := u } :: cs := by cases c₀; simp_all
end Culp.Gr
namespace Go.Proofs.YtnhdbjhdmdefmaaDoor
set_option linter.unusedSimpArgs false
set_option linter.unusedVariables false
open Go.RowKit Culp Culp.Tr Culp.Gr
theorem assert_refused (x y : Int) (w : World) : (Instr.typeAssert (.iface 76 (.agg #[.int .i64 x, .int .i64 y])) 20 76 true).run Tryd.prog w = .ok (.tuple #[.agg #[.int .i64 x, .int .i64 y], .bool true]) w := by kernel_rfl
theorem acatch_idle (a b d : Nat) (w : World) :
    CallsD Tryd.prog 27 #[.pointer (some ⟨a, 0, none⟩), .pointer (some ⟨b, 0, none⟩), .pointer (some ⟨d, 0, none⟩)] .returning w fun e u' w' => e = .returned (.tuple #[]) ∧ u' = .returning ∧ w = w' := by
  refine callsD_of_wpS Tryd.func27 rfl fun c₀ cs hu => ?_
  simp only [Tryd.ntmps27, Array.replicate, List.replicate, List.size_toArray, List.length_cons, List.length_nil]
  apply wpS_seq
  apply wpS_region
  simp [wpOpsS, go_sem, recoverD, hu, Exit.thenS]
  refine wpS_of_wp ?_
  go_wp2
  exact ⟨rfl, _, cmode_same hu, _, results_none rfl _ _ _, rfl, rfl, rfl⟩
theorem acatch_refused (a b d B : Nat) (p q : Int) (x y z1 z2 : Value) (older : List PanicEntry) (w : World) (hx : Blk a #[x] 52 w) (hy : Blk b #[y] 23 w) (hz : Blk d #[z1, z2] 25 w)
    (hab : a ≠ b) (had : a ≠ d) (hbd : b ≠ d) (ha : B ≤ a) (hb : B ≤ b) (hd : B ≤ d) :
    CallsD Tryd.prog 27 #[.pointer (some ⟨a, 0, none⟩), .pointer (some ⟨b, 0, none⟩), .pointer (some ⟨d, 0, none⟩)] (.panicking ({ v := .iface 76 (.agg #[.int .i64 p, .int .i64 q]), recovered := false } :: older)) w fun en u' w' =>
      en = .returned (.tuple #[]) ∧ u' = .panicking ({ v := .iface 76 (.agg #[.int .i64 p, .int .i64 q]), recovered := true } :: older) ∧
      (Blk a #[.pointer none] 52 w' ∧ Blk b #[.int .i64 15] 23 w' ∧ Blk d #[.int .i64 p, .int .i64 q] 25 w') ∧ Below B w w' := by
  have hta := @assert_refused
  have hal := hx.lt
  have hbl := hy.lt
  have hdl := hz.lt
  have hx' := Lib.hid hx
  have hy' := Lib.hid hy
  have hz' := Lib.hid hz
  clear hx hy hz
  refine callsD_of_wpS Tryd.func27 rfl fun c₀ cs hu => ?_
  simp only [Tryd.ntmps27, Array.replicate, List.replicate, List.size_toArray, List.length_cons, List.length_nil]
  apply wpS_seq
  apply wpS_region
  simp [wpOpsS, go_sem, recoverD, hu, Exit.thenS]
  refine wpS_of_wp ?_
  go_wp2
  have hB0 : Below w.heap.size w (w.alloc (.cells #[.int .i64 p, .int .i64 q] 76)) := (Below.refl _ _).alloc (Nat.le_refl _) _
  have f0 : (w.alloc (.cells #[.int .i64 p, .int .i64 q] 76)).cell? ⟨w.heap.size, 0, none⟩ = some (.int .i64 p) := by go_simp
  have f1 : (w.alloc (.cells #[.int .i64 p, .int .i64 q] 76)).cell? ⟨w.heap.size, 1, none⟩ = some (.int .i64 q) := by go_simp
  have ox : Blk a #[x] 52 (w.alloc (.cells #[.int .i64 p, .int .i64 q] 76)).drew := (hB0.drew.block a hal).trans hx'.out
  have oy : Blk b #[y] 23 (w.alloc (.cells #[.int .i64 p, .int .i64 q] 76)).drew := (hB0.drew.block b hbl).trans hy'.out
  have oz : Blk d #[z1, z2] 25 (w.alloc (.cells #[.int .i64 p, .int .i64 q] 76)).drew := (hB0.drew.block d hdl).trans hz'.out
  have hB1 : Below B w (w.alloc (.cells #[.int .i64 p, .int .i64 q] 76)).drew := (hB0.mono (by omega)).drew
  generalize w.alloc (.cells #[.int .i64 p, .int .i64 q] 76) = w0 at *
  refine wp_region_plan (S := fun w' => w'.cell? ⟨w.heap.size, 0, none⟩ = some (.int .i64 p) ∧ w'.cell? ⟨w.heap.size, 1, none⟩ = some (.int .i64 q))
    [(0, true), (1, true), (2, false), (3, false), (4, false)] (by kernel_rfl) (by kernel_rfl) (by kernel_rfl) (fun _ _ _ _ _ h => h) ⟨f0, f1⟩ ?_
  intro HS
  repeat (first | (apply wpPlan_look; rfl; rfl; (intro wq hq; (try dsimp only at hq); go_split_ands; go_simp; (try rw [if_neg (by omega)]); (try rw [if_pos (by omega)]); try with_reducible rfl); simp only [Act.put, List.setIfInBounds_toArray, List.set_cons_zero, List.set_cons_succ]) | (apply wpPlan_skip; rfl; rfl; simp only [Act.put, List.setIfInBounds_toArray, List.set_cons_zero, List.set_cons_succ]) | (apply wpPlan_pass; rfl; rfl; assumption; simp only [Act.put, List.setIfInBounds_toArray, List.set_cons_zero, List.set_cons_succ]))
  clear f0 f1 hB0
  generalize w0.drew = w1 at *
  have o1 : Blk a #[.pointer none] 52 (w1.setCell ⟨a, 0, none⟩ (.pointer none)) := blk_set ox 0 _
  have oy1 := blk_other (j := 0) oy hab (.pointer none)
  have oz1 := blk_other (j := 0) oz had (.pointer none)
  have hB2 : Below B w (w1.setCell ⟨a, 0, none⟩ (.pointer none)) := hB1.setCell ha _
  have g0 := far_cell (j := 0) HS.1 (b := a) (by omega) (.pointer none)
  have g1 := far_cell (j := 0) HS.2 (b := a) (by omega) (.pointer none)
  have ca := ox.cell (i := 0) rfl
  have fa := ox.free 0
  refine wpPlan_run0 rfl rfl (by simp [execOp, go_sem, ca, fa]) _ (fun _ h => h) ⟨g0, g1⟩ ?_
  simp only [Act.put, List.setIfInBounds_toArray, List.set_cons_zero, List.set_cons_succ]
  have oy2 : Blk b #[.int .i64 15] 23 ((w1.setCell ⟨a, 0, none⟩ (.pointer none)).setCell ⟨b, 0, none⟩ (.int .i64 15)) := blk_set oy1 0 _
  have ox2 := blk_other (j := 0) o1 hab.symm (.int .i64 15)
  have oz2 := blk_other (j := 0) oz1 hbd (.int .i64 15)
  have hB3 : Below B w ((w1.setCell ⟨a, 0, none⟩ (.pointer none)).setCell ⟨b, 0, none⟩ (.int .i64 15)) := hB2.setCell hb _
  have g2 := far_cell (j := 0) g0 (b := b) (by omega) (.int .i64 15)
  have g3 := far_cell (j := 0) g1 (b := b) (by omega) (.int .i64 15)
  have cb := oy1.cell (i := 0) rfl
  have fb := oy1.free 0
  refine wpPlan_run0 rfl rfl (by simp [execOp, go_sem, cb, fb]) _ (fun _ h => h) ⟨g2, g3⟩ ?_
  simp only [Act.put, List.setIfInBounds_toArray, List.set_cons_zero, List.set_cons_succ]
  generalize (w1.setCell ⟨a, 0, none⟩ (.pointer none)).setCell ⟨b, 0, none⟩ (.int .i64 15) = w2 at *
  have oz3 : Blk d #[.int .i64 p, .int .i64 q] 25 ((w2.setCell ⟨d, 0, none⟩ (.int .i64 p)).setCell ⟨d, 1, none⟩ (.int .i64 q)) := blk_set (blk_set oz2 0 _) 1 _
  have ox3 := blk_other (j := 1) (blk_other (j := 0) ox2 had.symm (.int .i64 p)) had.symm (.int .i64 q)
  have oy3 := blk_other (j := 1) (blk_other (j := 0) oy2 hbd.symm (.int .i64 p)) hbd.symm (.int .i64 q)
  have hB4 : Below B w ((w2.setCell ⟨d, 0, none⟩ (.int .i64 p)).setCell ⟨d, 1, none⟩ (.int .i64 q)) := (hB3.setCell hd _).setCell hd _
  have g4 := far_cell (j := 1) (far_cell (j := 0) g2 (b := d) (by omega) (.int .i64 p)) (b := d) (by omega) (.int .i64 q)
  have g5 := far_cell (j := 1) (far_cell (j := 0) g3 (b := d) (by omega) (.int .i64 p)) (b := d) (by omega) (.int .i64 q)
  have cd0 := oz2.cell (i := 0) rfl
  have cd1 := oz2.cell (i := 1) rfl
  have fd0 := oz2.free 0
  have fd1 := oz2.free 1
  have ce1 := (blk_set oz2 0 (.int .i64 p)).cell (i := 1) rfl
  have fe1 := (blk_set oz2 0 (.int .i64 p)).free 1
  refine wpPlan_run0 rfl rfl (by simp [execOp, go_sem, cd0, cd1, fd0, fd1, ce1, fe1]) _ (fun _ h => h) ⟨g4, g5⟩ ?_
  simp only [Act.put, List.setIfInBounds_toArray, List.set_cons_zero, List.set_cons_succ]
  apply wpPlan_done
  exact ⟨rfl, _, rfl, _, results_none rfl _ _ _, rfl, rfl, ⟨ox3, oy3, oz3⟩, hB4⟩
end Go.Proofs.YtnhdbjhdmdefmaaDoor


/- Walks of parse: the limits of modules. -/
import Derived.Test.YtnhdbjhdmdefmaaDoorYd
namespace Culp.Gr
set_option linter.unusedSimpArgs false
set_option linter.unusedVariables false
open Go Go.RowKit Culp Culp.Tr Go.Proofs.YtnhdbjhdmdefmaaDoor
theorem off_cell {a b i j : Nat} {v : Value} {w : World} (h : w.cell? ⟨a, i, none⟩ = some v) (hb : b = a → j ≠ i) (u : Value) : (w.setCell ⟨b, j, none⟩ u).cell? ⟨a, i, none⟩ = some v := by
  rw [World.cell?_setCell_other]
  · exact h
  · intro e
    injection e with e1 e2
    first
      | exact hb e1 e2
      | exact hb e1.symm e2.symm
def dpI (T : List Nd) : Int := (deepOf T : Nat)
/-- What limits answers. -/
def limV (l : List Md) : Nat × (Int × Int) := match limits dpI l with
  | none => (0, (0, 0))
  | some x => x
def LimRes (l : List Md) (w : World) (E : Ending) (w' : World) : Prop := E = .returned (.tuple #[.int .i64 (limV l).1, .agg #[.int .i64 (limV l).2.1, .int .i64 (limV l).2.2]]) ∧ Below w.heap.size w w'
/-- Sizes that all fit. -/
def MdFew (m : Md) : Prop := m.imps.length ≤ 65536 ∧ m.defs.length ≤ 65536 ∧ ∀ d ∈ m.defs, d.tree.length ≤ 65536
section
variable {L r : List Md} {m : Md} {k j n : Nat} {d : Df} {D : List Df}
theorem drop_get {α : Type} {l : List α} {k : Nat} {x : α} (h : l[k]? = some x) : l.drop k = x :: l.drop (k + 1) := by
  obtain ⟨h1, rfl⟩ := List.getElem?_eq_some_iff.1 h
  exact List.drop_eq_getElem_cons h1
theorem drop_end {α : Type} {l : List α} {k : Nat} (h : ¬ k < l.length) : l.drop k = [] := List.drop_eq_nil_of_le (by omega)
theorem lim8 (h : L[8]? = some m) : limV L = (17, (m.line, m.col)) := by
  unfold limV limits
  rw [h]
theorem limM {x : Int × Int} (h : ¬ 8 < L.length) (hm : tooMany L = some x) : limV L = (17, x) := by
  unfold limV limits
  rw [List.getElem?_eq_none (by omega)]
  simp only
  rw [hm]
theorem limL {x : Int × Int} (h : ¬ 8 < L.length) (hm : tooMany L = none) (hl : tooLarge 0 (allDefs L) = some x) : limV L = (17, x) := by
  unfold limV limits
  rw [List.getElem?_eq_none (by omega)]
  simp only
  rw [hm]
  simp only
  rw [hl]
theorem limD (h : ¬ 8 < L.length) (hm : tooMany L = none) (hl : tooLarge 0 (allDefs L) = none) : limV L = match tooDeep dpI (allDefs L) with
    | some x => (16, x)
    | none => (0, (0, 0)) := by
  unfold limV limits
  rw [List.getElem?_eq_none (by omega)]
  simp only
  rw [hm]
  simp only
  rw [hl]
  simp only
  cases tooDeep dpI (allDefs L) <;> rfl
theorem many_imp {x : Im} (h : m.imps[64]? = some x) : tooMany (m :: r) = some (x.line, x.col) := by
  unfold tooMany
  rw [h]
theorem many_df (h : ¬ 64 < m.imps.length) (hd : m.defs[64 - m.imps.length]? = some d) : tooMany (m :: r) = some (d.line, d.col) := by
  unfold tooMany
  rw [List.getElem?_eq_none (by omega)]
  simp only
  rw [hd]
theorem many_go (h : ¬ 64 < m.imps.length) (h2 : ¬ 64 < m.imps.length + m.defs.length) : tooMany (m :: r) = tooMany r := by
  rw [tooMany, List.getElem?_eq_none (by omega : m.imps.length ≤ 64)]
  simp only
  rw [List.getElem?_eq_none (by omega)]
theorem allDefs_cons : allDefs (m :: r) = m.defs ++ allDefs r := rfl
theorem large_hit (h : 4096 < n + d.tree.length) : tooLarge n (d :: D) = some (d.line, d.col) := by rw [tooLarge, if_pos h]
theorem large_go (h : ¬ 4096 < n + d.tree.length) : tooLarge n (d :: D) = tooLarge (n + d.tree.length) D := by rw [tooLarge, if_neg h]
theorem deep_hit (h : 64 < deepOf d.tree) : tooDeep dpI (d :: D) = some (d.line, d.col) := by rw [tooDeep, if_pos (by unfold dpI; omega)]
theorem deep_go (h : ¬ 64 < deepOf d.tree) : tooDeep dpI (d :: D) = tooDeep dpI D := by rw [tooDeep, if_neg (by unfold dpI; omega)]
end
end Culp.Gr
namespace Go.Proofs.YtnhdbjhdmdefmaaDoor
set_option linter.unusedSimpArgs false
set_option linter.unusedVariables false
open Go.RowKit Culp Culp.Tr Culp.Gr
set_option maxRecDepth 100000 in
set_option maxHeartbeats 12800000 in
theorem limits_any (L : List Md) (v : Value) (w : World) (hL : Mods w v L) (hl : L.length ≤ 65536) (hz : ∀ m ∈ L, MdFew m) : Calls Tryd.prog 21 #[v] w (LimRes L w) := by
  obtain ⟨A, C, rfl⟩ := hL.form
  have hba : Below w.heap.size w (w.alloc (.cells #[.int .i64 0, .int .i64 0] 25)) := (Below.refl _ _).alloc (Nat.le_refl _) _
  have HL0 := Lib.hid (hL.later hba)
  have HP0 := Lib.hid (pl2_alloc w 0 0)
  have HB0 := Lib.hid hba
  have HZ := Lib.hid hz
  clear hL hz hba
  go_enter Tryd.func21, Tryd.ntmps21
  by_cases h8 : 8 < L.length
  · obtain ⟨b, off, iv, dv, rfl, ⟨-, -, -, n3, n4⟩, -, -⟩ := HL0.out.at_ h8
    have hx : L[8]? = some L[8] := List.getElem?_eq_getElem h8
    have HLX := Lib.hid (lim8 hx)
    generalize L[8] = m at *
    generalize hpx : m.line = px at *
    generalize hpy : m.col = py at *
    clear hx hpx hpy HZ HL0
    go_wp2_with fail
    generalize w.alloc (.cells #[.int .i64 0, .int .i64 0] 25) = W0 at *
    have HPW := HP0
    have HBW := HB0
    have HRES : Hid (∀ w'', Below w.heap.size w w'' → LimRes L w (.returned (.tuple #[.int .i64 17, .agg #[.int .i64 px, .int .i64 py]])) w'') := Lib.hid fun w'' hbw => ⟨by rw [HLX.out]; rfl, hbw⟩
    have r0 := HPW.out.c0
    have r1 := HPW.out.c1
    have f0 := HPW.out.free 0
    have f1 := HPW.out.free 1
    refine wp_region_plan (S := fun w' => w'.cell? ⟨b, off + 8 * 5 + 3, none⟩ = some (.int .i64 px) ∧ w'.cell? ⟨b, off + 8 * 5 + 4, none⟩ = some (.int .i64 py)) [(0, true), (1, true), (2, true), (3, true), (4, true), (5, false)] (by kernel_rfl) (by kernel_rfl) (by kernel_rfl) (fun _ _ _ _ _ h => h) ⟨n3, n4⟩ ?_
    intro HSt
    have rr0 : W0.drew.cell? ⟨w.heap.size, 0, none⟩ = some (.int .i64 0) := r0
    have rr1 : W0.drew.cell? ⟨w.heap.size, 1, none⟩ = some (.int .i64 0) := r1
    have ff0 : W0.drew.frozen? ⟨w.heap.size, 0, none⟩ = false := f0
    have ff1 : W0.drew.frozen? ⟨w.heap.size, 1, none⟩ = false := f1
    have HP9 : Hid (Pl2 w.heap.size 0 0 W0.drew) := Lib.hid HPW.out
    have HB9 : Hid (Below w.heap.size w W0.drew) := Lib.hid HBW.out.drew
    clear r0 r1 f0 f1 n3 n4
    generalize W0.drew = W9 at *
    repeat (first | (apply wpPlan_look; rfl; rfl; (intro wq hq; (try dsimp only at hq); go_split_ands; go_simp; (try rw [if_neg (by omega)]); (try rw [if_pos (by omega)]); try with_reducible rfl); simp only [Act.put, List.setIfInBounds_toArray, List.set_cons_zero, List.set_cons_succ]) | (apply wpPlan_skip; rfl; rfl; simp only [Act.put, List.setIfInBounds_toArray, List.set_cons_zero, List.set_cons_succ]) | (apply wpPlan_pass; rfl; rfl; assumption; simp only [Act.put, List.setIfInBounds_toArray, List.set_cons_zero, List.set_cons_succ]))
    have fe1 := (blk_set HP9.out 0 (.int .i64 px)).free 1
    have ce1 := (blk_set HP9.out 0 (.int .i64 px)).cell (i := 1) rfl
    refine wpPlan_run0 (w' := (W9.setCell ⟨w.heap.size, 0, none⟩ (.int .i64 px)).setCell ⟨w.heap.size, 1, none⟩ (.int .i64 py)) rfl rfl (by simp [execOp, go_sem, rr0, rr1, ff0, ff1, ce1, fe1]) _ (fun _ h => h) ⟨off_cell (off_cell HSt.1 (by omega) _) (by omega) _, off_cell (off_cell HSt.2 (by omega) _) (by omega) _⟩ ?_
    simp only [Act.put, List.setIfInBounds_toArray, List.set_cons_zero, List.set_cons_succ]
    apply wpPlan_done
    clear HSt rr0 rr1 ff0 ff1 fe1 ce1
    have hke := blk_set (blk_set HP9.out 0 (.int .i64 px)) 1 (.int .i64 py)
    have d0 := hke.cell (i := 0) rfl
    have d1 := hke.cell (i := 1) rfl
    clear hke
    have HRS := Lib.hid (HRES.out _ ((HB9.out.setCell (p := ⟨w.heap.size, 0, none⟩) (Nat.le_refl _) (.int .i64 px)).setCell (p := ⟨w.heap.size, 1, none⟩) (Nat.le_refl _) (.int .i64 py)))
    clear HRES HB9 HP9
    generalize (W9.setCell ⟨w.heap.size, 0, none⟩ (.int .i64 px)).setCell ⟨w.heap.size, 1, none⟩ (.int .i64 py) = w10 at *
    go_wp2_with fail
    refine bodyPost_ret (v := .tuple #[.int .i64 17, .agg #[.int .i64 px, .int .i64 py]]) (by simp [results, Tryd.results21, go_sem, d0, d1]) rfl HRS.out
  · go_wp2_with fail
    generalize w.alloc (.cells #[.int .i64 0, .int .i64 0] 25) = W0 at *
    have hs0 : w.heap.size < W0.heap.size := HP0.out.lt
    have HBi : Hid (Below W0.heap.size W0 W0) := Lib.hid (Below.refl _ _)
    go_loopg [24] L.length (fun g iv wx => ∃ k : Nat, g = L.length - k ∧ iv = .int .i64 k ∧ k ≤ L.length ∧ Hid (Below W0.heap.size W0 wx) ∧ Hid (tooMany L = tooMany (L.drop k)))
    case atStart => exact ⟨0, by omega, rfl, Nat.zero_le _, HBi, Lib.hid (by rw [List.drop_zero])⟩
    case round =>
      clear HBi
      obtain ⟨k, rfl, rfl, hk, HB, HTM⟩ := hrel
      by_cases hlt : k < L.length
      · obtain ⟨b, off, iv, dv, rfl, ⟨n0, n1, n2, n3, n4⟩, hi, hd⟩ := (HL0.out.later HB.out).at_ hlt
        obtain ⟨Ai, ci, rfl⟩ := hi.form
        obtain ⟨Ad, cd, rfl⟩ := hd.form
        have hx : L[k]? = some L[k] := List.getElem?_eq_getElem hlt
        obtain ⟨z1, z2, z3⟩ := HZ.out _ (List.mem_of_getElem? hx)
        have HX := Lib.hid (drop_get hx)
        generalize L[k] = m at *
        have hba : Below wr.heap.size wr (wr.alloc (.cells #[.string m.name, .slice Ai m.imps.length ci, .slice Ad m.defs.length cd, .int .i64 m.line, .int .i64 m.col] 49)) := (Below.refl _ _).alloc (Nat.le_refl _) _
        have HK := Lib.hid (Blk.alloc wr #[.string m.name, .slice Ai m.imps.length ci, .slice Ad m.defs.length cd, .int .i64 m.line, .int .i64 m.col] 49)
        have HB1 := Lib.hid (below_later hba HB.out)
        have HI := Lib.hid (hi.later hba)
        have HD := Lib.hid (hd.later hba)
        have hwr : w.heap.size < wr.heap.size := Nat.lt_of_lt_of_le hs0 HB.out.size
        clear hx hi hd hba HB z3
        by_cases h64 : 64 < m.imps.length
        · obtain ⟨b2, off2, rfl, ⟨-, -, -, q3, q4⟩⟩ := HI.out.at_ h64
          have hx2 : m.imps[64]? = some m.imps[64] := List.getElem?_eq_getElem h64
          have HLX := Lib.hid (limM h8 (by rw [HTM.out, HX.out]; exact many_imp hx2))
          have hsz2 : m.imps.length ≤ 65536 := z1
          generalize hyy : m.imps[64] = x at *
          generalize hpx : x.line = px at *
          generalize hpy : x.col = py at *
          clear hyy hx2 hpx hpy HZ HL0 HTM HX HI HD
          go_wp2_with fail
          generalize wr.alloc (.cells #[.string m.name, .slice (some ⟨b2, off2, none⟩) m.imps.length ci, .slice Ad m.defs.length cd, .int .i64 m.line, .int .i64 m.col] 49) = W1 at *
          have HPW : Hid (Pl2 w.heap.size 0 0 W1) := Lib.hid (HP0.out.later HB1.out)
          have HBW : Hid (Below w.heap.size w W1) := Lib.hid (below_later HB1.out HB0.out)
          have m1 := HK.out.cell (i := 1) rfl
          generalize wr.heap.size = gb at *
          clear n0 n1 n2 n3 n4 HK
          have HRES : Hid (∀ w'', Below w.heap.size w w'' → LimRes L w (.returned (.tuple #[.int .i64 17, .agg #[.int .i64 px, .int .i64 py]])) w'') := Lib.hid fun w'' hbw => ⟨by rw [HLX.out]; rfl, hbw⟩
          have r0 := HPW.out.c0
          have r1 := HPW.out.c1
          have f0 := HPW.out.free 0
          have f1 := HPW.out.free 1
          refine wp_region_plan (S := fun w' => w'.cell? ⟨gb, 1, none⟩ = some (.slice (some ⟨b2, off2, none⟩) m.imps.length ci) ∧ w'.cell? ⟨b2, off2 + 64 * 5 + 3, none⟩ = some (.int .i64 px) ∧ w'.cell? ⟨b2, off2 + 64 * 5 + 4, none⟩ = some (.int .i64 py)) [(0, true), (1, true), (2, true), (3, true), (4, true), (5, true), (6, false)] (by kernel_rfl) (by kernel_rfl) (by kernel_rfl) (fun _ _ _ _ _ h => h) ⟨m1, q3, q4⟩ ?_
          intro HSt
          have rr0 : W1.drew.cell? ⟨w.heap.size, 0, none⟩ = some (.int .i64 0) := r0
          have rr1 : W1.drew.cell? ⟨w.heap.size, 1, none⟩ = some (.int .i64 0) := r1
          have ff0 : W1.drew.frozen? ⟨w.heap.size, 0, none⟩ = false := f0
          have ff1 : W1.drew.frozen? ⟨w.heap.size, 1, none⟩ = false := f1
          have HP9 : Hid (Pl2 w.heap.size 0 0 W1.drew) := Lib.hid HPW.out
          have HB9 : Hid (Below w.heap.size w W1.drew) := Lib.hid HBW.out.drew
          clear r0 r1 f0 f1 m1 q3 q4
          generalize W1.drew = W9 at *
          repeat (first | (apply wpPlan_look; rfl; rfl; (intro wq hq; (try dsimp only at hq); go_split_ands; go_simp; (try rw [if_neg (by omega)]); (try rw [if_pos (by omega)]); try with_reducible rfl); simp only [Act.put, List.setIfInBounds_toArray, List.set_cons_zero, List.set_cons_succ]) | (apply wpPlan_skip; rfl; rfl; simp only [Act.put, List.setIfInBounds_toArray, List.set_cons_zero, List.set_cons_succ]) | (apply wpPlan_pass; rfl; rfl; assumption; simp only [Act.put, List.setIfInBounds_toArray, List.set_cons_zero, List.set_cons_succ]))
          have fe1 := (blk_set HP9.out 0 (.int .i64 px)).free 1
          have ce1 := (blk_set HP9.out 0 (.int .i64 px)).cell (i := 1) rfl
          refine wpPlan_run0 (w' := (W9.setCell ⟨w.heap.size, 0, none⟩ (.int .i64 px)).setCell ⟨w.heap.size, 1, none⟩ (.int .i64 py)) rfl rfl (by simp [execOp, go_sem, rr0, rr1, ff0, ff1, ce1, fe1]) _ (fun _ h => h) ⟨far_cell (far_cell HSt.1 (by omega) _) (by omega) _, off_cell (off_cell HSt.2.1 (by omega) _) (by omega) _, off_cell (off_cell HSt.2.2 (by omega) _) (by omega) _⟩ ?_
          simp only [Act.put, List.setIfInBounds_toArray, List.set_cons_zero, List.set_cons_succ]
          apply wpPlan_done
          clear HSt rr0 rr1 ff0 ff1 fe1 ce1
          have hke := blk_set (blk_set HP9.out 0 (.int .i64 px)) 1 (.int .i64 py)
          have d0 := hke.cell (i := 0) rfl
          have d1 := hke.cell (i := 1) rfl
          clear hke
          have HRS := Lib.hid (HRES.out _ ((HB9.out.setCell (p := ⟨w.heap.size, 0, none⟩) (Nat.le_refl _) (.int .i64 px)).setCell (p := ⟨w.heap.size, 1, none⟩) (Nat.le_refl _) (.int .i64 py)))
          clear HRES HB9 HP9
          generalize (W9.setCell ⟨w.heap.size, 0, none⟩ (.int .i64 px)).setCell ⟨w.heap.size, 1, none⟩ (.int .i64 py) = w10 at *
          go_wp2_with fail
          refine bodyPost_ret (v := .tuple #[.int .i64 17, .agg #[.int .i64 px, .int .i64 py]]) (by simp [results, Tryd.results21, go_sem, d0, d1]) rfl HRS.out
        · by_cases h65 : 64 < m.imps.length + m.defs.length
          · obtain ⟨qi, hqi⟩ : ∃ qi : Nat, qi = 64 - m.imps.length := ⟨_, rfl⟩
            have hql : qi < m.defs.length := by omega
            obtain ⟨b2, off2, tv, rfl, ⟨-, -, -, -, q4, q5⟩, -⟩ := HD.out.at_ hql
            have hx2 : m.defs[64 - m.imps.length]? = some m.defs[qi] := by rw [← hqi]; exact List.getElem?_eq_getElem hql
            have HLX := Lib.hid (limM h8 (by rw [HTM.out, HX.out]; exact many_df h64 hx2))
            have r1 : IntKind.i64.wrap (64 - (m.imps.length : Int)) = (qi : Int) := by rw [show (64 - (m.imps.length : Int)) = (qi : Int) by omega]; exact IntWalk.i64_in _ (by omega)
            generalize hyy : m.defs[qi] = x at *
            generalize hpx : x.line = px at *
            generalize hpy : x.col = py at *
            clear hyy hx2 hpx hpy HZ HL0 HTM HX HI HD hqi
            go_wp2_with fail
            generalize wr.alloc (.cells #[.string m.name, .slice Ai m.imps.length ci, .slice (some ⟨b2, off2, none⟩) m.defs.length cd, .int .i64 m.line, .int .i64 m.col] 49) = W1 at *
            have HPW : Hid (Pl2 w.heap.size 0 0 W1) := Lib.hid (HP0.out.later HB1.out)
            have HBW : Hid (Below w.heap.size w W1) := Lib.hid (below_later HB1.out HB0.out)
            have m1 := HK.out.cell (i := 1) rfl
            have m2 := HK.out.cell (i := 2) rfl
            generalize wr.heap.size = gb at *
            clear n0 n1 n2 n3 n4 HK
            have HRES : Hid (∀ w'', Below w.heap.size w w'' → LimRes L w (.returned (.tuple #[.int .i64 17, .agg #[.int .i64 px, .int .i64 py]])) w'') := Lib.hid fun w'' hbw => ⟨by rw [HLX.out]; rfl, hbw⟩
            have r0 := HPW.out.c0
            have r1 := HPW.out.c1
            have f0 := HPW.out.free 0
            have f1 := HPW.out.free 1
            refine wp_region_plan (S := fun w' => w'.cell? ⟨gb, 1, none⟩ = some (.slice Ai m.imps.length ci) ∧ w'.cell? ⟨gb, 2, none⟩ = some (.slice (some ⟨b2, off2, none⟩) m.defs.length cd) ∧ w'.cell? ⟨b2, off2 + qi * 6 + 4, none⟩ = some (.int .i64 px) ∧ w'.cell? ⟨b2, off2 + qi * 6 + 5, none⟩ = some (.int .i64 py)) [(0, true), (1, true), (2, true), (3, true), (4, true), (5, true), (6, true), (7, true), (8, true), (9, true), (10, false)] (by kernel_rfl) (by kernel_rfl) (by kernel_rfl) (fun _ _ _ _ _ h => h) ⟨m1, m2, q4, q5⟩ ?_
            intro HSt
            have rr0 : W1.drew.cell? ⟨w.heap.size, 0, none⟩ = some (.int .i64 0) := r0
            have rr1 : W1.drew.cell? ⟨w.heap.size, 1, none⟩ = some (.int .i64 0) := r1
            have ff0 : W1.drew.frozen? ⟨w.heap.size, 0, none⟩ = false := f0
            have ff1 : W1.drew.frozen? ⟨w.heap.size, 1, none⟩ = false := f1
            have HP9 : Hid (Pl2 w.heap.size 0 0 W1.drew) := Lib.hid HPW.out
            have HB9 : Hid (Below w.heap.size w W1.drew) := Lib.hid HBW.out.drew
            clear r0 r1 f0 f1 m1 m2 q4 q5
            generalize W1.drew = W9 at *
            repeat (first | (apply wpPlan_look; rfl; rfl; (intro wq hq; (try dsimp only at hq); go_split_ands; go_simp; (try rw [if_neg (by omega)]); (try rw [if_pos (by omega)]); try with_reducible rfl); simp only [Act.put, List.setIfInBounds_toArray, List.set_cons_zero, List.set_cons_succ]) | (apply wpPlan_skip; rfl; rfl; simp only [Act.put, List.setIfInBounds_toArray, List.set_cons_zero, List.set_cons_succ]) | (apply wpPlan_pass; rfl; rfl; assumption; simp only [Act.put, List.setIfInBounds_toArray, List.set_cons_zero, List.set_cons_succ]))
            have fe1 := (blk_set HP9.out 0 (.int .i64 px)).free 1
            have ce1 := (blk_set HP9.out 0 (.int .i64 px)).cell (i := 1) rfl
            refine wpPlan_run0 (w' := (W9.setCell ⟨w.heap.size, 0, none⟩ (.int .i64 px)).setCell ⟨w.heap.size, 1, none⟩ (.int .i64 py)) rfl rfl (by simp [execOp, go_sem, rr0, rr1, ff0, ff1, ce1, fe1]) _ (fun _ h => h) ⟨far_cell (far_cell HSt.1 (by omega) _) (by omega) _, far_cell (far_cell HSt.2.1 (by omega) _) (by omega) _, off_cell (off_cell HSt.2.2.1 (by omega) _) (by omega) _, off_cell (off_cell HSt.2.2.2 (by omega) _) (by omega) _⟩ ?_
            simp only [Act.put, List.setIfInBounds_toArray, List.set_cons_zero, List.set_cons_succ]
            apply wpPlan_done
            clear HSt rr0 rr1 ff0 ff1 fe1 ce1
            have hke := blk_set (blk_set HP9.out 0 (.int .i64 px)) 1 (.int .i64 py)
            have d0 := hke.cell (i := 0) rfl
            have d1 := hke.cell (i := 1) rfl
            clear hke
            have HRS := Lib.hid (HRES.out _ ((HB9.out.setCell (p := ⟨w.heap.size, 0, none⟩) (Nat.le_refl _) (.int .i64 px)).setCell (p := ⟨w.heap.size, 1, none⟩) (Nat.le_refl _) (.int .i64 py)))
            clear HRES HB9 HP9
            generalize (W9.setCell ⟨w.heap.size, 0, none⟩ (.int .i64 px)).setCell ⟨w.heap.size, 1, none⟩ (.int .i64 py) = w10 at *
            go_wp2_with fail
            refine bodyPost_ret (v := .tuple #[.int .i64 17, .agg #[.int .i64 px, .int .i64 py]]) (by simp [results, Tryd.results21, go_sem, d0, d1]) rfl HRS.out
          · have HTM2 : Hid (tooMany L = tooMany (L.drop (k + 1))) := Lib.hid (by rw [HTM.out, HX.out]; exact many_go h64 h65)
            have m1 := HK.out.cell (i := 1) rfl
            have m2 := HK.out.cell (i := 2) rfl
            clear HTM HX HI HD HK
            go_wp2_with fail
            go_roundg (L.length - (k + 1))
            case rel => exact ⟨k + 1, rfl, by go_num, by omega, HB1, HTM2⟩
            case measure => omega
      · have HTM2 : Hid (tooMany L = none) := Lib.hid (by rw [HTM.out, drop_end hlt]; rfl)
        clear HTM
        go_wp2_with fail
        obtain ⟨wo, hwo⟩ : ∃ w0, w0 = wr := ⟨_, rfl⟩
        subst hwo
        go_loopg [6, 57] L.length (fun g nv iv wx => ∃ k n : Nat, g = L.length - k ∧ iv = .int .i64 k ∧ nv = .int .i64 n ∧ k ≤ L.length ∧ n ≤ 4096 ∧ Hid (Below W0.heap.size W0 wx) ∧ Hid (tooLarge 0 (allDefs L) = tooLarge n (allDefs (L.drop k))))
        case atStart => exact ⟨0, 0, by omega, rfl, rfl, Nat.zero_le _, by omega, HB, Lib.hid (by rw [List.drop_zero])⟩
        case round =>
          clear HB
          obtain ⟨k, n, rfl, rfl, rfl, hk, hn, HB, HTL⟩ := hrel
          by_cases hlt : k < L.length
          · obtain ⟨b, off, iv, dv, rfl, ⟨n0, n1, n2, n3, n4⟩, hi, hd⟩ := (HL0.out.later HB.out).at_ hlt
            obtain ⟨Ai, ci, rfl⟩ := hi.form
            obtain ⟨Ad, cd, rfl⟩ := hd.form
            have hx : L[k]? = some L[k] := List.getElem?_eq_getElem hlt
            obtain ⟨z1, z2, z3⟩ := HZ.out _ (List.mem_of_getElem? hx)
            have HX := Lib.hid (drop_get hx)
            have HZ3 := Lib.hid z3
            generalize L[k] = m at *
            have hba : Below wr.heap.size wr (wr.alloc (.cells #[.string m.name, .slice Ai m.imps.length ci, .slice Ad m.defs.length cd, .int .i64 m.line, .int .i64 m.col] 49)) := (Below.refl _ _).alloc (Nat.le_refl _) _
            have HK := Lib.hid (Blk.alloc wr #[.string m.name, .slice Ai m.imps.length ci, .slice Ad m.defs.length cd, .int .i64 m.line, .int .i64 m.col] 49)
            have HB1 := Lib.hid (below_later hba HB.out)
            have HD := Lib.hid (hd.later hba)
            have HTL1 : Hid (tooLarge 0 (allDefs L) = tooLarge n (m.defs.drop 0 ++ allDefs (L.drop (k + 1)))) := Lib.hid (by rw [HTL.out, HX.out, allDefs_cons, List.drop_zero])
            have m2 := HK.out.cell (i := 2) rfl
            clear hx hi hd hba HB z3 HTL HX
            go_wp2_with fail
            generalize wr.alloc (.cells #[.string m.name, .slice Ai m.imps.length ci, .slice Ad m.defs.length cd, .int .i64 m.line, .int .i64 m.col] 49) = W1 at *
            generalize wr.heap.size = gb at *
            clear n0 n1 n2 n3 n4 m2 HK
            go_loopg [6, 64] m.defs.length (fun g nv iv wx => ∃ j q : Nat, g = m.defs.length - j ∧ iv = .int .i64 j ∧ nv = .int .i64 q ∧ j ≤ m.defs.length ∧ q ≤ 4096 ∧ Hid (Below W1.heap.size W1 wx) ∧ Hid (tooLarge 0 (allDefs L) = tooLarge q (m.defs.drop j ++ allDefs (L.drop (k + 1)))))
            case atStart => exact ⟨0, n, by omega, rfl, rfl, Nat.zero_le _, hn, Lib.hid (Below.refl _ _), HTL1⟩
            case round =>
              clear HTL1
              obtain ⟨j, q, rfl, rfl, rfl, hj, hq, HBD, HTL⟩ := hrel
              by_cases hlt3 : j < m.defs.length
              · obtain ⟨b3, off3, tv, rfl, ⟨q0, q1, q2, q3, q4, q5⟩, ht⟩ := (HD.out.later HBD.out).at_ hlt3
                obtain ⟨At, ct, rfl⟩ := ht.form
                have hx3 : m.defs[j]? = some m.defs[j] := List.getElem?_eq_getElem hlt3
                have hz3 := HZ3.out _ (List.mem_of_getElem? hx3)
                have HX3 := Lib.hid (drop_get hx3)
                generalize m.defs[j] = d at *
                have hba : Below wr.heap.size wr (wr.alloc (.cells #[.string d.name, .bool d.out, .string d.t, .slice At d.tree.length ct, .int .i64 d.line, .int .i64 d.col] 51)) := (Below.refl _ _).alloc (Nat.le_refl _) _
                have HK := Lib.hid (Blk.alloc wr #[.string d.name, .bool d.out, .string d.t, .slice At d.tree.length ct, .int .i64 d.line, .int .i64 d.col] 51)
                have HB2 := Lib.hid (below_later hba HBD.out)
                have k3 := HK.out.cell (i := 3) rfl
                have hwr := HBD.out.size
                have hw1 := HB1.out.size
                clear hx3 ht hba HBD
                by_cases hbig : 4096 < q + d.tree.length
                · have HLX := Lib.hid (limL h8 HTM2.out (by rw [HTL.out, HX3.out, List.cons_append]; exact large_hit hbig))
                  have hgb : w.heap.size < wr.heap.size := by omega
                  clear HTL HX3 HZ HZ3 HL0 HD
                  go_wp2_with fail
                  generalize hpx : d.line = px at *
                  generalize hpy : d.col = py at *
                  clear hpx hpy
                  have HPW := Lib.hid ((HP0.out.later HB1.out).later HB2.out)
                  have HBW := Lib.hid (below_later HB2.out (below_later HB1.out HB0.out))
                  have k4 := HK.out.cell (i := 4) rfl
                  have k5 := HK.out.cell (i := 5) rfl
                  clear HK HB2
                  generalize wr.alloc (.cells #[.string d.name, .bool d.out, .string d.t, .slice At d.tree.length ct, .int .i64 px, .int .i64 py] 51) = W2 at *
                  generalize wr.heap.size = gd at *
                  clear q0 q1 q2 q3 q4 q5
                  have HRES : Hid (∀ w'', Below w.heap.size w w'' → LimRes L w (.returned (.tuple #[.int .i64 17, .agg #[.int .i64 px, .int .i64 py]])) w'') := Lib.hid fun w'' hbw => ⟨by rw [HLX.out]; rfl, hbw⟩
                  have r0 := HPW.out.c0
                  have r1 := HPW.out.c1
                  have f0 := HPW.out.free 0
                  have f1 := HPW.out.free 1
                  refine wp_region_plan (S := fun w' => w'.cell? ⟨gd, 4, none⟩ = some (.int .i64 px) ∧ w'.cell? ⟨gd, 5, none⟩ = some (.int .i64 py)) [(0, true), (1, true), (2, true), (3, false)] (by kernel_rfl) (by kernel_rfl) (by kernel_rfl) (fun _ _ _ _ _ h => h) ⟨k4, k5⟩ ?_
                  intro HSt
                  have rr0 : W2.drew.cell? ⟨w.heap.size, 0, none⟩ = some (.int .i64 0) := r0
                  have rr1 : W2.drew.cell? ⟨w.heap.size, 1, none⟩ = some (.int .i64 0) := r1
                  have ff0 : W2.drew.frozen? ⟨w.heap.size, 0, none⟩ = false := f0
                  have ff1 : W2.drew.frozen? ⟨w.heap.size, 1, none⟩ = false := f1
                  have HP9 : Hid (Pl2 w.heap.size 0 0 W2.drew) := Lib.hid HPW.out
                  have HB9 : Hid (Below w.heap.size w W2.drew) := Lib.hid HBW.out.drew
                  clear r0 r1 f0 f1 k4 k5 k3
                  generalize W2.drew = W9 at *
                  repeat (first | (apply wpPlan_look; rfl; rfl; (intro wq hq; (try dsimp only at hq); go_split_ands; go_simp; (try rw [if_neg (by omega)]); (try rw [if_pos (by omega)]); try with_reducible rfl); simp only [Act.put, List.setIfInBounds_toArray, List.set_cons_zero, List.set_cons_succ]) | (apply wpPlan_skip; rfl; rfl; simp only [Act.put, List.setIfInBounds_toArray, List.set_cons_zero, List.set_cons_succ]) | (apply wpPlan_pass; rfl; rfl; assumption; simp only [Act.put, List.setIfInBounds_toArray, List.set_cons_zero, List.set_cons_succ]))
                  have fe1 := (blk_set HP9.out 0 (.int .i64 px)).free 1
                  have ce1 := (blk_set HP9.out 0 (.int .i64 px)).cell (i := 1) rfl
                  refine wpPlan_run0 (w' := (W9.setCell ⟨w.heap.size, 0, none⟩ (.int .i64 px)).setCell ⟨w.heap.size, 1, none⟩ (.int .i64 py)) rfl rfl (by simp [execOp, go_sem, rr0, rr1, ff0, ff1, ce1, fe1]) _ (fun _ h => h) ⟨off_cell (off_cell HSt.1 (by omega) _) (by omega) _, off_cell (off_cell HSt.2 (by omega) _) (by omega) _⟩ ?_
                  simp only [Act.put, List.setIfInBounds_toArray, List.set_cons_zero, List.set_cons_succ]
                  apply wpPlan_done
                  clear HSt rr0 rr1 ff0 ff1 fe1 ce1
                  have hke := blk_set (blk_set HP9.out 0 (.int .i64 px)) 1 (.int .i64 py)
                  have d0 := hke.cell (i := 0) rfl
                  have d1 := hke.cell (i := 1) rfl
                  clear hke
                  have HRS := Lib.hid (HRES.out _ ((HB9.out.setCell (p := ⟨w.heap.size, 0, none⟩) (Nat.le_refl _) (.int .i64 px)).setCell (p := ⟨w.heap.size, 1, none⟩) (Nat.le_refl _) (.int .i64 py)))
                  clear HRES HB9 HP9
                  generalize (W9.setCell ⟨w.heap.size, 0, none⟩ (.int .i64 px)).setCell ⟨w.heap.size, 1, none⟩ (.int .i64 py) = w10 at *
                  go_wp2_with fail
                  refine bodyPost_ret (v := .tuple #[.int .i64 17, .agg #[.int .i64 px, .int .i64 py]]) (by simp [results, Tryd.results21, go_sem, d0, d1]) rfl HRS.out
                · have HTL2 : Hid (tooLarge 0 (allDefs L) = tooLarge (q + d.tree.length) (m.defs.drop (j + 1) ++ allDefs (L.drop (k + 1)))) := Lib.hid (by rw [HTL.out, HX3.out, List.cons_append]; exact large_go hbig)
                  clear HTL HX3 HK
                  go_wp2_with fail
                  go_roundg (m.defs.length - (j + 1))
                  case rel => exact ⟨j + 1, q + d.tree.length, rfl, by go_num, by go_num, by omega, by omega, HB2, HTL2⟩
                  case measure => omega
              · have HTL2 : Hid (tooLarge 0 (allDefs L) = tooLarge q (allDefs (L.drop (k + 1)))) := Lib.hid (by rw [HTL.out, drop_end hlt3, List.nil_append])
                have HB3 := Lib.hid (below_later HBD.out HB1.out)
                clear HTL HBD
                go_wp2_with fail
                go_roundg (L.length - (k + 1))
                case rel => exact ⟨k + 1, q, rfl, by go_num, rfl, by omega, by omega, HB3, HTL2⟩
                case measure => omega
          · have HTL2 : Hid (tooLarge 0 (allDefs L) = none) := Lib.hid (by rw [HTL.out, drop_end hlt]; rfl)
            clear HTL
            go_wp2_with fail
            clear wo
            obtain ⟨wo, hwo⟩ : ∃ w0, w0 = wr := ⟨_, rfl⟩
            subst hwo
            have HLD := Lib.hid (limD h8 HTM2.out HTL2.out)
            clear HTM2 HTL2
            go_loopg [81] L.length (fun g iv wx => ∃ k : Nat, g = L.length - k ∧ iv = .int .i64 k ∧ k ≤ L.length ∧ Hid (Below W0.heap.size W0 wx) ∧ Hid (tooDeep dpI (allDefs L) = tooDeep dpI (allDefs (L.drop k))))
            case atStart => exact ⟨0, by omega, rfl, Nat.zero_le _, HB, Lib.hid (by rw [List.drop_zero])⟩
            case round =>
              clear HB
              obtain ⟨k, rfl, rfl, hk, HB, HTD⟩ := hrel
              by_cases hlt : k < L.length
              · obtain ⟨b, off, iv, dv, rfl, ⟨n0, n1, n2, n3, n4⟩, hi, hd⟩ := (HL0.out.later HB.out).at_ hlt
                obtain ⟨Ai, ci, rfl⟩ := hi.form
                obtain ⟨Ad, cd, rfl⟩ := hd.form
                have hx : L[k]? = some L[k] := List.getElem?_eq_getElem hlt
                obtain ⟨z1, z2, z3⟩ := HZ.out _ (List.mem_of_getElem? hx)
                have HX := Lib.hid (drop_get hx)
                have HZ3 := Lib.hid z3
                generalize L[k] = m at *
                have hba : Below wr.heap.size wr (wr.alloc (.cells #[.string m.name, .slice Ai m.imps.length ci, .slice Ad m.defs.length cd, .int .i64 m.line, .int .i64 m.col] 49)) := (Below.refl _ _).alloc (Nat.le_refl _) _
                have HK := Lib.hid (Blk.alloc wr #[.string m.name, .slice Ai m.imps.length ci, .slice Ad m.defs.length cd, .int .i64 m.line, .int .i64 m.col] 49)
                have HB1 := Lib.hid (below_later hba HB.out)
                have HD := Lib.hid (hd.later hba)
                have HTD1 : Hid (tooDeep dpI (allDefs L) = tooDeep dpI (m.defs.drop 0 ++ allDefs (L.drop (k + 1)))) := Lib.hid (by rw [HTD.out, HX.out, allDefs_cons, List.drop_zero])
                have m2 := HK.out.cell (i := 2) rfl
                clear hx hi hd hba HB z3 HTD HX
                go_wp2_with fail
                generalize wr.alloc (.cells #[.string m.name, .slice Ai m.imps.length ci, .slice Ad m.defs.length cd, .int .i64 m.line, .int .i64 m.col] 49) = W1 at *
                generalize wr.heap.size = gb at *
                clear n0 n1 n2 n3 n4 m2 HK
                go_loopg [88] m.defs.length (fun g iv wx => ∃ j : Nat, g = m.defs.length - j ∧ iv = .int .i64 j ∧ j ≤ m.defs.length ∧ Hid (Below W1.heap.size W1 wx) ∧ Hid (tooDeep dpI (allDefs L) = tooDeep dpI (m.defs.drop j ++ allDefs (L.drop (k + 1)))))
                case atStart => exact ⟨0, by omega, rfl, Nat.zero_le _, Lib.hid (Below.refl _ _), HTD1⟩
                case round =>
                  clear HTD1
                  obtain ⟨j, rfl, rfl, hj, HBD, HTD⟩ := hrel
                  by_cases hlt3 : j < m.defs.length
                  · obtain ⟨b3, off3, tv, rfl, ⟨q0, q1, q2, q3, q4, q5⟩, ht⟩ := (HD.out.later HBD.out).at_ hlt3
                    obtain ⟨At, ct, rfl⟩ := ht.form
                    have hx3 : m.defs[j]? = some m.defs[j] := List.getElem?_eq_getElem hlt3
                    have hz3 := HZ3.out _ (List.mem_of_getElem? hx3)
                    have HX3 := Lib.hid (drop_get hx3)
                    generalize m.defs[j] = d at *
                    have hba : Below wr.heap.size wr (wr.alloc (.cells #[.string d.name, .bool d.out, .string d.t, .slice At d.tree.length ct, .int .i64 d.line, .int .i64 d.col] 51)) := (Below.refl _ _).alloc (Nat.le_refl _) _
                    have HK := Lib.hid (Blk.alloc wr #[.string d.name, .bool d.out, .string d.t, .slice At d.tree.length ct, .int .i64 d.line, .int .i64 d.col] 51)
                    have HB2 := Lib.hid (below_later hba HBD.out)
                    have k3 := HK.out.cell (i := 3) rfl
                    have hwr := HBD.out.size
                    have hw1 := HB1.out.size
                    have hgb : w.heap.size < wr.heap.size := by omega
                    have HDP := Lib.hid (tDeep_any d.tree _ _ (ht.later hba) (by omega))
                    clear hx3 ht hba HBD
                    go_wp2_with fail
                    refine HDP.out.mono ?_
                    rintro E W2 ⟨rfl, hb2⟩
                    have HK2 := Lib.hid (HK.out.later hb2)
                    have HB3 := Lib.hid (below_later hb2 HB2.out)
                    clear HDP hb2 HK HB2 k3 q0 q1 q2 q3 q4 q5
                    by_cases hbig : 64 < deepOf d.tree
                    · have HLX : Hid (limV L = (16, (d.line, d.col))) := Lib.hid (by rw [HLD.out, HTD.out, HX3.out, List.cons_append, deep_hit hbig])
                      generalize deepOf d.tree = dd at *
                      clear HTD HX3 HZ HZ3 HL0 HD HLD
                      go_wp2_with fail
                      generalize hpx : d.line = px at *
                      generalize hpy : d.col = py at *
                      clear hpx hpy
                      have HPW := Lib.hid ((HP0.out.later HB1.out).later HB3.out)
                      have HBW := Lib.hid (below_later HB3.out (below_later HB1.out HB0.out))
                      have k4 := HK2.out.cell (i := 4) rfl
                      have k5 := HK2.out.cell (i := 5) rfl
                      clear HK2 HB3
                      generalize wr.heap.size = gd at *
                      have HRES : Hid (∀ w'', Below w.heap.size w w'' → LimRes L w (.returned (.tuple #[.int .i64 16, .agg #[.int .i64 px, .int .i64 py]])) w'') := Lib.hid fun w'' hbw => ⟨by rw [HLX.out]; rfl, hbw⟩
                      have r0 := HPW.out.c0
                      have r1 := HPW.out.c1
                      have f0 := HPW.out.free 0
                      have f1 := HPW.out.free 1
                      refine wp_region_plan (S := fun w' => w'.cell? ⟨gd, 4, none⟩ = some (.int .i64 px) ∧ w'.cell? ⟨gd, 5, none⟩ = some (.int .i64 py)) [(0, true), (1, true), (2, true), (3, false)] (by kernel_rfl) (by kernel_rfl) (by kernel_rfl) (fun _ _ _ _ _ h => h) ⟨k4, k5⟩ ?_
                      intro HSt
                      have rr0 : W2.drew.cell? ⟨w.heap.size, 0, none⟩ = some (.int .i64 0) := r0
                      have rr1 : W2.drew.cell? ⟨w.heap.size, 1, none⟩ = some (.int .i64 0) := r1
                      have ff0 : W2.drew.frozen? ⟨w.heap.size, 0, none⟩ = false := f0
                      have ff1 : W2.drew.frozen? ⟨w.heap.size, 1, none⟩ = false := f1
                      have HP9 : Hid (Pl2 w.heap.size 0 0 W2.drew) := Lib.hid HPW.out
                      have HB9 : Hid (Below w.heap.size w W2.drew) := Lib.hid HBW.out.drew
                      clear r0 r1 f0 f1 k4 k5
                      generalize W2.drew = W9 at *
                      repeat (first | (apply wpPlan_look; rfl; rfl; (intro wq hq; (try dsimp only at hq); go_split_ands; go_simp; (try rw [if_neg (by omega)]); (try rw [if_pos (by omega)]); try with_reducible rfl); simp only [Act.put, List.setIfInBounds_toArray, List.set_cons_zero, List.set_cons_succ]) | (apply wpPlan_skip; rfl; rfl; simp only [Act.put, List.setIfInBounds_toArray, List.set_cons_zero, List.set_cons_succ]) | (apply wpPlan_pass; rfl; rfl; assumption; simp only [Act.put, List.setIfInBounds_toArray, List.set_cons_zero, List.set_cons_succ]))
                      have fe1 := (blk_set HP9.out 0 (.int .i64 px)).free 1
                      have ce1 := (blk_set HP9.out 0 (.int .i64 px)).cell (i := 1) rfl
                      refine wpPlan_run0 (w' := (W9.setCell ⟨w.heap.size, 0, none⟩ (.int .i64 px)).setCell ⟨w.heap.size, 1, none⟩ (.int .i64 py)) rfl rfl (by simp [execOp, go_sem, rr0, rr1, ff0, ff1, ce1, fe1]) _ (fun _ h => h) ⟨off_cell (off_cell HSt.1 (by omega) _) (by omega) _, off_cell (off_cell HSt.2 (by omega) _) (by omega) _⟩ ?_
                      simp only [Act.put, List.setIfInBounds_toArray, List.set_cons_zero, List.set_cons_succ]
                      apply wpPlan_done
                      clear HSt rr0 rr1 ff0 ff1 fe1 ce1
                      have hke := blk_set (blk_set HP9.out 0 (.int .i64 px)) 1 (.int .i64 py)
                      have d0 := hke.cell (i := 0) rfl
                      have d1 := hke.cell (i := 1) rfl
                      clear hke
                      have HRS := Lib.hid (HRES.out _ ((HB9.out.setCell (p := ⟨w.heap.size, 0, none⟩) (Nat.le_refl _) (.int .i64 px)).setCell (p := ⟨w.heap.size, 1, none⟩) (Nat.le_refl _) (.int .i64 py)))
                      clear HRES HB9 HP9
                      generalize (W9.setCell ⟨w.heap.size, 0, none⟩ (.int .i64 px)).setCell ⟨w.heap.size, 1, none⟩ (.int .i64 py) = w10 at *
                      go_wp2_with fail
                      refine bodyPost_ret (v := .tuple #[.int .i64 16, .agg #[.int .i64 px, .int .i64 py]]) (by simp [results, Tryd.results21, go_sem, d0, d1]) rfl HRS.out
                    · have HTD2 : Hid (tooDeep dpI (allDefs L) = tooDeep dpI (m.defs.drop (j + 1) ++ allDefs (L.drop (k + 1)))) := Lib.hid (by rw [HTD.out, HX3.out, List.cons_append]; exact deep_go hbig)
                      generalize deepOf d.tree = dd at *
                      clear HTD HX3 HK2
                      go_wp2_with fail
                      go_roundg (m.defs.length - (j + 1))
                      case rel => exact ⟨j + 1, rfl, by go_num, by omega, HB3, HTD2⟩
                      case measure => omega
                  · have HTD2 : Hid (tooDeep dpI (allDefs L) = tooDeep dpI (allDefs (L.drop (k + 1)))) := Lib.hid (by rw [HTD.out, drop_end hlt3, List.nil_append])
                    have HB3 := Lib.hid (below_later HBD.out HB1.out)
                    clear HTD HBD
                    go_wp2_with fail
                    go_roundg (L.length - (k + 1))
                    case rel => exact ⟨k + 1, rfl, by go_num, by omega, HB3, HTD2⟩
                    case measure => omega
              · have HLX : Hid (limV L = (0, (0, 0))) := Lib.hid (by
                  rw [HLD.out, HTD.out, drop_end hlt]
                  rfl)
                have HPW := HP0.out.later HB.out
                have HBW := Lib.hid (below_later HB.out HB0.out)
                have r0 := HPW.c0
                have r1 := HPW.c1
                have f0 := HPW.free 0
                have f1 := HPW.free 1
                clear HTD HLD
                go_wp2_with fail
                have s0 := set_selfz (i := 0) HPW (v := .int .i64 0) rfl
                have s1 := set_selfz (i := 1) HPW (v := .int .i64 0) rfl
                rw [s0, s1]
                refine bodyPost_ret (v := .tuple #[.int .i64 0, .agg #[.int .i64 0, .int .i64 0]]) (by simp [results, Tryd.results21, go_sem, r0, r1]) rfl ⟨by rw [HLX.out]; rfl, HBW.out⟩
end Go.Proofs.YtnhdbjhdmdefmaaDoor

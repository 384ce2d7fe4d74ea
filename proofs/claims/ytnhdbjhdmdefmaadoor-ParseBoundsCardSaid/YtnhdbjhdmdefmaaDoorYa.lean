
/- Walks of parse: Expr. -/
import Derived.Test.YtnhdbjhdmdefmaaDoorZy
import Derived.Test.YtnhdbjhdmdefmaaDoorZz
namespace Culp.Gr
set_option linter.unusedSimpArgs false
set_option linter.unusedVariables false
open Go Go.RowKit Culp Culp.Tr Go.Proofs.YtnhdbjhdmdefmaaDoor
theorem flat_getN {α : Type} {k : Nat} (f : α → List Value) (hf : ∀ x, (f x).length = k) : ∀ (L : List α) (i : Nat) (x : α) (j : Nat) (u : Value), L[i]? = some x → (f x)[j]? = some u → (L.flatMap f)[i * k + j]? = some u
  | [], i, x, j, u, h, _ => by simp at h
  | y :: L, 0, x, j, u, h, hu => by
    simp at h; subst h
    have hj := (List.getElem?_eq_some_iff.1 hu).1
    rw [List.flatMap_cons, Nat.zero_mul, Nat.zero_add, List.getElem?_append_left hj]
    exact hu
  | y :: L, i + 1, x, j, u, h, hu => by
    have e : (i + 1) * k + j - k = i * k + j := by rw [Nat.add_mul, Nat.one_mul]; omega
    have hle : k ≤ (i + 1) * k + j := by rw [Nat.add_mul, Nat.one_mul]; omega
    rw [List.flatMap_cons, List.getElem?_append_right (by rw [hf]; exact hle), hf, e]
    exact flat_getN f hf L i x j u (by simpa using h) hu
theorem own_nds {w : World} {base n : Nat} {v : Value} {T : List Nd} (h : w.ownsRow base 42 8 v n (nfla T)) (hn : n = T.length) : Nodes w v T := by
  subst hn
  rcases h.2 with ⟨rfl, h0⟩ | ⟨g, cap, cur, rfl, hb, hh, hc, hcm, hsz, htk⟩
  · have : T = [] := List.eq_nil_of_length_eq_zero h0
    subst this
    exact ⟨none, 0, rfl, by simp, fun h => by simp at h⟩
  · refine ⟨_, cap, rfl, hc, fun h0 => ⟨g, 0, rfl, fun i x hx j u hu => ?_⟩⟩
    have hf := flat_getN (k := 8) Nd.cells (fun _ => rfl) T i x j u hx hu
    have hlt := (List.getElem?_eq_some_iff.1 hf).1
    have h8 : (T.flatMap Nd.cells).length = T.length * 8 := nfla_len T
    rw [h8] at hlt
    rw [Nat.zero_add, h.cellAt (i * 8 + j) (by omega)]
    exact hf
/-- Where the first token stands. -/
def firstOf (l : List UInt8) : Nat × Nat := match Tx.toks l with
  | .ok L => pl L 0
  | .error _ => (0, 0)
/-- What is read as an expression. -/
def exprOf (l : List UInt8) : Except (Nat × (Nat × Nat)) F := match readAll (fun L => expr L 0 []) l with
  | .error x => .error x
  | .ok f => if 4096 < f.flat.length then .error (17, firstOf l) else if 64 < deepOf f.flat then .error (16, firstOf l) else .ok f
theorem fin_ok {α : Type} {L : List Tok} {e : Nat × Nat} {r : Except Nat (α × Nat × List Nat)} {a : α} (h : fin L e r = .ok a) : ∃ k, r = .ok (a, k, []) ∧ ¬ k < L.length := by
  rcases r with j | ⟨a', i, lg⟩
  · cases h
  · simp only [fin] at h
    split at h
    · cases h
    · rename_i hn
      cases lg with
      | cons _ _ => cases h
      | nil => injection h with h; subst h; exact ⟨i, rfl, hn⟩
theorem toks_tok {B i : Nat} {L : List Tok} {tv : Value} {w : World} {t : Tx.Tk} {p : Nat × Nat} (h : w.ownsRow B 60 5 tv L.length (tflat L)) (hi : L[i]? = some (t, p)) : ∃ g c, tv = .slice (some ⟨g, 0, none⟩) L.length c ∧ w.cell? ⟨g, i * 5 + 3, none⟩ = some (.int .i64 p.1) ∧ w.cell? ⟨g, i * 5 + 4, none⟩ = some (.int .i64 p.2) := by
  have hl := (List.getElem?_eq_some_iff.1 hi).1
  rcases h.2 with ⟨_, h0⟩ | ⟨g, cap, cur, rfl, hb, hh, hc, _, hsz, htk⟩
  · omega
  · have K : ∀ j u, (tcells (t, p))[j]? = some u → w.cell? ⟨g, i * 5 + j, none⟩ = some u := fun j u hj => by
      have hj5 : j < 5 := (List.getElem?_eq_some_iff.1 hj).1
      rw [h.cellAt (i * 5 + j) (by omega)]
      exact flat_get5 tcells (fun _ => rfl) L i (t, p) j u hi hj
    exact ⟨g, cap, rfl, K 3 _ rfl, K 4 _ rfl⟩
theorem read_expr {l : List UInt8} {L : List Tok} {f : F} (h : readAll (fun L => expr L 0 []) l = .ok f) (hL : Tx.toks l = .ok L) : One f ∧ f.flat.length ≤ L.length ∧ 0 < L.length := by
  unfold readAll at h
  rw [hL] at h
  simp only at h
  obtain ⟨k, hk, -⟩ := fin_ok h
  obtain ⟨a, b, c⟩ := expr_bound hk (Nat.zero_le _)
  simp only at a b c
  have := c.pos
  exact ⟨c, by omega, by omega⟩
theorem NodR.later {c : Nat} {w w' : World} {v : Value} {f : F} (h : NodR c w v f) (hb : Below w.heap.size w w') : NodR c w' v f := by
  obtain ⟨b, h1, h2⟩ := h
  exact ⟨b, h1, own_later h2 hb⟩
/-- What Expr answers. -/
def ExprRes (l : List UInt8) (w : World) (E : Ending) (w' : World) : Prop := Below w.heap.size w w' ∧ match exprOf l with
  | .ok f => ∃ v, E = .returned (.tuple #[v, .int .i64 0, .agg #[.int .i64 0, .int .i64 0]]) ∧ w'.ownsRow w.heap.size 42 8 v f.flat.length (nfla f.flat)
  | .error (x, p) => E = .returned (.tuple #[.slice none 0 0, .int .i64 x, .agg #[.int .i64 p.1, .int .i64 p.2]])
end Culp.Gr
namespace Go.Proofs.YtnhdbjhdmdefmaaDoor
set_option linter.unusedSimpArgs false
set_option linter.unusedVariables false
open Go.RowKit Culp Culp.Tr Culp.Gr
set_option maxRecDepth 100000 in
set_option maxHeartbeats 6400000 in
theorem readExpr_any (s : ByteArray) (sv : Value) (w : World) (hb : BytesV w sv s) (hs : s.size ≤ 65536) (hS : Sp w) :
    Calls Tryd.prog 7 #[sv] w (ExprRes s.data.toList w) := by
  have hmf : ∀ (fn : Fn) (first cap : Array Value) (w : World), (Instr.makeFunc fn first cap).run Tryd.prog w = .ok (.func fn first cap) w := fun _ _ _ _ => rfl
  have hba : Below w.heap.size w ((w.alloc (.cells #[.int .i64 0, .int .i64 0] 25)).alloc (.cells #[.slice none 0 0] 28)) := ((Below.refl _ _).alloc (Nat.le_refl _) _).alloc (by simp) _
  have hcb : Blk (w.heap.size + 1) #[.slice none 0 0] 28 ((w.alloc (.cells #[.int .i64 0, .int .i64 0] 25)).alloc (.cells #[.slice none 0 0] 28)) := Blk.alloc2 _ _ _ _
  have HP0 : Hid (Pl2 w.heap.size 0 0 ((w.alloc (.cells #[.int .i64 0, .int .i64 0] 25)).alloc (.cells #[.slice none 0 0] 28))) := Lib.hid ((pl2_alloc w 0 0).later ((Below.refl _ _).alloc (Nat.le_refl _) _))
  have HALL := Lib.hid (all_any (R := NodR (w.heap.size + 1)) (fun _ _ _ _ h hb => NodR.later h hb) (expr_clo (w.heap.size + 1) _) (by kernel_rfl) s sv _ (hb.later hba) hs (hS.later hba) (fun _ => Tx.toks_pos) (fun _ => Tx.toks_fine) hcb)
  have HBA := Lib.hid hba
  clear hba hcb hb hS
  go_enter Tryd.func7, Tryd.ntmps7
  go_wp2_with fail
  refine HALL.out.mono ?_
  clear HALL
  intro E w1 hr
  rcases hr.two (w := w) (by omega) HBA.out (fun _ => Tx.toks_pos) with ⟨x, p, hx, hra, rfl, hbw, hbl⟩ | ⟨f, L, pb, B, tv, k, lv, u, hra, htk, rfl, hR, hcu, hps, hbw, hbl⟩
  · have hp1 : Pl2 w.heap.size 0 0 w1 := (hbl _ HP0.out.lt (by omega)).trans HP0.out
    have ex : (((x : Nat) : Int) != 0) = true := bne_iff_ne.2 (by omega)
    have HOK : Hid (exprOf s.data.toList = .error (x, p)) := Lib.hid (by unfold exprOf; rw [hra])
    have hba : Below w1.heap.size w1 (w1.alloc (.cells #[.int .i64 p.1, .int .i64 p.2] 25)) := (Below.refl _ _).alloc (Nat.le_refl _) _
    have HP7 := Lib.hid (pl2_alloc w1 p.1 p.2)
    have HP4 := Lib.hid (hp1.later hba)
    have HB4 := Lib.hid (below_later hba hbw)
    have hne : w.heap.size ≠ w1.heap.size := by have := hp1.lt; omega
    clear hba hra hx hp1 hbw hbl hr HBA HP0
    go_wp2_with fail
    generalize w1.alloc (.cells #[.int .i64 p.1, .int .i64 p.2] 25) = W4 at *
    generalize w1.heap.size = g7 at *
    have p0 := HP7.out.c0
    have p1 := HP7.out.c1
    go_still_tail 4, (by kernel_rfl)
    change wpList _ _ _ _ _ W4.drew
    clear p0 p1
    have r0 := (HP4.out.later (Below.refl _ _).drew).c0
    have r1 := (HP4.out.later (Below.refl _ _).drew).c1
    have f0 := (HP4.out.later (Below.refl _ _).drew).free 0
    have f1 := (HP4.out.later (Below.refl _ _).drew).free 1
    have HP5 := Lib.hid (HP4.out.later (Below.refl _ _).drew)
    have HB5 := Lib.hid HB4.out.drew
    clear HP4 HB4 HP7
    generalize W4.drew = W8 at *
    go_wp2_with fail
    have HT2 := set2_pl (a' := p.1) (b' := p.2) HP5.out
    have d0 := HT2.c0
    have d1 := HT2.c1
    unfold set2 at d0 d1
    refine bodyPost_ret (v := .tuple #[.slice none 0 0, .int .i64 x, .agg #[.int .i64 p.1, .int .i64 p.2]]) (by simp [results, Tryd.results7, go_sem, d0, d1]) rfl ⟨(HB5.out.setCell (Nat.le_refl _) _).setCell (Nat.le_refl _) _, ?_⟩
    rw [HOK.out]
  · have q4 : Pl2 w.heap.size 0 0 w1 := (hbl _ HP0.out.lt (by omega)).trans HP0.out
    obtain ⟨b9, hcb9, hown⟩ := hR
    obtain ⟨Au, cu, rfl⟩ := own_shape hown
    obtain ⟨-, hfl, hL0⟩ := read_expr hra htk
    have hsm := hps.small
    have HBx : ∀ o, Below w1.heap.size w1 (w1.alloc o) := fun o => (Below.refl _ _).alloc (Nat.le_refl _) o
    have HP4 := Lib.hid (q4.later (HBx (.cells #[.int .i64 0, .int .i64 0] 25)))
    have HB4 := Lib.hid (below_later (HBx (.cells #[.int .i64 0, .int .i64 0] 25)) hbw)
    have HO4 := Lib.hid (own_later hown (HBx (.cells #[.int .i64 0, .int .i64 0] 25)))
    have HS4 := Lib.hid (hps.later (HBx (.cells #[.int .i64 0, .int .i64 0] 25)))
    have HC4 := Lib.hid (hcu.later (HBx (.cells #[.int .i64 0, .int .i64 0] 25)))
    have HRA := Lib.hid hra
    have HTK := Lib.hid htk
    have hwb : w.heap.size ≤ b9 := by omega
    clear q4 hra htk hown hps hcu hbw hbl hr HBA HP0 HBx
    obtain ⟨⟨t, p⟩, hx0⟩ : ∃ x, L[0]? = some x := ⟨_, List.getElem?_eq_getElem hL0⟩
    have HFI : Hid (firstOf s.data.toList = p) := Lib.hid (by
      unfold firstOf
      rw [HTK.out]
      simp only
      unfold pl
      rw [hx0])
    have HX0 := Lib.hid hx0
    have cc := HC4.out.cell (i := 0) rfl
    have HN := Lib.hid (own_nds HO4.out rfl)
    clear hx0
    by_cases hbig : 4096 < f.flat.length
    · have HBG := Lib.hid hbig
      have HSX : Hid (exprOf s.data.toList = .error (17, p)) := Lib.hid (by unfold exprOf; rw [HRA.out]; simp only; rw [if_pos HBG.out, HFI.out])
      go_wp2_with fail
      generalize w1.alloc (.cells #[.int .i64 0, .int .i64 0] 25) = W4 at *
      have HRES : Hid (∀ w'', Below w.heap.size w w'' → ExprRes s.data.toList w (.returned (.tuple #[.slice none 0 0, .int .i64 17, .agg #[.int .i64 (p.1 : Nat), .int .i64 (p.2 : Nat)]])) w'') := Lib.hid fun w'' hbw => ⟨hbw, by
        rw [HSX.out]
        rfl⟩
      obtain ⟨g, c, etv, n3, n4⟩ := toks_tok HS4.out.toks HX0.out
      subst etv
      rw [Nat.zero_mul, Nat.zero_add] at n3 n4
      have b0 := HS4.out.blk.cell (i := 0) rfl
      have hg1 : w.heap.size ≠ g := fun e => own_type_ne HS4.out.toks HP4.out (by decide) (by rw [e]; rfl)
      have hg2 : w.heap.size ≠ pb := HS4.out.ne HP4.out (by decide)
      have r0 := HP4.out.c0
      have r1 := HP4.out.c1
      have f0 := HP4.out.free 0
      have f1 := HP4.out.free 1
      generalize p.1 = px1 at *
      generalize p.2 = px2 at *
      refine wp_region_plan (S := fun w' => w'.cell? ⟨pb, 0, none⟩ = some (.slice (some ⟨g, 0, none⟩) L.length c) ∧ w'.cell? ⟨g, 3, none⟩ = some (.int .i64 px1) ∧ w'.cell? ⟨g, 4, none⟩ = some (.int .i64 px2)) [(0, true), (1, true), (2, true), (3, true), (4, true), (5, true), (6, true), (7, true), (8, true), (9, false)] (by kernel_rfl) (by kernel_rfl) (by kernel_rfl) (fun _ _ _ _ _ h => h) ⟨b0, n3, n4⟩ ?_
      intro HSt
      have rr0 : W4.drew.cell? ⟨w.heap.size, 0, none⟩ = some (.int .i64 0) := r0
      have rr1 : W4.drew.cell? ⟨w.heap.size, 1, none⟩ = some (.int .i64 0) := r1
      have ff0 : W4.drew.frozen? ⟨w.heap.size, 0, none⟩ = false := f0
      have ff1 : W4.drew.frozen? ⟨w.heap.size, 1, none⟩ = false := f1
      have HP9 : Hid (Pl2 w.heap.size 0 0 W4.drew) := Lib.hid HP4.out
      have HB9 : Hid (Below w.heap.size w W4.drew) := Lib.hid HB4.out.drew
      clear r0 r1 f0 f1 b0 n3 n4
      generalize W4.drew = W9 at *
      repeat (first | (apply wpPlan_look; rfl; rfl; (intro wq hq; (try dsimp only at hq); go_split_ands; go_simp; (try rw [if_neg (by omega)]); (try rw [if_pos (by omega)]); try with_reducible rfl); simp only [Act.put, List.setIfInBounds_toArray, List.set_cons_zero, List.set_cons_succ]) | (apply wpPlan_skip; rfl; rfl; simp only [Act.put, List.setIfInBounds_toArray, List.set_cons_zero, List.set_cons_succ]) | (apply wpPlan_pass; rfl; rfl; assumption; simp only [Act.put, List.setIfInBounds_toArray, List.set_cons_zero, List.set_cons_succ]))
      have fe1 := (blk_set HP9.out 0 (.int .i64 px1)).free 1
      have ce1 := (blk_set HP9.out 0 (.int .i64 px1)).cell (i := 1) rfl
      refine wpPlan_run0 (w' := (W9.setCell ⟨w.heap.size, 0, none⟩ (.int .i64 px1)).setCell ⟨w.heap.size, 1, none⟩ (.int .i64 px2)) rfl rfl (by simp [execOp, go_sem, rr0, rr1, ff0, ff1, ce1, fe1]) _ (fun _ h => h) ⟨far_cell (far_cell HSt.1 hg2 _) hg2 _, far_cell (far_cell HSt.2.1 hg1 _) hg1 _, far_cell (far_cell HSt.2.2 hg1 _) hg1 _⟩ ?_
      simp only [Act.put, List.setIfInBounds_toArray, List.set_cons_zero, List.set_cons_succ]
      apply wpPlan_done
      clear HSt rr0 rr1 ff0 ff1 fe1 ce1
      have hke := blk_set (blk_set HP9.out 0 (.int .i64 px1)) 1 (.int .i64 px2)
      have d0 := hke.cell (i := 0) rfl
      have d1 := hke.cell (i := 1) rfl
      clear hke
      have hres := HRES.out _ ((HB9.out.setCell (p := ⟨w.heap.size, 0, none⟩) (Nat.le_refl _) (.int .i64 px1)).setCell (p := ⟨w.heap.size, 1, none⟩) (Nat.le_refl _) (.int .i64 px2))
      have HRS := Lib.hid hres
      clear hres HRES HB9 HP9
      generalize (W9.setCell ⟨w.heap.size, 0, none⟩ (.int .i64 px1)).setCell ⟨w.heap.size, 1, none⟩ (.int .i64 px2) = w10 at *
      go_wp2_with fail
      refine bodyPost_ret (v := .tuple #[.slice none 0 0, .int .i64 17, .agg #[.int .i64 px1, .int .i64 px2]]) (by simp [results, Tryd.results7, go_sem, d0, d1]) rfl HRS.out
    · have HBG := Lib.hid hbig
      have HDP := Lib.hid (tDeep_any f.flat _ _ HN.out (by omega))
      go_wp2_with fail
      refine HDP.out.mono ?_
      rintro E W5 ⟨rfl, hb5⟩
      clear HDP
      generalize w1.alloc (.cells #[.int .i64 0, .int .i64 0] 25) = W4 at *
      have HP5 := Lib.hid (HP4.out.later hb5)
      have HB5 := Lib.hid (below_later hb5 HB4.out)
      have HO5 := Lib.hid (own_later HO4.out hb5)
      have HS5 := Lib.hid (HS4.out.later hb5)
      have HC5 := Lib.hid (HC4.out.later hb5)
      clear hb5 HP4 HB4 HO4 HS4 HC4 HN cc
      by_cases hdp : 64 < deepOf f.flat
      · have HSX : Hid (exprOf s.data.toList = .error (16, p)) := Lib.hid (by unfold exprOf; rw [HRA.out]; simp only; rw [if_neg HBG.out, if_pos hdp, HFI.out])
        generalize deepOf f.flat = dd at *
        go_wp2_with fail
        have HRES : Hid (∀ w'', Below w.heap.size w w'' → ExprRes s.data.toList w (.returned (.tuple #[.slice none 0 0, .int .i64 16, .agg #[.int .i64 (p.1 : Nat), .int .i64 (p.2 : Nat)]])) w'') := Lib.hid fun w'' hbw => ⟨hbw, by
          rw [HSX.out]
          rfl⟩
        obtain ⟨g, c, etv, n3, n4⟩ := toks_tok HS5.out.toks HX0.out
        subst etv
        rw [Nat.zero_mul, Nat.zero_add] at n3 n4
        have b0 := HS5.out.blk.cell (i := 0) rfl
        have hg1 : w.heap.size ≠ g := fun e => own_type_ne HS5.out.toks HP5.out (by decide) (by rw [e]; rfl)
        have hg2 : w.heap.size ≠ pb := HS5.out.ne HP5.out (by decide)
        have r0 := HP5.out.c0
        have r1 := HP5.out.c1
        have f0 := HP5.out.free 0
        have f1 := HP5.out.free 1
        generalize p.1 = px1 at *
        generalize p.2 = px2 at *
        refine wp_region_plan (S := fun w' => w'.cell? ⟨pb, 0, none⟩ = some (.slice (some ⟨g, 0, none⟩) L.length c) ∧ w'.cell? ⟨g, 3, none⟩ = some (.int .i64 px1) ∧ w'.cell? ⟨g, 4, none⟩ = some (.int .i64 px2)) [(0, true), (1, true), (2, true), (3, true), (4, true), (5, true), (6, true), (7, true), (8, true), (9, false)] (by kernel_rfl) (by kernel_rfl) (by kernel_rfl) (fun _ _ _ _ _ h => h) ⟨b0, n3, n4⟩ ?_
        intro HSt
        have rr0 : W5.drew.cell? ⟨w.heap.size, 0, none⟩ = some (.int .i64 0) := r0
        have rr1 : W5.drew.cell? ⟨w.heap.size, 1, none⟩ = some (.int .i64 0) := r1
        have ff0 : W5.drew.frozen? ⟨w.heap.size, 0, none⟩ = false := f0
        have ff1 : W5.drew.frozen? ⟨w.heap.size, 1, none⟩ = false := f1
        have HP9 : Hid (Pl2 w.heap.size 0 0 W5.drew) := Lib.hid HP5.out
        have HB9 : Hid (Below w.heap.size w W5.drew) := Lib.hid HB5.out.drew
        clear r0 r1 f0 f1 b0 n3 n4
        generalize W5.drew = W9 at *
        repeat (first | (apply wpPlan_look; rfl; rfl; (intro wq hq; (try dsimp only at hq); go_split_ands; go_simp; (try rw [if_neg (by omega)]); (try rw [if_pos (by omega)]); try with_reducible rfl); simp only [Act.put, List.setIfInBounds_toArray, List.set_cons_zero, List.set_cons_succ]) | (apply wpPlan_skip; rfl; rfl; simp only [Act.put, List.setIfInBounds_toArray, List.set_cons_zero, List.set_cons_succ]) | (apply wpPlan_pass; rfl; rfl; assumption; simp only [Act.put, List.setIfInBounds_toArray, List.set_cons_zero, List.set_cons_succ]))
        have fe1 := (blk_set HP9.out 0 (.int .i64 px1)).free 1
        have ce1 := (blk_set HP9.out 0 (.int .i64 px1)).cell (i := 1) rfl
        refine wpPlan_run0 (w' := (W9.setCell ⟨w.heap.size, 0, none⟩ (.int .i64 px1)).setCell ⟨w.heap.size, 1, none⟩ (.int .i64 px2)) rfl rfl (by simp [execOp, go_sem, rr0, rr1, ff0, ff1, ce1, fe1]) _ (fun _ h => h) ⟨far_cell (far_cell HSt.1 hg2 _) hg2 _, far_cell (far_cell HSt.2.1 hg1 _) hg1 _, far_cell (far_cell HSt.2.2 hg1 _) hg1 _⟩ ?_
        simp only [Act.put, List.setIfInBounds_toArray, List.set_cons_zero, List.set_cons_succ]
        apply wpPlan_done
        clear HSt rr0 rr1 ff0 ff1 fe1 ce1
        have hke := blk_set (blk_set HP9.out 0 (.int .i64 px1)) 1 (.int .i64 px2)
        have d0 := hke.cell (i := 0) rfl
        have d1 := hke.cell (i := 1) rfl
        clear hke
        have hres := HRES.out _ ((HB9.out.setCell (p := ⟨w.heap.size, 0, none⟩) (Nat.le_refl _) (.int .i64 px1)).setCell (p := ⟨w.heap.size, 1, none⟩) (Nat.le_refl _) (.int .i64 px2))
        have HRS := Lib.hid hres
        clear hres HRES HB9 HP9
        generalize (W9.setCell ⟨w.heap.size, 0, none⟩ (.int .i64 px1)).setCell ⟨w.heap.size, 1, none⟩ (.int .i64 px2) = w10 at *
        go_wp2_with fail
        refine bodyPost_ret (v := .tuple #[.slice none 0 0, .int .i64 16, .agg #[.int .i64 px1, .int .i64 px2]]) (by simp [results, Tryd.results7, go_sem, d0, d1]) rfl HRS.out
      · have HRES : Hid (ExprRes s.data.toList w (.returned (.tuple #[.slice Au f.flat.length cu, .int .i64 0, .agg #[.int .i64 0, .int .i64 0]])) W5) := Lib.hid ⟨HB5.out, by
          rw [show exprOf s.data.toList = .ok f by unfold exprOf; rw [HRA.out]; simp only; rw [if_neg HBG.out, if_neg hdp]]
          exact ⟨_, rfl, own_mono HO5.out hwb⟩⟩
        have cc := HC5.out.cell (i := 0) rfl
        have r0 := HP5.out.c0
        have r1 := HP5.out.c1
        have f0 := HP5.out.free 0
        have f1 := HP5.out.free 1
        generalize deepOf f.flat = dd at *
        go_wp2_with fail
        have s0 := set_selfz (i := 0) HP5.out (v := .int .i64 0) rfl
        have s1 := set_selfz (i := 1) HP5.out (v := .int .i64 0) rfl
        rw [s0, s1]
        refine bodyPost_ret (v := .tuple #[.slice Au f.flat.length cu, .int .i64 0, .agg #[.int .i64 0, .int .i64 0]]) (by simp [results, Tryd.results7, go_sem, r0, r1]) rfl HRES.out
end Go.Proofs.YtnhdbjhdmdefmaaDoor

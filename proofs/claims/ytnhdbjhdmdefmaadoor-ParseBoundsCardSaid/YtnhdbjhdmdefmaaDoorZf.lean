
/- Walks of parse: a type that is no part of another one; notes; parameters. -/
import Derived.Test.YtnhdbjhdmdefmaaDoorZe
namespace Culp.Gr
set_option linter.unusedSimpArgs false
set_option linter.unusedVariables false
open Go Go.RowKit Culp Culp.Tr Go.Proofs.YtnhdbjhdmdefmaaDoor
section
variable {pb B i k : Nat} {L : List Tok} {tv lv lv1 u : Value} {e : Nat × Nat} {lg : List Nat} {w w' w1 w2 : World}
theorem PS.base (h : PS pb B L tv e i lg lv w) (hi : 0 < L.length) : B ≤ w.heap.size := by
  rcases h.toks.2 with ⟨_, h0⟩ | ⟨g, cap, cur, rfl, hb, hh, _⟩
  · omega
  · have := (Array.getElem?_eq_some_iff.1 hh).1
    omega
/-- A place too many is noted. -/
theorem PS.put (h : PS pb B L tv e i lg lv w) (hown : w1.ownsRow B 25 2 lv1 (lg.length + 1) (places L lg ++ [.int .i64 (pl L k).1, .int .i64 (pl L k).2])) (hg : w.grownBy w1 lv.ownBlock)
    (hat : lv1.ownBlock = lv.ownBlock ∨ lv1.ownBlock = some w.heap.size) (hi : lg.length + 1 ≤ i) : Went pb B L tv e lv i (lg ++ [k]) w (w1.setCell ⟨pb, 4, none⟩ lv1) := by
  have hpl := h.blk.lt
  have hlp := own_type_ne h.lrow h.blk (by decide)
  have htp := own_type_ne h.toks h.blk (by decide)
  have h5 : Blk pb #[tv, .int .i64 i, .int .i64 e.1, .int .i64 e.2, lv] 64 w1 := (hg.block pb hpl (fun e => hlp e.symm)).trans h.blk
  have hl1 : lv1.ownBlock ≠ some pb := by
    rcases hat with a | a
    · rw [a]; exact hlp
    · rw [a]; intro he; injection he with he; omega
  have hk : Keep pb w1 (w1.setCell ⟨pb, 4, none⟩ lv1) := (Keep.refl pb w1).setCell 4 _
  have hkn : KeepN pb lv.ownBlock w (w1.setCell ⟨pb, 4, none⟩ lv1) := ⟨hk.os.trans hg.os, hk.tape.trans hg.tape, hk.output.trans hg.output, Nat.le_trans hg.size hk.size, fun k hk1 hk2 hk3 => (hk.block k (Nat.lt_of_lt_of_le hk1 hg.size) hk2).trans (hg.block k hk1 (fun e => hk3 e.symm))⟩
  refine ⟨lv1, hkn, { h with
    blk := ?_
    toks := ?_
    lrow := ?_
    few := by simpa using hi }, ?_⟩
  · unfold Blk at h5 ⊢
    simp [World.setCell, Array.getElem?_modify, h5]
  · refine hkn.own h.toks htp (fun b hb he => ?_)
    rcases h.toks.2 with ⟨h1, _⟩ | ⟨g', cap, cur, h1, _, hh, _⟩
    · rw [h1] at hb; cases hb
    · rcases h.lrow.2 with ⟨h2, _⟩ | ⟨g2, cap2, cur2, h2, _, hh2, _⟩
      · rw [h2] at he; cases he
      · rw [h1] at hb
        rw [h2] at he
        have e1 : g' = b := Option.some.inj hb
        have e2 : g2 = b := Option.some.inj he
        rw [e1] at hh
        rw [e2, hh] at hh2
        simp only [Option.some.injEq, Obj.cells.injEq] at hh2
        exact absurd hh2.2.1 (by decide)
  · have e1 : places L (lg ++ [k]) = places L lg ++ [.int .i64 (pl L k).1, .int .i64 (pl L k).2] := by
      simp [places, List.flatMap_append]
    rw [e1, List.length_append]
    exact own_apart_keep hown hk hl1
  · rcases hat with a | a
    · exact .inl a
    · exact .inr ⟨_, a, Nat.le_refl _⟩
theorem here_pl {L : List Tok} (e : Nat × Nat) {i : Nat} (h : i < L.length) : here L e i = pl L i := by
  unfold here pl
  rw [List.getElem?_eq_getElem h]
end
end Culp.Gr
namespace Go.Proofs.YtnhdbjhdmdefmaaDoor
set_option linter.unusedSimpArgs false
set_option linter.unusedVariables false
open Go.RowKit Culp Culp.Gr
theorem place_info : (Tryd.prog.info? 25).map (fun i => (i.zero, i.size, i.bytes)) = some (some (.agg #[.int .i64 0, .int .i64 0]), 2, 16) := by kernel_rfl
theorem build_place (w : World) (l c : Int) : (Instr.buildSlice 62 1 #[(0, .agg #[.int .i64 l, .int .i64 c])]).run Tryd.prog w = .ok (.slice (some ⟨w.heap.size, 0, none⟩) 1 1) (w.alloc (.cells #[.int .i64 l, .int .i64 c] 25)) := by
  simp [go_sem, Instr.buildSlice, run_underlying Tryd.underlying62]
section
variable {pb B i : Nat} {L : List Tok} {tv lv : Value} {e : Nat × Nat} {lg : List Nat} {w : World}
set_option maxRecDepth 100000 in
set_option maxHeartbeats 1600000 in
theorem whole_any (h : PS pb B L tv e i lg lv w) : Calls Tryd.prog 23 #[.pointer (some ⟨pb, 0, none⟩)] w (PRes StrR (whole L i lg) pb B L tv e lv w) := by
  have HH := Lib.hid (here_any h)
  have HP := Lib.hid h
  have hsm := h.small
  have hfw := h.few
  clear h
  go_enter Tryd.func23, Tryd.ntmps23
  go_wp2_with fail
  refine HH.out.mono ?_
  rintro E w1 ⟨rfl, hb1⟩
  obtain ⟨a, b, x, y, c, hC, -⟩ := tokC_lit L e i
  have hxy : x = ((here L e i).1 : Nat) ∧ y = ((here L e i).2 : Nat) := by
    have h3 := congrArg (fun z => z[3]?) hC
    have h4 := congrArg (fun z => z[4]?) hC
    simp [tokC] at h3 h4
    exact ⟨h3.symm, h4.symm⟩
  rw [hC]
  have HXY := Lib.hid hxy
  clear hC hxy HH
  have hb2 : Below w1.heap.size w1 (w1.alloc (.cells #[.int .i64 x, .int .i64 y] 25)) := (Below.refl _ _).alloc (Nat.le_refl _) _
  have HB2 := Lib.hid (below_later hb2 hb1)
  have HK2 : Hid (Blk w1.heap.size #[.int .i64 x, .int .i64 y] 25 (w1.alloc (.cells #[.int .i64 x, .int .i64 y] 25))) := Lib.hid (Blk.alloc _ _ _)
  have H2 := Lib.hid (HP.out.later HB2.out)
  have hl1 : w.heap.size ≤ w1.heap.size := hb1.size
  have HC2 := Lib.hid ((ty_all pb B L tv e (2 * L.length + 4)).2 i lg lv _ H2.out (by simp only [Bool.toNat_true]; omega))
  have hf3 := @field_at
  clear hb1 hb2
  go_wp2_with fail
  clear hf3
  refine HC2.out.mono ?_
  clear HC2
  rintro E w3 hr
  cases hs : ty L (2 * L.length + 4) true i with
  | error j =>
    rw [hs] at hr
    obtain ⟨rfl, hk⟩ := hr
    refine ⟨rfl, ?_⟩
    unfold whole
    rw [hs]
    exact ⟨rfl, (KeepN.of pb lv.ownBlock HB2.out).trans hk (.inl rfl)⟩
  | ok r =>
    rw [hs] at hr
    obtain ⟨v, rfl, hv, hw⟩ := hr
    obtain rfl : v = _ := hv
    have hbd := ty_bound _ _ _ _ hs
    have hln := ty_len _ _ _ _ hs
    have hk3 : Blk w1.heap.size #[.int .i64 x, .int .i64 y] 25 w3 := keepN_blk hw.keep HK2.out (H2.out.ne HK2.out (by decide)) (fun e => by
      have := (HP.out.lrow.lt _ e).2
      omega)
    have hz1 : (by_ r.1).size = r.1.length := by_size _
    have HK3 := Lib.hid hk3
    have HW3 := Lib.hid (Went.trans (KeepN.of pb lv.ownBlock HB2.out) (.inl rfl) hw)
    have HW0 := Lib.hid hw
    have hl2 : ∀ k, lv.ownBlock = some k → k < w.heap.size := fun k hk => (HP.out.lrow.lt k hk).2
    have HS := Lib.hid hs
    clear hw hk3 HK2 H2 hs
    by_cases hlen : 64 < r.1.length
    · obtain ⟨lv3, k1, k2, k3⟩ := HW0.out
      have hne3 : lv3.ownBlock ≠ some w1.heap.size := by
        intro he
        rcases k3 with a | ⟨b, a, hb⟩
        · rw [a] at he
          have := hl2 _ he
          omega
        · rw [a] at he
          injection he with he
          rw [World.size_alloc] at hb
          omega
      have HK := Lib.hid k1
      have H3 := Lib.hid k2
      have HA := Lib.hid k3
      clear k1 k2 k3 HW3 HW0 hl2
      have hgp := H3.out.ne HK3.out (by decide)
      obtain ⟨Al, cl, rfl⟩ := own_shape H3.out.lrow
      have hin : i < L.length := by omega
      have HPL : Hid (x = ((pl L i).1 : Nat) ∧ y = ((pl L i).2 : Nat)) := Lib.hid (by rw [← here_pl e hin]; exact HXY.out)
      have c4 := H3.out.blk.cell (i := 4) rfl
      have p0 := HK3.out.cell (i := 0) rfl
      have p1 := HK3.out.cell (i := 1) rfl
      go_wp2_with fail
      refine wp_region_last (S := fun w' => w'.cell? ⟨pb, 4, none⟩ = some (.slice Al lg.length cl) ∧ w'.cell? ⟨w1.heap.size, 0, none⟩ = some (.int .i64 x) ∧ w'.cell? ⟨w1.heap.size, 1, none⟩ = some (.int .i64 y)) 10 [(0, true), (1, true), (2, true), (3, true), (4, true), (5, true), (6, false), (7, false), (8, true), (9, true)] (by kernel_rfl) (by kernel_rfl) (by kernel_rfl) (fun _ _ _ _ _ h => h) ⟨c4, p0, p1⟩ ?_
      intro HS4
      repeat (first | (apply wpPlan_look; rfl; rfl; (intro wq hq; (try dsimp only at hq); go_split_ands; go_simp; (try rw [if_neg (by omega)]); (try rw [if_pos (by omega)]); try with_reducible rfl); simp only [Act.put, List.setIfInBounds_toArray, List.set_cons_zero, List.set_cons_succ]) | (apply wpPlan_skip; rfl; rfl; simp only [Act.put, List.setIfInBounds_toArray, List.set_cons_zero, List.set_cons_succ]) | (apply wpPlan_pass; rfl; rfl; assumption; simp only [Act.put, List.setIfInBounds_toArray, List.set_cons_zero, List.set_cons_succ]))
      have hb4 : Below w3.heap.size w3 (w3.drew.alloc (.cells #[.int .i64 x, .int .i64 y] 25)) := (Below.refl _ _).drew.alloc (Nat.le_refl _) _
      have q4 := cell_later hb4 c4
      have q0 := cell_later hb4 p0
      have q1 := cell_later hb4 p1
      refine wpPlan_run rfl rfl (by simp [execOp, go_sem, build_place]; (first | exact ⟨rfl, rfl⟩ | rfl)) _ (fun _ h => h) ⟨q4, q0, q1⟩ ?_
      simp only [Act.put, List.setIfInBounds_toArray, List.set_cons_zero, List.set_cons_succ]
      repeat (first | (apply wpPlan_look; rfl; rfl; (intro wq hq; (try dsimp only at hq); go_split_ands; go_simp; (try rw [if_neg (by omega)]); (try rw [if_pos (by omega)]); try with_reducible rfl); simp only [Act.put, List.setIfInBounds_toArray, List.set_cons_zero, List.set_cons_succ]) | (apply wpPlan_skip; rfl; rfl; simp only [Act.put, List.setIfInBounds_toArray, List.set_cons_zero, List.set_cons_succ]) | (apply wpPlan_pass; rfl; rfl; assumption; simp only [Act.put, List.setIfInBounds_toArray, List.set_cons_zero, List.set_cons_succ]))
      have H4 := Lib.hid (H3.out.later hb4)
      have HB4 := Lib.hid hb4
      obtain ⟨ii, hi, hz0, hz1', hz2⟩ := info_parts place_info
      obtain ⟨v5, w5, hrun, hown5, hg5, _, hat5⟩ := run_append_own_at (P := Tryd.prog) _ B 62 62 25 ii _ 2 16 Tryd.underlying62 hi hz0 hz1' hz2 rfl (by decide) _ lg.length _ H4.out.lrow ⟨w3.heap.size, 0, none⟩ 1 1 [.int .i64 x, .int .i64 y] rfl (by
        intro j u hj
        rw [Addr.add_lit, Nat.zero_add]
        change (w3.drew.alloc (.cells #[.int .i64 x, .int .i64 y] 25)).cell? ⟨w3.drew.heap.size, j, none⟩ = some u
        rw [World.cell?_alloc_at _ _ _ _ rfl]
        simpa using hj) (by intro v hv; simp at hv; rcases hv with rfl | rfl <;> rfl) (by unfold maxLen; omega) (by omega) (H4.out.base (by omega))
      obtain ⟨A5, C5, rfl⟩ := own_shape hown5
      have hfin : Went pb B L tv e (.slice Al lg.length cl) r.2 (lg ++ [i]) (w3.drew.alloc (.cells #[.int .i64 x, .int .i64 y] 25)) (w5.setCell ⟨pb, 4, none⟩ (.slice A5 (lg.length + 1) C5)) := H4.out.put (by rw [← HPL.out.1, ← HPL.out.2]; exact hown5) hg5 hat5 (by omega)
      have HR : Hid (PRes StrR (whole L i lg) pb B L tv e lv w (.returned (.string (by_ r.1))) (w5.setCell ⟨pb, 4, none⟩ (.slice A5 (lg.length + 1) C5))) := Lib.hid (by
        unfold whole
        rw [HS.out, bnd_ok, if_pos hlen]
        exact ⟨_, rfl, rfl, Went.trans (KeepN.of pb lv.ownBlock HB2.out) (.inl rfl) (Went.trans HK.out HA.out (Went.trans (KeepN.of pb _ HB4.out) (.inl rfl) hfin))⟩)
      have hbl := hg5.block pb H4.out.blk.lt (fun e => own_type_ne H4.out.lrow H4.out.blk (by decide) e.symm)
      have r4 : w5.cell? ⟨pb, 4, none⟩ = some (.slice Al lg.length cl) := by
        have := H4.out.blk
        unfold Blk at this
        simp [World.cell?, hbl, this]
      have f4 : w5.frozen? ⟨pb, 4, none⟩ = false := by
        have := H4.out.blk
        unfold Blk at this
        simp [World.frozen?, hbl, this]
      have hpl5 : w5.heap[w1.heap.size]? = some (.cells #[.int .i64 x, .int .i64 y] 25 (0, 0)) := (hg5.block _ (HK3.out.later HB4.out).lt (fun e => hne3 e.symm)).trans (HK3.out.later HB4.out)
      have s0 : w5.cell? ⟨w1.heap.size, 0, none⟩ = some (.int .i64 x) := by simp [World.cell?, hpl5]
      have s1 : w5.cell? ⟨w1.heap.size, 1, none⟩ = some (.int .i64 y) := by simp [World.cell?, hpl5]
      refine wpPlan_run rfl rfl (exec_append rfl rfl rfl rfl hrun) _ (fun _ h => h) ⟨r4, s0, s1⟩ ?_
      clear HS4 c4 p0 p1 q4 q0 q1 hb4 hrun hown5 hg5 hat5 hfin hbl hpl5 hi hz0 hz1' hz2 ii
      simp only [Act.put, List.setIfInBounds_toArray, List.set_cons_zero, List.set_cons_succ]
      repeat (first | (apply wpPlan_look; rfl; rfl; (intro wq hq; (try dsimp only at hq); go_split_ands; go_simp; (try rw [if_neg (by omega)]); (try rw [if_pos (by omega)]); try with_reducible rfl); simp only [Act.put, List.setIfInBounds_toArray, List.set_cons_zero, List.set_cons_succ]) | (apply wpPlan_skip; rfl; rfl; simp only [Act.put, List.setIfInBounds_toArray, List.set_cons_zero, List.set_cons_succ]) | (apply wpPlan_pass; rfl; rfl; assumption; simp only [Act.put, List.setIfInBounds_toArray, List.set_cons_zero, List.set_cons_succ]))
      refine wpPlan_last_run0 (w' := w5.setCell ⟨pb, 4, none⟩ (.slice A5 (lg.length + 1) C5)) rfl rfl (by simp [execOp, go_sem, r4, f4]) ?_
      clear r4 s0 s1 f4
      go_wp2_with fail
      go_ret
      exact HR.out
    · clear HW0 hl2
      have HR : Hid (PRes StrR (whole L i lg) pb B L tv e lv w (.returned (.string (by_ r.1))) w3) := Lib.hid (by
        unfold whole
        rw [HS.out, bnd_ok, if_neg hlen]
        exact ⟨_, rfl, rfl, HW3.out⟩)
      clear HW3 HK3
      go_wp2_with fail
      go_ret
      exact HR.out
set_option maxRecDepth 100000 in
set_option maxHeartbeats 1600000 in
theorem note_any (h : PS pb B L tv e i lg lv w) : Calls Tryd.prog 37 #[.pointer (some ⟨pb, 0, none⟩)] w (PRes StrR (note L i lg) pb B L tv e lv w) := by
  have HT := Lib.hid (went_takes (Went.refl h) [58])
  clear h
  go_enter Tryd.func37, Tryd.ntmps37
  simp only [by_] at HT
  go_wp2_with fail
  refine HT.out.mono ?_
  rintro E w1 ⟨rfl, hw1, -⟩
  have HW1 := Lib.hid hw1
  clear hw1 HT
  cases hm : isM L [58] i with
  | false =>
    have HR : Hid (PRes StrR (note L i lg) pb B L tv e lv w (.returned (.string (by_ []))) w1) := Lib.hid (by
      have := HW1.out
      rw [adv_no hm] at this
      unfold note
      rw [if_neg (by rw [hm]; simp)]
      exact ⟨_, rfl, rfl, this⟩)
    clear hm HW1
    go_wp2_with fail
    go_ret
    exact HR.out
  | true =>
    have HW2 : Hid (Went pb B L tv e lv (i + 1) lg w w1) := Lib.hid (by have := HW1.out; rwa [adv_yes hm] at this)
    have HC := Lib.hid (HW2.out.call (R := StrR) (spec := whole L (i + 1) lg) (fun lv1 h1 => whole_any h1))
    have HE : Hid (note L i lg = whole L (i + 1) lg) := Lib.hid (by unfold note; rw [if_pos hm])
    clear hm HW1 HW2
    go_wp2_with fail
    refine HC.out.mono ?_
    rintro E w2 ⟨hr, -⟩
    rw [← HE.out] at hr
    clear HC HE
    cases hs : note L i lg with
    | error j =>
      rw [hs] at hr
      obtain ⟨rfl, hk⟩ := hr
      exact ⟨rfl, rfl, hk⟩
    | ok r =>
      rw [hs] at hr
      obtain ⟨v, rfl, hv, hw⟩ := hr
      obtain rfl : v = _ := hv
      have HR : Hid (PRes StrR (note L i lg) pb B L tv e lv w (.returned (.string (by_ r.1))) w2) := Lib.hid (by rw [hs]; exact ⟨_, rfl, rfl, hw⟩)
      clear hw hs
      go_wp2_with fail
      go_ret
      exact HR.out
/-- Three texts. -/
def Str3R (_ : World) (v : Value) (s : List UInt8 × List UInt8 × List UInt8) : Prop := v = .tuple #[.string (by_ s.1), .string (by_ s.2.1), .string (by_ s.2.2)]
theorem field_str (x0 x1 x3 x4 : Value) (c : ByteArray) (w : World) : (Instr.field 60 (.agg #[x0, x1, .string c, x3, x4]) 2).run Tryd.prog w = .ok (.string c) w := by kernel_rfl
set_option maxRecDepth 100000 in
set_option maxHeartbeats 3200000 in
theorem parameter_any (h : PS pb B L tv e i lg lv w) : Calls Tryd.prog 65 #[.pointer (some ⟨pb, 0, none⟩)] w (PRes Str3R (param L i lg) pb B L tv e lv w) := by
  have HW0 := Lib.hid (Went.refl h)
  clear h
  go_enter Tryd.func65, Tryd.ntmps65
  go_wp2_with fail
  (refine (HW0.out.call (R := TokR L e i) (spec := tokS (want L [40] i) lg) (fun lv1 h1 => wants_any h1 [40])).mono ?_)
  rintro E w1 ⟨hr, -⟩
  cases hs1 : want L [40] i with
  | error j =>
    rw [hs1] at hr
    obtain ⟨rfl, hk⟩ := hr
    refine ⟨rfl, ?_⟩
    rw [show param L i lg = .error j by unfold param; rw [hs1]; rfl]
    exact ⟨rfl, hk⟩
  | ok a =>
    rw [hs1] at hr
    obtain ⟨v, rfl, -, hw⟩ := hr
    have HW1 := Lib.hid hw
    have HS1 := Lib.hid hs1
    clear hw HW0 hs1
    go_wp2_with fail
    (refine (HW1.out.call (R := TokR L e a) (spec := tokS (name L a) lg) (fun lv1 h1 => name_any h1)).mono ?_)
    rintro E w2 ⟨hr, -⟩
    cases hs2 : name L a with
    | error j =>
      rw [hs2] at hr
      obtain ⟨rfl, hk⟩ := hr
      refine ⟨rfl, ?_⟩
      rw [show param L i lg = .error j by unfold param; rw [HS1.out, bnd_ok,hs2]; rfl]
      exact ⟨rfl, hk⟩
    | ok b =>
      rw [hs2] at hr
      obtain ⟨v, rfl, hv, hw⟩ := hr
      have HW2 := Lib.hid hw
      have HS2 := Lib.hid hs2
      clear hw HW1 hs2
      obtain rfl : v = _ := hv
      obtain ⟨y0, y1, y2, hC⟩ := tokC_lit2 L e a
      rw [hC]
      have hf2 := @field_str
      clear hC
      go_wp2_with fail
      clear hf2
      (refine (HW2.out.call (R := StrR) (spec := note L b lg) (fun lv1 h1 => note_any h1)).mono ?_)
      rintro E w3 ⟨hr, -⟩
      cases hs3 : note L b lg with
      | error j =>
        rw [hs3] at hr
        obtain ⟨rfl, hk⟩ := hr
        refine ⟨rfl, ?_⟩
        rw [show param L i lg = .error j by unfold param; rw [HS1.out, bnd_ok, HS2.out, bnd_ok,hs3]; rfl]
        exact ⟨rfl, hk⟩
      | ok r =>
        rw [hs3] at hr
        obtain ⟨v, rfl, hv, hw⟩ := hr
        have HW3 := Lib.hid hw
        have HS3 := Lib.hid hs3
        clear hw HW2 hs3
        obtain rfl : v = _ := hv
        go_wp2_with fail
        (refine (HW3.out.call (R := TokR L e r.2.1) (spec := tokS (want L [41] r.2.1) r.2.2) (fun lv1 h1 => wants_any h1 [41])).mono ?_)
        rintro E w4 ⟨hr, -⟩
        cases hs4 : want L [41] r.2.1 with
        | error j =>
          rw [hs4] at hr
          obtain ⟨rfl, hk⟩ := hr
          refine ⟨rfl, ?_⟩
          rw [show param L i lg = .error j by unfold param; rw [HS1.out, bnd_ok, HS2.out, bnd_ok, HS3.out, bnd_ok,hs4]; rfl]
          exact ⟨rfl, hk⟩
        | ok c =>
          rw [hs4] at hr
          obtain ⟨v, rfl, -, hw⟩ := hr
          have HW4 := Lib.hid hw
          have HS4 := Lib.hid hs4
          clear hw HW3 hs4
          go_wp2_with fail
          (refine (HW4.out.call (R := StrR) (spec := note L c r.2.2) (fun lv1 h1 => note_any h1)).mono ?_)
          rintro E w5 ⟨hr, -⟩
          cases hs5 : note L c r.2.2 with
          | error j =>
            rw [hs5] at hr
            obtain ⟨rfl, hk⟩ := hr
            refine ⟨rfl, ?_⟩
            rw [show param L i lg = .error j by unfold param; rw [HS1.out, bnd_ok, HS2.out, bnd_ok, HS3.out, bnd_ok, HS4.out, bnd_ok,hs5]; rfl]
            exact ⟨rfl, hk⟩
          | ok q =>
            rw [hs5] at hr
            obtain ⟨v, rfl, hv, hw⟩ := hr
            have HW5 := Lib.hid hw
            have HS5 := Lib.hid hs5
            clear hw HW4 hs5
            obtain rfl : v = _ := hv
            go_wp2_with fail
            (refine (HW5.out.call (R := TokR L e q.2.1) (spec := tokS (want L sTo q.2.1) q.2.2) (fun lv1 h1 => wants_any h1 sTo)).mono ?_)
            rintro E w6 ⟨hr, -⟩
            cases hs6 : want L sTo q.2.1 with
            | error j =>
              rw [hs6] at hr
              obtain ⟨rfl, hk⟩ := hr
              refine ⟨rfl, ?_⟩
              rw [show param L i lg = .error j by unfold param; rw [HS1.out, bnd_ok, HS2.out, bnd_ok, HS3.out, bnd_ok, HS4.out, bnd_ok, HS5.out, bnd_ok,hs6]; rfl]
              exact ⟨rfl, hk⟩
            | ok d =>
              rw [hs6] at hr
              obtain ⟨v, rfl, -, hw⟩ := hr
              have HW6 := Lib.hid hw
              have HS6 := Lib.hid hs6
              clear hw HW5 hs6
              have HR : Hid (PRes Str3R (param L i lg) pb B L tv e lv w (.returned (.tuple #[.string (by_ (txt L a)), .string (by_ r.1), .string (by_ q.1)])) w6) := Lib.hid (by
                rw [show param L i lg = .ok ((txt L a, r.1, q.1), d, q.2.2) by unfold param; rw [HS1.out, bnd_ok, HS2.out, bnd_ok, HS3.out, bnd_ok, HS4.out, bnd_ok, HS5.out, bnd_ok, HS6.out, bnd_ok]]
                exact ⟨_, rfl, rfl, HW6.out⟩)
              clear HS1 HS2 HS3 HS4 HS5 HS6 HW6
              go_wp2_with fail
              refine bodyPost_ret (v := .tuple #[.string (by_ (txt L a)), .string (by_ r.1), .string (by_ q.1)]) (by simp [results, Tryd.results65, go_sem]) rfl HR.out
end
end Go.Proofs.YtnhdbjhdmdefmaaDoor

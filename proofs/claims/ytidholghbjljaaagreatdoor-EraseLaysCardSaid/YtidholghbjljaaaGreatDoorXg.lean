
/- Walks of the document's answer: the slots. -/
import Derived.Test.YtidholghbjljaaaGreatDoorXd
import Derived.Test.YtidholghbjljaaaGreatDoorR4W
namespace Culp.Er
set_option linter.unusedSimpArgs false
set_option linter.unusedVariables false
open Go Go.RowKit Culp
/-- A slot of the document. -/
def docC (s : Sl) (t : ByteArray) : List Value := [.string s.mod, .bool s.imp, .int .i64 s.item, .int .i64 s.node, .bool s.res, .string t, .int .i64 (s.pos.2.1 : Nat), .int .i64 (s.pos.1 : Nat)]
def docs (S : List Sl) (f : Pos → ByteArray) : List Value := S.flatMap fun s => docC s (f s.pos)
theorem docs_step {S : List Sl} {f : Pos → ByteArray} {q : Nat} {s : Sl} (h : S[q]? = some s) : docs (S.take (q + 1)) f = docs (S.take q) f ++ docC s (f s.pos) := by
  unfold docs
  rw [List.take_add_one, h, List.flatMap_append]; simp
end Culp.Er
namespace Culp
set_option linter.unusedSimpArgs false
set_option linter.unusedVariables false
open Go Go.RowKit
theorem Blk.drew {g : Nat} {cs : Array Value} {t : TypeId} {w : World} (h : Blk g cs t w) : Blk g cs t w.drew := h
theorem Blk.over {g : Nat} {cs : Array Value} {t e : TypeId} {w w' : World} (h : Blk g cs t w) (hb : ∀ b, b < w.heap.size → (∀ cur, w.heap[b]? ≠ some (.cells cur e (0, 0))) → w'.heap[b]? = w.heap[b]?) (hne : t ≠ e) : Blk g cs t w' := (hb g h.lt (fun cur hc => by
  have h1 : w.heap[g]? = some (.cells cs t (0, 0)) := h
  rw [h1] at hc
  simp only [Option.some.injEq, Obj.cells.injEq] at hc
  exact hne hc.2.1)).trans h
end Culp
namespace Go.Proofs.YtidholghbjljaaaGreatDoor
set_option linter.unusedSimpArgs false
set_option linter.unusedVariables false
open Go.RowKit Go.Maps Culp Culp.Er
theorem doc_info : (Tryz.prog.info? 38).map (fun i => (i.zero, i.size, i.bytes)) = some (some (.agg #[.string ByteArray.empty, .bool false, .int .i64 0, .int .i64 0, .bool false, .string ByteArray.empty, .int .i64 0, .int .i64 0]), 8, 80) := by kernel_rfl
theorem build_doc (w : World) (m t : ByteArray) (a r : Bool) (i k M z : Int) : (Instr.buildSlice 34 1 #[(0, .agg #[.string m, .bool a, .int .i64 i, .int .i64 k, .bool r, .string t, .int .i64 M, .int .i64 z])]).run Tryz.prog w = .ok (.slice (some ⟨w.heap.size, 0, none⟩) 1 1) (w.alloc (.cells #[.string m, .bool a, .int .i64 i, .int .i64 k, .bool r, .string t, .int .i64 M, .int .i64 z] 38)) := by
  simp [go_sem, Instr.buildSlice, run_underlying Tryz.underlying34]
theorem IsWritten_any (t : ByteArray) (w : World) : Calls Tryz.prog 13 #[.string t] w (Gives (.bool (isW t)) w) := by
  have HW : Hid (isW t = (!decide (t = no) && !decide (t = dynB))) := Lib.hid rfl
  have e1 := eq_no t
  have e2 := eq_dyn t
  generalize decide (t = no) = a at *
  generalize decide (t = dynB) = b at *
  generalize isW t = z at *
  cases a <;> cases b <;>
  · go_enter Tryz.func13, Tryz.ntmps13
    go_wp2_with fail
    go_ret
    exact Gives.mk (bool_congr (by rw [HW.out]; rfl))
/-- One more slot onto the row. -/
theorem push_run (S : List Sl) (f : Pos → ByteArray) (B q : Nat) (s : Sl) (v : Value) (W : World) (hown : W.ownsRow B 38 8 v q (docs (S.take q) f)) (hs : S[q]? = some s) (hq : q ≤ 1000000000) (hB : B ≤ W.heap.size) :
    ∃ v' w', (Builtin.append_ #[34, 34] 34 #[v, .slice (some ⟨W.heap.size, 0, none⟩) 1 1]).run Tryz.prog (W.alloc (.cells (docC s (f s.pos)).toArray 38)) = .ok v' w' ∧ w'.ownsRow B 38 8 v' (q + 1) (docs (S.take (q + 1)) f) ∧ Below B W w' ∧ W.heap.size ≤ w'.heap.size ∧
      ∀ b, b < W.heap.size → (∀ cur, W.heap[b]? ≠ some (.cells cur 38 (0, 0))) → w'.heap[b]? = W.heap[b]? := by
  obtain ⟨i, hi, hz0, hz1, hz2⟩ := info_parts doc_info
  obtain ⟨v', w', hr, ho, hg, _⟩ := run_append_own (P := Tryz.prog) (w := W.alloc (.cells (docC s (f s.pos)).toArray 38)) B 34 34 38 i _ 8 80 Tryz.underlying34 hi hz0 hz1 hz2 rfl (by decide) v q _ (hown.alloc _) ⟨W.heap.size, 0, none⟩ 1 1 (docC s (f s.pos)) rfl (fun j u hj => by
    have e1 : (⟨W.heap.size, 0, none⟩ : Addr).add j = ⟨W.heap.size, j, none⟩ := by
      unfold Addr.add
      split
      · rename_i h0; subst h0; rfl
      · simp
    rw [e1, World.cell?_alloc_at _ _ _ _ rfl]
    simpa using hj) (fun u hu => by
    simp only [docC, List.mem_cons, List.not_mem_nil, or_false] at hu
    rcases hu with rfl | rfl | rfl | rfl | rfl | rfl | rfl | rfl <;> rfl) (by unfold maxLen; omega) (by omega) (by rw [World.size_alloc]; omega)
  have hs1 := hg.size
  rw [World.size_alloc] at hs1
  refine ⟨v', w', hr, by rw [docs_step hs]; exact ho, ((Below.refl _ _).alloc hB _).grown hg (by rw [World.size_alloc]; omega) (fun k hk => (hown.lt k hk).1), by omega, fun b hb hne => ?_⟩
  rw [hg.block b (by rw [World.size_alloc]; omega) (fun e => own_ne hown hne e.symm), Below.heap_alloc _ _ _ hb]
set_option maxRecDepth 100000 in
set_option maxHeartbeats 12800000 in
theorem rSlots_any (L : List Md) (v : Value) (w : World) (hm : Mods w v L) (h0 : Mo.mods L = 0) : Calls Tryz.prog 12 #[v] w fun E w' => ∃ u, E = .returned u ∧ Below w.heap.size w w' ∧ w'.ownsRow w.heap.size 38 8 u (slots L).length (docs (slots L) (note L)) := by
  obtain ⟨sk, hM, ⟨A, c, rfl, hc, hA⟩, hu⟩ := sk_of_mods hm
  have hft := fits_of h0
  have hlen := hft.len
  have hml := hft.mods
  have HFD := Lib.hid hft.defs
  have HFI : Hid (∀ (m : Nat) (md : Md), L[m]? = some md → md.imps.length ≤ 1000000000000) := Lib.hid fun m md hx => (lens_of h0).imps md (List.mem_of_getElem? hx)
  have HM := Lib.hid (fun (wr : World) (hb : Below w.heap.size w wr) => hM.keep hu hb)
  clear hM hu h0 hm hft
  go_enter Tryz.func12, Tryz.ntmps12
  go_wp2_with fail
  go_loopw [3, 4] (fun ov iv wr => ∃ m q : Nat, m ≤ L.length ∧ iv = .int .i64 m ∧ Hid (wr.ownsRow w.heap.size 38 8 ov q (docs ((slots L).take q) (note L))) ∧ Hid (Below w.heap.size w wr) ∧ Hid ((slots L).drop q = slM m (L.drop m) ∧ q ≤ (slots L).length)) (fun _ iv _ => L.length - (intOf iv).toNat)
  case atStart => exact ⟨0, 0, Nat.zero_le _, rfl, Lib.hid ⟨rfl, .inl ⟨rfl, rfl⟩⟩, Lib.hid (Below.refl _ _), Lib.hid ⟨rfl, Nat.zero_le _⟩⟩
  case round =>
    obtain ⟨m, q, hm, rfl, HO, HB, HD⟩ := hrel
    obtain ⟨Ao, co, rfl⟩ := own_shape HO.out
    by_cases hlt : m < L.length
    · obtain rfl := hA (by omega)
      have hx : L[m]? = some L[m] := List.getElem?_eq_getElem hlt
      have hdr := HD.out.1
      rw [List.drop_eq_getElem_cons hlt, slM] at hdr
      have HX := Lib.hid hx
      generalize L[m] = md at *
      have hil := HFI.out m md hx
      have hdl := (HFD.out m md hx).1
      have HTL := Lib.hid (HFD.out m md hx).2
      have HR := Lib.hid hdr
      have HQ : Hid (q + (slI md.name m 0 md.imps).length ≤ (slots L).length) := Lib.hid (by
        have := congrArg List.length hdr
        rw [List.length_drop, List.length_append] at this
        have := HD.out.2
        omega)
      obtain ⟨-, ⟨Ai, ci, hiv, -, hAi⟩, ⟨Ad, cd, hdv, -, hAd⟩, -, -, -⟩ := HM.out wr HB.out m md hx
      have HMD : Hid (∀ W, Below w.heap.size w W → W.cell? ⟨sk.b, sk.o + m * 5, none⟩ = some (.string md.name) ∧ W.cell? ⟨sk.b, sk.o + m * 5 + 1, none⟩ = some (.slice Ai md.imps.length ci) ∧ W.cell? ⟨sk.b, sk.o + m * 5 + 2, none⟩ = some (.slice Ad md.defs.length cd)) := Lib.hid fun W hW => by
        obtain ⟨a0, a1, a2, -, -⟩ := (HM.out W hW m md HX.out).cells
        rw [hiv] at a1
        rw [hdv] at a2
        exact ⟨a0, a1, a2⟩
      clear hx hdr HD hiv hdv
      go_wp2_with fail
      obtain ⟨w0, hw0⟩ : ∃ w0, w0 = wr := ⟨_, rfl⟩
      rw [← hw0] at HB HO ⊢
      clear hw0
      go_loopw [3, 5] (fun ov iv wr => ∃ i : Nat, i ≤ md.imps.length ∧ iv = .int .i64 i ∧ Hid (wr.ownsRow w.heap.size 38 8 ov (q + i) (docs ((slots L).take (q + i)) (note L))) ∧ Hid (Below w.heap.size w wr) ∧ Hid ((slots L).drop (q + i) = slI md.name m i (md.imps.drop i) ++ (slD md.name m 0 md.defs ++ slM (m + 1) (L.drop (m + 1))))) (fun _ iv _ => md.imps.length - (intOf iv).toNat)
      case atStart => exact ⟨0, Nat.zero_le _, rfl, HO, HB, HR⟩
      case round =>
        clear HO HB HR
        obtain ⟨i, hi, rfl, HO, HB, HD⟩ := hrel
        obtain ⟨Ao, co, rfl⟩ := own_shape HO.out
        obtain ⟨a0, a1, a2⟩ := HMD.out wr HB.out
        by_cases hlti : i < md.imps.length
        · have hx : md.imps[i]? = some md.imps[i] := List.getElem?_eq_getElem hlti
          have hdr := HD.out
          rw [List.drop_eq_getElem_cons hlti, slI, List.cons_append] at hdr
          obtain ⟨hs1, hs2, hs3⟩ := drop_head hdr
          obtain rfl := hAi (by omega)
          have HDX := Lib.hid hs2
          have HS1 := Lib.hid hs1
          have HNT : Hid (note L (0, m, i, 0) = md.imps[i].t) := Lib.hid (by simp [note, HX.out, hx])
          have HIM : Hid (∀ W, Below w.heap.size w W → W.cell? ⟨sk.ib m, sk.io m + i * 5 + 2, none⟩ = some (.string md.imps[i].t)) := Lib.hid fun W hW => by
            have := ((HM.out W hW m md HX.out).imps i _ hx).2.2.1
            rw [note_im HX.out hx] at this
            exact this
          generalize md.imps[i] = x at *
          clear hdr hs1 hs2 hx HD
          go_wp2_with fail
          have hB1 : w.heap.size ≤ wr.heap.size := HB.out.size
          obtain ⟨v91, w91, hrun, hown9, hb9, hsz9, hbk91⟩ := push_run (slots L) (note L) w.heap.size (q + i) ⟨(0, m, i, 0), md.name, true, i, -1, false, true⟩ _ wr.drew HO.out HS1.out (by omega) hB1
          have hnn : note L (0, m, i, 0) = x.t := HNT.out
          simp only [docC] at hrun
          rw [hnn] at hrun
          obtain ⟨A91, c91, rfl⟩ := own_shape hown9
          have HO91 := Lib.hid hown9
          have HBD1 : Hid (Below w.heap.size w wr.drew) := Lib.hid HB.out.drew
          have HB91 := Lib.hid (HBD1.out.trans hb9)
          have hba : Below wr.drew.heap.size wr.drew (wr.drew.alloc (.cells #[.string md.name, .bool true, .int .i64 (i : Int), .int .i64 (-1), .bool false, .string x.t, .int .i64 (m : Int), .int .i64 0] 38)) := (Below.refl _ _).alloc (Nat.le_refl _) _
          have m0 := HMD.out wr.drew HBD1.out
          refine wp_region_plan (S := fun w' => w'.cell? ⟨sk.b, sk.o + m * 5, none⟩ = some (.string md.name) ∧ w'.cell? ⟨sk.b, sk.o + m * 5 + 1, none⟩ = some (.slice (some ⟨sk.ib m, sk.io m, none⟩) md.imps.length ci) ∧ w'.cell? ⟨sk.ib m, sk.io m + i * 5 + 2, none⟩ = some (.string x.t)) [(0, true), (1, true), (2, true), (3, true), (4, true), (5, true), (6, true), (7, true), (8, true), (9, true), (10, true), (11, true), (12, true), (13, true), (14, true), (15, true), (16, true), (17, true), (18, false), (19, false), (20, true)] (by kernel_rfl) (by kernel_rfl) (by kernel_rfl) (fun _ _ _ _ _ h => h) ⟨m0.1, m0.2.1, HIM.out _ HBD1.out⟩ ?_
          intro HSX
          repeat (first | (apply wpPlan_look; rfl; rfl; (intro wq hq; (try dsimp only at hq); go_split_ands; go_simp; (try rw [if_neg (by omega)]); (try rw [if_pos (by omega)]); try with_reducible rfl); simp only [Act.put, List.setIfInBounds_toArray, List.set_cons_zero, List.set_cons_succ]) | (apply wpPlan_skip; rfl; rfl; simp only [Act.put, List.setIfInBounds_toArray, List.set_cons_zero, List.set_cons_succ]) | (apply wpPlan_pass; rfl; rfl; assumption; simp only [Act.put, List.setIfInBounds_toArray, List.set_cons_zero, List.set_cons_succ]))
          refine wpPlan_run rfl rfl (by simp [execOp, go_sem, build_doc]; (first | exact ⟨rfl, rfl⟩ | rfl)) _ (fun _ h => h) ⟨cell_later hba m0.1, cell_later hba m0.2.1, cell_later hba (HIM.out _ HBD1.out)⟩ ?_
          simp only [Act.put, List.setIfInBounds_toArray, List.set_cons_zero, List.set_cons_succ]
          repeat (first | (apply wpPlan_look; rfl; rfl; (intro wq hq; (try dsimp only at hq); go_split_ands; go_simp; (try rw [if_neg (by omega)]); (try rw [if_pos (by omega)]); try with_reducible rfl); simp only [Act.put, List.setIfInBounds_toArray, List.set_cons_zero, List.set_cons_succ]) | (apply wpPlan_skip; rfl; rfl; simp only [Act.put, List.setIfInBounds_toArray, List.set_cons_zero, List.set_cons_succ]) | (apply wpPlan_pass; rfl; rfl; assumption; simp only [Act.put, List.setIfInBounds_toArray, List.set_cons_zero, List.set_cons_succ]))
          refine wpPlan_run rfl rfl (exec_append rfl rfl rfl rfl hrun) _ (fun _ h => h) ⟨(HMD.out _ HB91.out).1, (HMD.out _ HB91.out).2.1, HIM.out _ HB91.out⟩ ?_
          simp only [Act.put, List.setIfInBounds_toArray, List.set_cons_zero, List.set_cons_succ]
          repeat (first | (apply wpPlan_look; rfl; rfl; (intro wq hq; (try dsimp only at hq); go_split_ands; go_simp; (try rw [if_neg (by omega)]); (try rw [if_pos (by omega)]); try with_reducible rfl); simp only [Act.put, List.setIfInBounds_toArray, List.set_cons_zero, List.set_cons_succ]) | (apply wpPlan_skip; rfl; rfl; simp only [Act.put, List.setIfInBounds_toArray, List.set_cons_zero, List.set_cons_succ]) | (apply wpPlan_pass; rfl; rfl; assumption; simp only [Act.put, List.setIfInBounds_toArray, List.set_cons_zero, List.set_cons_succ]))
          apply wpPlan_done
          clear HSX hrun hown9 hba
          clear m0 HO HB a0 a1 a2
          go_wp2_with fail
          go_roundw
          case rel => exact ⟨i + 1, by omega, by go_num, HO91, HB91, HDX⟩
          case measure => simp [intOf]; omega
        · have hie : i = md.imps.length := by omega
          have HD2 : Hid ((slots L).drop (q + i) = slD md.name m 0 md.defs ++ slM (m + 1) (L.drop (m + 1))) := Lib.hid (by
            have := HD.out
            rwa [List.drop_of_length_le (l := md.imps) (by omega), slI, List.nil_append] at this)
          have HQ2 : Hid (q + i + (slD md.name m 0 md.defs).length ≤ (slots L).length) := Lib.hid (by
            have := congrArg List.length HD2.out
            rw [List.length_drop, List.length_append] at this
            have h2 := HQ.out
            rw [slI_len] at h2
            omega)
          obtain ⟨q2, hq2⟩ : ∃ q2, q2 = q + i := ⟨_, rfl⟩
          rw [← hq2] at HO HD2 HQ2 ⊢
          clear HD HQ hq2 hie
          go_wp2_with fail
          clear a0 a1
          obtain ⟨w0, hw0⟩ : ∃ w0, w0 = wr := ⟨_, rfl⟩
          rw [← hw0] at HB HO ⊢
          clear hw0 a2
          go_loopw [3, 6] (fun ov iv wr => ∃ j q : Nat, j ≤ md.defs.length ∧ iv = .int .i64 j ∧ Hid (wr.ownsRow w.heap.size 38 8 ov q (docs ((slots L).take q) (note L))) ∧ Hid (Below w.heap.size w wr) ∧ Hid ((slots L).drop q = slD md.name m j (md.defs.drop j) ++ slM (m + 1) (L.drop (m + 1)) ∧ q ≤ (slots L).length)) (fun _ iv _ => md.defs.length - (intOf iv).toNat)
          case atStart => exact ⟨0, q2, Nat.zero_le _, rfl, HO, HB, Lib.hid ⟨HD2.out, by have := HQ2.out; omega⟩⟩
          case round =>
            clear HO HB HD2 HQ2
            obtain ⟨j, q, hj, rfl, HO, HB, HD⟩ := hrel
            obtain ⟨Ao, co, rfl⟩ := own_shape HO.out
            obtain ⟨a0, a1, a2⟩ := HMD.out wr HB.out
            have hql := HD.out.2
            by_cases hltd : j < md.defs.length
            · have hx : md.defs[j]? = some md.defs[j] := List.getElem?_eq_getElem hltd
              have hdr := HD.out.1
              rw [List.drop_eq_getElem_cons hltd, slD, List.cons_append, List.append_assoc] at hdr
              obtain ⟨hs1, hs2, hs3⟩ := drop_head hdr
              obtain rfl := hAd (by omega)
              have htl := HTL.out j _ hx
              have HDX := Lib.hid hs2
              have HS1 := Lib.hid hs1
              have HXD := Lib.hid hx
              have HNT : Hid (note L (1, m, j, 0) = md.defs[j].t) := Lib.hid (note_t HX.out hx)
              obtain ⟨-, At, ct, htv, -, hAt⟩ := (HM.out wr HB.out m md HX.out).defs j _ hx
              have HDC : Hid (∀ W, Below w.heap.size w W → DfAt W (sk.db m) (sk.do_ m + j * 6) md.defs[j] (.slice At md.defs[j].tree.length ct)) := Lib.hid fun W hW => by
                have := ((HM.out W hW m md HX.out).defs j _ hx).1
                rw [htv] at this
                obtain ⟨q0, q1, q2, q3, q4, q5⟩ := this
                have q2' : W.cell? ⟨sk.db m, sk.do_ m + j * 6 + 2, none⟩ = some (.string (note L (1, m, j, 0))) := q2
                rw [HNT.out] at q2'
                exact ⟨q0, q1, q2', q3, q4, q5⟩
              have HNN : Hid (∀ W, Below w.heap.size w W → ∀ z x, md.defs[j].tree[z]? = some x → NdAt W (sk.tb m j) (sk.to_ m j + z * 8) x) := Lib.hid fun W hW z x hz => by
                have := (HM.out W hW m md HX.out).nodes j _ hx z x hz
                rwa [note_nd HX.out hx hz] at this
              generalize md.defs[j] = d at *
              obtain ⟨q0, q1, q2, q3, q4, q5⟩ := HDC.out wr HB.out
              have hb3 : Below wr.heap.size wr (wr.alloc (.cells #[.string d.name, .bool d.out, .string d.t, .slice At d.tree.length ct, .int .i64 d.line, .int .i64 d.col] 84)) := (Below.refl _ _).alloc (Nat.le_refl _) _
              have HBA : Hid (Below w.heap.size w (wr.alloc (.cells #[.string d.name, .bool d.out, .string d.t, .slice At d.tree.length ct, .int .i64 d.line, .int .i64 d.col] 84))) := Lib.hid (below_later hb3 HB.out)
              have HOA := Lib.hid (own_later HO.out hb3)
              have hbd : Blk wr.heap.size #[.string d.name, .bool d.out, .string d.t, .slice At d.tree.length ct, .int .i64 d.line, .int .i64 d.col] 84 (wr.alloc (.cells #[.string d.name, .bool d.out, .string d.t, .slice At d.tree.length ct, .int .i64 d.line, .int .i64 d.col] 84)) := Blk.alloc _ _ _
              have HBK := Lib.hid hbd
              clear hdr hs1 hs2 hx HD hb3 hbd htv a0 a1 HDC
              go_wp2_with fail
              clear q0 q1 q2 q3 q4 q5 a2
              generalize wr.alloc (.cells #[.string d.name, .bool d.out, .string d.t, .slice At d.tree.length ct, .int .i64 d.line, .int .i64 d.col] 84) = wb at *
              generalize wr.heap.size = gd at *
              have hB2 : w.heap.size ≤ wb.heap.size := HBA.out.size
              obtain ⟨v92, w92, hrun, hown9, hb9, hsz9, hbk92⟩ := push_run (slots L) (note L) w.heap.size q ⟨(1, m, j, 0), md.name, false, j, -1, false, true⟩ _ wb.drew HOA.out HS1.out (by omega) hB2
              have hnn : note L (1, m, j, 0) = d.t := HNT.out
              simp only [docC] at hrun
              rw [hnn] at hrun
              obtain ⟨A92, c92, rfl⟩ := own_shape hown9
              have HO92 := Lib.hid hown9
              have HBD2 : Hid (Below w.heap.size w wb.drew) := Lib.hid HBA.out.drew
              have HB92 := Lib.hid (HBD2.out.trans hb9)
              have hba : Below wb.drew.heap.size wb.drew (wb.drew.alloc (.cells #[.string md.name, .bool false, .int .i64 (j : Int), .int .i64 (-1), .bool false, .string d.t, .int .i64 (m : Int), .int .i64 1] 38)) := (Below.refl _ _).alloc (Nat.le_refl _) _
              have m0 := HMD.out wb.drew HBD2.out
              refine wp_region_plan (S := fun w' => w'.cell? ⟨sk.b, sk.o + m * 5, none⟩ = some (.string md.name) ∧ w'.cell? ⟨gd, 2, none⟩ = some (.string d.t)) [(0, true), (1, true), (2, true), (3, true), (4, true), (5, true), (6, true), (7, true), (8, true), (9, true), (10, true), (11, false), (12, false), (13, true)] (by kernel_rfl) (by kernel_rfl) (by kernel_rfl) (fun _ _ _ _ _ h => h) ⟨m0.1, HBK.out.drew.cell (i := 2) rfl⟩ ?_
              intro HSX
              repeat (first | (apply wpPlan_look; rfl; rfl; (intro wq hq; (try dsimp only at hq); go_split_ands; go_simp; (try rw [if_neg (by omega)]); (try rw [if_pos (by omega)]); try with_reducible rfl); simp only [Act.put, List.setIfInBounds_toArray, List.set_cons_zero, List.set_cons_succ]) | (apply wpPlan_skip; rfl; rfl; simp only [Act.put, List.setIfInBounds_toArray, List.set_cons_zero, List.set_cons_succ]) | (apply wpPlan_pass; rfl; rfl; assumption; simp only [Act.put, List.setIfInBounds_toArray, List.set_cons_zero, List.set_cons_succ]))
              refine wpPlan_run rfl rfl (by simp [execOp, go_sem, build_doc]; (first | exact ⟨rfl, rfl⟩ | rfl)) _ (fun _ h => h) ⟨cell_later hba m0.1, (HBK.out.drew.later hba).cell (i := 2) rfl⟩ ?_
              simp only [Act.put, List.setIfInBounds_toArray, List.set_cons_zero, List.set_cons_succ]
              repeat (first | (apply wpPlan_look; rfl; rfl; (intro wq hq; (try dsimp only at hq); go_split_ands; go_simp; (try rw [if_neg (by omega)]); (try rw [if_pos (by omega)]); try with_reducible rfl); simp only [Act.put, List.setIfInBounds_toArray, List.set_cons_zero, List.set_cons_succ]) | (apply wpPlan_skip; rfl; rfl; simp only [Act.put, List.setIfInBounds_toArray, List.set_cons_zero, List.set_cons_succ]) | (apply wpPlan_pass; rfl; rfl; assumption; simp only [Act.put, List.setIfInBounds_toArray, List.set_cons_zero, List.set_cons_succ]))
              refine wpPlan_run rfl rfl (exec_append rfl rfl rfl rfl hrun) _ (fun _ h => h) ⟨(HMD.out _ HB92.out).1, (HBK.out.drew.over hbk92 (by decide)).cell (i := 2) rfl⟩ ?_
              simp only [Act.put, List.setIfInBounds_toArray, List.set_cons_zero, List.set_cons_succ]
              repeat (first | (apply wpPlan_look; rfl; rfl; (intro wq hq; (try dsimp only at hq); go_split_ands; go_simp; (try rw [if_neg (by omega)]); (try rw [if_pos (by omega)]); try with_reducible rfl); simp only [Act.put, List.setIfInBounds_toArray, List.set_cons_zero, List.set_cons_succ]) | (apply wpPlan_skip; rfl; rfl; simp only [Act.put, List.setIfInBounds_toArray, List.set_cons_zero, List.set_cons_succ]) | (apply wpPlan_pass; rfl; rfl; assumption; simp only [Act.put, List.setIfInBounds_toArray, List.set_cons_zero, List.set_cons_succ]))
              apply wpPlan_done
              clear HSX hrun hown9 hba
              have HBK2 := Lib.hid (HBK.out.drew.over hbk92 (by decide))
              clear m0 hbk92 HBK HBA HOA HO HB HBD2 HS1 HNT
              go_wp2_with fail
              go_loopw [3, 8] (fun ov iv wr => ∃ z q : Nat, z ≤ d.tree.length ∧ iv = .int .i64 z ∧ Hid (wr.ownsRow w.heap.size 38 8 ov q (docs ((slots L).take q) (note L))) ∧ Hid (Below w.heap.size w wr) ∧ Hid (Blk gd #[.string d.name, .bool d.out, .string d.t, .slice At d.tree.length ct, .int .i64 d.line, .int .i64 d.col] 84 wr) ∧ Hid ((slots L).drop q = slT md.name m j z (d.tree.drop z) ++ (slD md.name m (j + 1) (md.defs.drop (j + 1)) ++ slM (m + 1) (L.drop (m + 1))) ∧ q ≤ (slots L).length)) (fun _ iv _ => d.tree.length - (intOf iv).toNat)
              case atStart => exact ⟨0, q + 1, Nat.zero_le _, rfl, HO92, HB92, HBK2, Lib.hid ⟨HDX.out, by omega⟩⟩
              case round =>
                clear HO92 HB92 HBK2 HDX
                obtain ⟨z, q, hz, rfl, HO, HB, HBK, HD⟩ := hrel
                obtain ⟨Ao, co, rfl⟩ := own_shape HO.out
                have hqz := HD.out.2
                have b3 := HBK.out.cell (i := 3) rfl
                by_cases hltz : z < d.tree.length
                · have hx : d.tree[z]? = some d.tree[z] := List.getElem?_eq_getElem hltz
                  have hdr := HD.out.1
                  rw [List.drop_eq_getElem_cons hltz, slT] at hdr
                  obtain rfl := hAt (by omega)
                  have HND : Hid (∀ W, Below w.heap.size w W → NdAt W (sk.tb m j) (sk.to_ m j + z * 8) d.tree[z]) := Lib.hid fun W hW => HNN.out W hW z _ hx
                  have HN2 : Hid (note L (2, m, j, z) = d.tree[z].t ∧ note L (3, m, j, z) = d.tree[z].u) := Lib.hid (by simp [note, HX.out, HXD.out, hx])
                  generalize d.tree[z] = x at *
                  have r := HND.out wr HB.out
                  have r0 : wr.cell? ⟨sk.tb m j, sk.to_ m j + z * 8, none⟩ = some (.int .i8 x.kind) := r 0 _ rfl
                  have r1 := r 1 _ rfl
                  have r2 := r 2 _ rfl
                  have r3 := r 3 _ rfl
                  have r4 := r 4 _ rfl
                  have r5 := r 5 _ rfl
                  have r6 := r 6 _ rfl
                  have r7 := r 7 _ rfl
                  have hb3 : Below wr.heap.size wr (wr.alloc (.cells #[.int .i8 x.kind, .int .i64 x.kids, .int .i64 x.n, .string x.s, .string x.t, .string x.u, .int .i64 x.line, .int .i64 x.col] 81)) := (Below.refl _ _).alloc (Nat.le_refl _) _
                  have HBA : Hid (Below w.heap.size w (wr.alloc (.cells #[.int .i8 x.kind, .int .i64 x.kids, .int .i64 x.n, .string x.s, .string x.t, .string x.u, .int .i64 x.line, .int .i64 x.col] 81))) := Lib.hid (below_later hb3 HB.out)
                  have HOA := Lib.hid (own_later HO.out hb3)
                  have HBK1 := Lib.hid (HBK.out.later hb3)
                  have hbn : Blk wr.heap.size #[.int .i8 x.kind, .int .i64 x.kids, .int .i64 x.n, .string x.s, .string x.t, .string x.u, .int .i64 x.line, .int .i64 x.col] 81 (wr.alloc (.cells #[.int .i8 x.kind, .int .i64 x.kids, .int .i64 x.n, .string x.s, .string x.t, .string x.u, .int .i64 x.line, .int .i64 x.col] 81)) := Blk.alloc _ _ _
                  have HBN := Lib.hid hbn
                  clear hb3 hbn r hx HD HND
                  by_cases hb : x.kind = 5 ∨ x.kind = 6
                  · rcases hb with hk | hk
                    · skip
                      have hsl := slX_5 (nm := md.name) (m := m) (i := j) (k := z) hk
                      rw [hsl] at hdr
                      simp only [List.cons_append, List.nil_append] at hdr
                      obtain ⟨hs1, hs2, hs3⟩ := drop_head hdr
                      obtain ⟨hs4, hs5, hs6⟩ := drop_head hs2
                      have HS1 := Lib.hid hs1
                      have HS4 := Lib.hid hs4
                      have HDR := Lib.hid hs5
                      rw [hk] at r0 HBA HOA HBK1 HBN
                      clear hdr hsl hs1 hs2 hs4 hs5 hk
                      go_wp2_with fail
                      clear r0 r1 r2 r3 r4 r5 r6 r7 b3
                      generalize wr.alloc (.cells #[.int .i8 5, .int .i64 x.kids, .int .i64 x.n, .string x.s, .string x.t, .string x.u, .int .i64 x.line, .int .i64 x.col] 81) = wn at *
                      generalize wr.heap.size = gn at *
                      have hB3 : w.heap.size ≤ wn.heap.size := HBA.out.size
                      obtain ⟨v93, w93, hrun, hown9, hb9, hsz9, hbk93⟩ := push_run (slots L) (note L) w.heap.size q ⟨(2, m, j, z), md.name, false, j, z, false, true⟩ _ wn.drew HOA.out HS1.out (by omega) hB3
                      have hnn : note L (2, m, j, z) = x.t := HN2.out.1
                      simp only [docC] at hrun
                      rw [hnn] at hrun
                      obtain ⟨A93, c93, rfl⟩ := own_shape hown9
                      have HO93 := Lib.hid hown9
                      have HBD3 : Hid (Below w.heap.size w wn.drew) := Lib.hid HBA.out.drew
                      have HB93 := Lib.hid (HBD3.out.trans hb9)
                      have hba : Below wn.drew.heap.size wn.drew (wn.drew.alloc (.cells #[.string md.name, .bool false, .int .i64 (j : Int), .int .i64 (z : Int), .bool false, .string x.t, .int .i64 (m : Int), .int .i64 2] 38)) := (Below.refl _ _).alloc (Nat.le_refl _) _
                      have m0 := HMD.out wn.drew HBD3.out
                      refine wp_region_plan (S := fun w' => w'.cell? ⟨sk.b, sk.o + m * 5, none⟩ = some (.string md.name) ∧ w'.cell? ⟨gn, 4, none⟩ = some (.string x.t)) [(0, true), (1, true), (2, true), (3, true), (4, true), (5, true), (6, true), (7, true), (8, true), (9, true), (10, true), (11, true), (12, false), (13, false), (14, true)] (by kernel_rfl) (by kernel_rfl) (by kernel_rfl) (fun _ _ _ _ _ h => h) ⟨m0.1, HBN.out.drew.cell (i := 4) rfl⟩ ?_
                      intro HSX
                      repeat (first | (apply wpPlan_look; rfl; rfl; (intro wq hq; (try dsimp only at hq); go_split_ands; go_simp; (try rw [if_neg (by omega)]); (try rw [if_pos (by omega)]); try with_reducible rfl); simp only [Act.put, List.setIfInBounds_toArray, List.set_cons_zero, List.set_cons_succ]) | (apply wpPlan_skip; rfl; rfl; simp only [Act.put, List.setIfInBounds_toArray, List.set_cons_zero, List.set_cons_succ]) | (apply wpPlan_pass; rfl; rfl; assumption; simp only [Act.put, List.setIfInBounds_toArray, List.set_cons_zero, List.set_cons_succ]))
                      refine wpPlan_run rfl rfl (by simp [execOp, go_sem, build_doc]; (first | exact ⟨rfl, rfl⟩ | rfl)) _ (fun _ h => h) ⟨cell_later hba m0.1, (HBN.out.drew.later hba).cell (i := 4) rfl⟩ ?_
                      simp only [Act.put, List.setIfInBounds_toArray, List.set_cons_zero, List.set_cons_succ]
                      repeat (first | (apply wpPlan_look; rfl; rfl; (intro wq hq; (try dsimp only at hq); go_split_ands; go_simp; (try rw [if_neg (by omega)]); (try rw [if_pos (by omega)]); try with_reducible rfl); simp only [Act.put, List.setIfInBounds_toArray, List.set_cons_zero, List.set_cons_succ]) | (apply wpPlan_skip; rfl; rfl; simp only [Act.put, List.setIfInBounds_toArray, List.set_cons_zero, List.set_cons_succ]) | (apply wpPlan_pass; rfl; rfl; assumption; simp only [Act.put, List.setIfInBounds_toArray, List.set_cons_zero, List.set_cons_succ]))
                      refine wpPlan_run rfl rfl (exec_append rfl rfl rfl rfl hrun) _ (fun _ h => h) ⟨(HMD.out _ HB93.out).1, (HBN.out.drew.over hbk93 (by decide)).cell (i := 4) rfl⟩ ?_
                      simp only [Act.put, List.setIfInBounds_toArray, List.set_cons_zero, List.set_cons_succ]
                      repeat (first | (apply wpPlan_look; rfl; rfl; (intro wq hq; (try dsimp only at hq); go_split_ands; go_simp; (try rw [if_neg (by omega)]); (try rw [if_pos (by omega)]); try with_reducible rfl); simp only [Act.put, List.setIfInBounds_toArray, List.set_cons_zero, List.set_cons_succ]) | (apply wpPlan_skip; rfl; rfl; simp only [Act.put, List.setIfInBounds_toArray, List.set_cons_zero, List.set_cons_succ]) | (apply wpPlan_pass; rfl; rfl; assumption; simp only [Act.put, List.setIfInBounds_toArray, List.set_cons_zero, List.set_cons_succ]))
                      apply wpPlan_done
                      clear HSX hrun hown9 hba
                      have HBK4 := Lib.hid (HBK1.out.drew.over hbk93 (by decide))
                      have HBN4 := Lib.hid (HBN.out.drew.over hbk93 (by decide))
                      clear m0 hbk93 HBK1 HBN HBA HOA HS1 HO HB HBK
                      go_wp2_with fail
                      have hB4 : w.heap.size ≤ w93.heap.size := HB93.out.size
                      obtain ⟨v94, w94, hrun, hown9, hb9, hsz9, hbk94⟩ := push_run (slots L) (note L) w.heap.size (q + 1) ⟨(3, m, j, z), md.name, false, j, z, true, true⟩ _ w93.drew HO93.out HS4.out (by omega) hB4
                      have hnn : note L (3, m, j, z) = x.u := HN2.out.2
                      simp only [docC] at hrun
                      rw [hnn] at hrun
                      obtain ⟨A94, c94, rfl⟩ := own_shape hown9
                      have HO94 := Lib.hid hown9
                      have HBD4 : Hid (Below w.heap.size w w93.drew) := Lib.hid HB93.out.drew
                      have HB94 := Lib.hid (HBD4.out.trans hb9)
                      have hba : Below w93.drew.heap.size w93.drew (w93.drew.alloc (.cells #[.string md.name, .bool false, .int .i64 (j : Int), .int .i64 (z : Int), .bool true, .string x.u, .int .i64 (m : Int), .int .i64 3] 38)) := (Below.refl _ _).alloc (Nat.le_refl _) _
                      have m0 := HMD.out w93.drew HBD4.out
                      refine wp_region_plan (S := fun w' => w'.cell? ⟨sk.b, sk.o + m * 5, none⟩ = some (.string md.name) ∧ w'.cell? ⟨gn, 5, none⟩ = some (.string x.u)) [(0, true), (1, true), (2, true), (3, true), (4, true), (5, true), (6, true), (7, true), (8, true), (9, true), (10, true), (11, true), (12, false), (13, false), (14, true)] (by kernel_rfl) (by kernel_rfl) (by kernel_rfl) (fun _ _ _ _ _ h => h) ⟨m0.1, HBN4.out.drew.cell (i := 5) rfl⟩ ?_
                      intro HSX
                      repeat (first | (apply wpPlan_look; rfl; rfl; (intro wq hq; (try dsimp only at hq); go_split_ands; go_simp; (try rw [if_neg (by omega)]); (try rw [if_pos (by omega)]); try with_reducible rfl); simp only [Act.put, List.setIfInBounds_toArray, List.set_cons_zero, List.set_cons_succ]) | (apply wpPlan_skip; rfl; rfl; simp only [Act.put, List.setIfInBounds_toArray, List.set_cons_zero, List.set_cons_succ]) | (apply wpPlan_pass; rfl; rfl; assumption; simp only [Act.put, List.setIfInBounds_toArray, List.set_cons_zero, List.set_cons_succ]))
                      refine wpPlan_run rfl rfl (by simp [execOp, go_sem, build_doc]; (first | exact ⟨rfl, rfl⟩ | rfl)) _ (fun _ h => h) ⟨cell_later hba m0.1, (HBN4.out.drew.later hba).cell (i := 5) rfl⟩ ?_
                      simp only [Act.put, List.setIfInBounds_toArray, List.set_cons_zero, List.set_cons_succ]
                      repeat (first | (apply wpPlan_look; rfl; rfl; (intro wq hq; (try dsimp only at hq); go_split_ands; go_simp; (try rw [if_neg (by omega)]); (try rw [if_pos (by omega)]); try with_reducible rfl); simp only [Act.put, List.setIfInBounds_toArray, List.set_cons_zero, List.set_cons_succ]) | (apply wpPlan_skip; rfl; rfl; simp only [Act.put, List.setIfInBounds_toArray, List.set_cons_zero, List.set_cons_succ]) | (apply wpPlan_pass; rfl; rfl; assumption; simp only [Act.put, List.setIfInBounds_toArray, List.set_cons_zero, List.set_cons_succ]))
                      refine wpPlan_run rfl rfl (exec_append rfl rfl rfl rfl hrun) _ (fun _ h => h) ⟨(HMD.out _ HB94.out).1, (HBN4.out.drew.over hbk94 (by decide)).cell (i := 5) rfl⟩ ?_
                      simp only [Act.put, List.setIfInBounds_toArray, List.set_cons_zero, List.set_cons_succ]
                      repeat (first | (apply wpPlan_look; rfl; rfl; (intro wq hq; (try dsimp only at hq); go_split_ands; go_simp; (try rw [if_neg (by omega)]); (try rw [if_pos (by omega)]); try with_reducible rfl); simp only [Act.put, List.setIfInBounds_toArray, List.set_cons_zero, List.set_cons_succ]) | (apply wpPlan_skip; rfl; rfl; simp only [Act.put, List.setIfInBounds_toArray, List.set_cons_zero, List.set_cons_succ]) | (apply wpPlan_pass; rfl; rfl; assumption; simp only [Act.put, List.setIfInBounds_toArray, List.set_cons_zero, List.set_cons_succ]))
                      apply wpPlan_done
                      clear HSX hrun hown9 hba
                      have HBK5 := Lib.hid (HBK4.out.drew.over hbk94 (by decide))
                      clear m0 hbk94 HBK4 HBN4 HS4
                      go_wp2_with fail
                      go_roundw
                      case rel => exact ⟨z + 1, q + 1 + 1, by omega, by go_num, HO94, HB94, HBK5, Lib.hid ⟨HDR.out, by omega⟩⟩
                      case measure => simp [intOf]; omega
                    · skip
                      have hsl := slX_6 (nm := md.name) (m := m) (i := j) (k := z) hk
                      rw [hsl] at hdr
                      simp only [List.cons_append, List.nil_append] at hdr
                      obtain ⟨hs1, hs2, hs3⟩ := drop_head hdr
                      obtain ⟨hs4, hs5, hs6⟩ := drop_head hs2
                      have HS1 := Lib.hid hs1
                      have HS4 := Lib.hid hs4
                      have HDR := Lib.hid hs5
                      rw [hk] at r0 HBA HOA HBK1 HBN
                      clear hdr hsl hs1 hs2 hs4 hs5 hk
                      go_wp2_with fail
                      clear r0 r1 r2 r3 r4 r5 r6 r7 b3
                      generalize wr.alloc (.cells #[.int .i8 6, .int .i64 x.kids, .int .i64 x.n, .string x.s, .string x.t, .string x.u, .int .i64 x.line, .int .i64 x.col] 81) = wn at *
                      generalize wr.heap.size = gn at *
                      have hB3 : w.heap.size ≤ wn.heap.size := HBA.out.size
                      obtain ⟨v93, w93, hrun, hown9, hb9, hsz9, hbk93⟩ := push_run (slots L) (note L) w.heap.size q ⟨(2, m, j, z), md.name, false, j, z, false, true⟩ _ wn.drew HOA.out HS1.out (by omega) hB3
                      have hnn : note L (2, m, j, z) = x.t := HN2.out.1
                      simp only [docC] at hrun
                      rw [hnn] at hrun
                      obtain ⟨A93, c93, rfl⟩ := own_shape hown9
                      have HO93 := Lib.hid hown9
                      have HBD3 : Hid (Below w.heap.size w wn.drew) := Lib.hid HBA.out.drew
                      have HB93 := Lib.hid (HBD3.out.trans hb9)
                      have hba : Below wn.drew.heap.size wn.drew (wn.drew.alloc (.cells #[.string md.name, .bool false, .int .i64 (j : Int), .int .i64 (z : Int), .bool false, .string x.t, .int .i64 (m : Int), .int .i64 2] 38)) := (Below.refl _ _).alloc (Nat.le_refl _) _
                      have m0 := HMD.out wn.drew HBD3.out
                      refine wp_region_plan (S := fun w' => w'.cell? ⟨sk.b, sk.o + m * 5, none⟩ = some (.string md.name) ∧ w'.cell? ⟨gn, 4, none⟩ = some (.string x.t)) [(0, true), (1, true), (2, true), (3, true), (4, true), (5, true), (6, true), (7, true), (8, true), (9, true), (10, true), (11, true), (12, false), (13, false), (14, true)] (by kernel_rfl) (by kernel_rfl) (by kernel_rfl) (fun _ _ _ _ _ h => h) ⟨m0.1, HBN.out.drew.cell (i := 4) rfl⟩ ?_
                      intro HSX
                      repeat (first | (apply wpPlan_look; rfl; rfl; (intro wq hq; (try dsimp only at hq); go_split_ands; go_simp; (try rw [if_neg (by omega)]); (try rw [if_pos (by omega)]); try with_reducible rfl); simp only [Act.put, List.setIfInBounds_toArray, List.set_cons_zero, List.set_cons_succ]) | (apply wpPlan_skip; rfl; rfl; simp only [Act.put, List.setIfInBounds_toArray, List.set_cons_zero, List.set_cons_succ]) | (apply wpPlan_pass; rfl; rfl; assumption; simp only [Act.put, List.setIfInBounds_toArray, List.set_cons_zero, List.set_cons_succ]))
                      refine wpPlan_run rfl rfl (by simp [execOp, go_sem, build_doc]; (first | exact ⟨rfl, rfl⟩ | rfl)) _ (fun _ h => h) ⟨cell_later hba m0.1, (HBN.out.drew.later hba).cell (i := 4) rfl⟩ ?_
                      simp only [Act.put, List.setIfInBounds_toArray, List.set_cons_zero, List.set_cons_succ]
                      repeat (first | (apply wpPlan_look; rfl; rfl; (intro wq hq; (try dsimp only at hq); go_split_ands; go_simp; (try rw [if_neg (by omega)]); (try rw [if_pos (by omega)]); try with_reducible rfl); simp only [Act.put, List.setIfInBounds_toArray, List.set_cons_zero, List.set_cons_succ]) | (apply wpPlan_skip; rfl; rfl; simp only [Act.put, List.setIfInBounds_toArray, List.set_cons_zero, List.set_cons_succ]) | (apply wpPlan_pass; rfl; rfl; assumption; simp only [Act.put, List.setIfInBounds_toArray, List.set_cons_zero, List.set_cons_succ]))
                      refine wpPlan_run rfl rfl (exec_append rfl rfl rfl rfl hrun) _ (fun _ h => h) ⟨(HMD.out _ HB93.out).1, (HBN.out.drew.over hbk93 (by decide)).cell (i := 4) rfl⟩ ?_
                      simp only [Act.put, List.setIfInBounds_toArray, List.set_cons_zero, List.set_cons_succ]
                      repeat (first | (apply wpPlan_look; rfl; rfl; (intro wq hq; (try dsimp only at hq); go_split_ands; go_simp; (try rw [if_neg (by omega)]); (try rw [if_pos (by omega)]); try with_reducible rfl); simp only [Act.put, List.setIfInBounds_toArray, List.set_cons_zero, List.set_cons_succ]) | (apply wpPlan_skip; rfl; rfl; simp only [Act.put, List.setIfInBounds_toArray, List.set_cons_zero, List.set_cons_succ]) | (apply wpPlan_pass; rfl; rfl; assumption; simp only [Act.put, List.setIfInBounds_toArray, List.set_cons_zero, List.set_cons_succ]))
                      apply wpPlan_done
                      clear HSX hrun hown9 hba
                      have HBK4 := Lib.hid (HBK1.out.drew.over hbk93 (by decide))
                      have HBN4 := Lib.hid (HBN.out.drew.over hbk93 (by decide))
                      clear m0 hbk93 HBK1 HBN HBA HOA HS1 HO HB HBK
                      go_wp2_with fail
                      have hB4 : w.heap.size ≤ w93.heap.size := HB93.out.size
                      obtain ⟨v94, w94, hrun, hown9, hb9, hsz9, hbk94⟩ := push_run (slots L) (note L) w.heap.size (q + 1) ⟨(3, m, j, z), md.name, false, j, z, true, true⟩ _ w93.drew HO93.out HS4.out (by omega) hB4
                      have hnn : note L (3, m, j, z) = x.u := HN2.out.2
                      simp only [docC] at hrun
                      rw [hnn] at hrun
                      obtain ⟨A94, c94, rfl⟩ := own_shape hown9
                      have HO94 := Lib.hid hown9
                      have HBD4 : Hid (Below w.heap.size w w93.drew) := Lib.hid HB93.out.drew
                      have HB94 := Lib.hid (HBD4.out.trans hb9)
                      have hba : Below w93.drew.heap.size w93.drew (w93.drew.alloc (.cells #[.string md.name, .bool false, .int .i64 (j : Int), .int .i64 (z : Int), .bool true, .string x.u, .int .i64 (m : Int), .int .i64 3] 38)) := (Below.refl _ _).alloc (Nat.le_refl _) _
                      have m0 := HMD.out w93.drew HBD4.out
                      refine wp_region_plan (S := fun w' => w'.cell? ⟨sk.b, sk.o + m * 5, none⟩ = some (.string md.name) ∧ w'.cell? ⟨gn, 5, none⟩ = some (.string x.u)) [(0, true), (1, true), (2, true), (3, true), (4, true), (5, true), (6, true), (7, true), (8, true), (9, true), (10, true), (11, true), (12, false), (13, false), (14, true)] (by kernel_rfl) (by kernel_rfl) (by kernel_rfl) (fun _ _ _ _ _ h => h) ⟨m0.1, HBN4.out.drew.cell (i := 5) rfl⟩ ?_
                      intro HSX
                      repeat (first | (apply wpPlan_look; rfl; rfl; (intro wq hq; (try dsimp only at hq); go_split_ands; go_simp; (try rw [if_neg (by omega)]); (try rw [if_pos (by omega)]); try with_reducible rfl); simp only [Act.put, List.setIfInBounds_toArray, List.set_cons_zero, List.set_cons_succ]) | (apply wpPlan_skip; rfl; rfl; simp only [Act.put, List.setIfInBounds_toArray, List.set_cons_zero, List.set_cons_succ]) | (apply wpPlan_pass; rfl; rfl; assumption; simp only [Act.put, List.setIfInBounds_toArray, List.set_cons_zero, List.set_cons_succ]))
                      refine wpPlan_run rfl rfl (by simp [execOp, go_sem, build_doc]; (first | exact ⟨rfl, rfl⟩ | rfl)) _ (fun _ h => h) ⟨cell_later hba m0.1, (HBN4.out.drew.later hba).cell (i := 5) rfl⟩ ?_
                      simp only [Act.put, List.setIfInBounds_toArray, List.set_cons_zero, List.set_cons_succ]
                      repeat (first | (apply wpPlan_look; rfl; rfl; (intro wq hq; (try dsimp only at hq); go_split_ands; go_simp; (try rw [if_neg (by omega)]); (try rw [if_pos (by omega)]); try with_reducible rfl); simp only [Act.put, List.setIfInBounds_toArray, List.set_cons_zero, List.set_cons_succ]) | (apply wpPlan_skip; rfl; rfl; simp only [Act.put, List.setIfInBounds_toArray, List.set_cons_zero, List.set_cons_succ]) | (apply wpPlan_pass; rfl; rfl; assumption; simp only [Act.put, List.setIfInBounds_toArray, List.set_cons_zero, List.set_cons_succ]))
                      refine wpPlan_run rfl rfl (exec_append rfl rfl rfl rfl hrun) _ (fun _ h => h) ⟨(HMD.out _ HB94.out).1, (HBN4.out.drew.over hbk94 (by decide)).cell (i := 5) rfl⟩ ?_
                      simp only [Act.put, List.setIfInBounds_toArray, List.set_cons_zero, List.set_cons_succ]
                      repeat (first | (apply wpPlan_look; rfl; rfl; (intro wq hq; (try dsimp only at hq); go_split_ands; go_simp; (try rw [if_neg (by omega)]); (try rw [if_pos (by omega)]); try with_reducible rfl); simp only [Act.put, List.setIfInBounds_toArray, List.set_cons_zero, List.set_cons_succ]) | (apply wpPlan_skip; rfl; rfl; simp only [Act.put, List.setIfInBounds_toArray, List.set_cons_zero, List.set_cons_succ]) | (apply wpPlan_pass; rfl; rfl; assumption; simp only [Act.put, List.setIfInBounds_toArray, List.set_cons_zero, List.set_cons_succ]))
                      apply wpPlan_done
                      clear HSX hrun hown9 hba
                      have HBK5 := Lib.hid (HBK4.out.drew.over hbk94 (by decide))
                      clear m0 hbk94 HBK4 HBN4 HS4
                      go_wp2_with fail
                      go_roundw
                      case rel => exact ⟨z + 1, q + 1 + 1, by omega, by go_num, HO94, HB94, HBK5, Lib.hid ⟨HDR.out, by omega⟩⟩
                      case measure => simp [intOf]; omega
                  · by_cases ho : x.kind = 8 ∨ x.kind = 29
                    · rcases ho with hk | hk
                      · skip
                        have hsl := slX_8 (nm := md.name) (m := m) (i := j) (k := z) hk
                        rw [hsl] at hdr
                        simp only [List.cons_append, List.nil_append] at hdr
                        obtain ⟨hs1, hs2, hs3⟩ := drop_head hdr
                        have HS1 := Lib.hid hs1
                        have HDR := Lib.hid hs2
                        rw [hk] at r0 HBA HOA HBK1 HBN
                        clear hdr hsl hs1 hs2 hk
                        go_wp2_with fail
                        clear r0 r1 r2 r3 r4 r5 r6 r7 b3
                        generalize wr.alloc (.cells #[.int .i8 8, .int .i64 x.kids, .int .i64 x.n, .string x.s, .string x.t, .string x.u, .int .i64 x.line, .int .i64 x.col] 81) = wn at *
                        generalize wr.heap.size = gn at *
                        have hB3 : w.heap.size ≤ wn.heap.size := HBA.out.size
                        obtain ⟨v93, w93, hrun, hown9, hb9, hsz9, hbk93⟩ := push_run (slots L) (note L) w.heap.size q ⟨(2, m, j, z), md.name, false, j, z, false, true⟩ _ wn.drew HOA.out HS1.out (by omega) hB3
                        have hnn : note L (2, m, j, z) = x.t := HN2.out.1
                        simp only [docC] at hrun
                        rw [hnn] at hrun
                        obtain ⟨A93, c93, rfl⟩ := own_shape hown9
                        have HO93 := Lib.hid hown9
                        have HBD3 : Hid (Below w.heap.size w wn.drew) := Lib.hid HBA.out.drew
                        have HB93 := Lib.hid (HBD3.out.trans hb9)
                        have hba : Below wn.drew.heap.size wn.drew (wn.drew.alloc (.cells #[.string md.name, .bool false, .int .i64 (j : Int), .int .i64 (z : Int), .bool false, .string x.t, .int .i64 (m : Int), .int .i64 2] 38)) := (Below.refl _ _).alloc (Nat.le_refl _) _
                        have m0 := HMD.out wn.drew HBD3.out
                        refine wp_region_plan (S := fun w' => w'.cell? ⟨sk.b, sk.o + m * 5, none⟩ = some (.string md.name) ∧ w'.cell? ⟨gn, 4, none⟩ = some (.string x.t)) [(0, true), (1, true), (2, true), (3, true), (4, true), (5, true), (6, true), (7, true), (8, true), (9, true), (10, true), (11, true), (12, false), (13, false), (14, true)] (by kernel_rfl) (by kernel_rfl) (by kernel_rfl) (fun _ _ _ _ _ h => h) ⟨m0.1, HBN.out.drew.cell (i := 4) rfl⟩ ?_
                        intro HSX
                        repeat (first | (apply wpPlan_look; rfl; rfl; (intro wq hq; (try dsimp only at hq); go_split_ands; go_simp; (try rw [if_neg (by omega)]); (try rw [if_pos (by omega)]); try with_reducible rfl); simp only [Act.put, List.setIfInBounds_toArray, List.set_cons_zero, List.set_cons_succ]) | (apply wpPlan_skip; rfl; rfl; simp only [Act.put, List.setIfInBounds_toArray, List.set_cons_zero, List.set_cons_succ]) | (apply wpPlan_pass; rfl; rfl; assumption; simp only [Act.put, List.setIfInBounds_toArray, List.set_cons_zero, List.set_cons_succ]))
                        refine wpPlan_run rfl rfl (by simp [execOp, go_sem, build_doc]; (first | exact ⟨rfl, rfl⟩ | rfl)) _ (fun _ h => h) ⟨cell_later hba m0.1, (HBN.out.drew.later hba).cell (i := 4) rfl⟩ ?_
                        simp only [Act.put, List.setIfInBounds_toArray, List.set_cons_zero, List.set_cons_succ]
                        repeat (first | (apply wpPlan_look; rfl; rfl; (intro wq hq; (try dsimp only at hq); go_split_ands; go_simp; (try rw [if_neg (by omega)]); (try rw [if_pos (by omega)]); try with_reducible rfl); simp only [Act.put, List.setIfInBounds_toArray, List.set_cons_zero, List.set_cons_succ]) | (apply wpPlan_skip; rfl; rfl; simp only [Act.put, List.setIfInBounds_toArray, List.set_cons_zero, List.set_cons_succ]) | (apply wpPlan_pass; rfl; rfl; assumption; simp only [Act.put, List.setIfInBounds_toArray, List.set_cons_zero, List.set_cons_succ]))
                        refine wpPlan_run rfl rfl (exec_append rfl rfl rfl rfl hrun) _ (fun _ h => h) ⟨(HMD.out _ HB93.out).1, (HBN.out.drew.over hbk93 (by decide)).cell (i := 4) rfl⟩ ?_
                        simp only [Act.put, List.setIfInBounds_toArray, List.set_cons_zero, List.set_cons_succ]
                        repeat (first | (apply wpPlan_look; rfl; rfl; (intro wq hq; (try dsimp only at hq); go_split_ands; go_simp; (try rw [if_neg (by omega)]); (try rw [if_pos (by omega)]); try with_reducible rfl); simp only [Act.put, List.setIfInBounds_toArray, List.set_cons_zero, List.set_cons_succ]) | (apply wpPlan_skip; rfl; rfl; simp only [Act.put, List.setIfInBounds_toArray, List.set_cons_zero, List.set_cons_succ]) | (apply wpPlan_pass; rfl; rfl; assumption; simp only [Act.put, List.setIfInBounds_toArray, List.set_cons_zero, List.set_cons_succ]))
                        apply wpPlan_done
                        clear HSX hrun hown9 hba
                        have HBK4 := Lib.hid (HBK1.out.drew.over hbk93 (by decide))
                        clear m0 hbk93 HBK1 HBN HBA HOA HS1 HO HB HBK
                        go_wp2_with fail
                        go_roundw
                        case rel => exact ⟨z + 1, q + 1, by omega, by go_num, HO93, HB93, HBK4, Lib.hid ⟨HDR.out, by omega⟩⟩
                        case measure => simp [intOf]; omega
                      · skip
                        have hsl := slX_29 (nm := md.name) (m := m) (i := j) (k := z) hk
                        rw [hsl] at hdr
                        simp only [List.cons_append, List.nil_append] at hdr
                        obtain ⟨hs1, hs2, hs3⟩ := drop_head hdr
                        have HS1 := Lib.hid hs1
                        have HDR := Lib.hid hs2
                        rw [hk] at r0 HBA HOA HBK1 HBN
                        clear hdr hsl hs1 hs2 hk
                        go_wp2_with fail
                        clear r0 r1 r2 r3 r4 r5 r6 r7 b3
                        generalize wr.alloc (.cells #[.int .i8 29, .int .i64 x.kids, .int .i64 x.n, .string x.s, .string x.t, .string x.u, .int .i64 x.line, .int .i64 x.col] 81) = wn at *
                        generalize wr.heap.size = gn at *
                        have hB3 : w.heap.size ≤ wn.heap.size := HBA.out.size
                        obtain ⟨v93, w93, hrun, hown9, hb9, hsz9, hbk93⟩ := push_run (slots L) (note L) w.heap.size q ⟨(2, m, j, z), md.name, false, j, z, false, false⟩ _ wn.drew HOA.out HS1.out (by omega) hB3
                        have hnn : note L (2, m, j, z) = x.t := HN2.out.1
                        simp only [docC] at hrun
                        rw [hnn] at hrun
                        obtain ⟨A93, c93, rfl⟩ := own_shape hown9
                        have HO93 := Lib.hid hown9
                        have HBD3 : Hid (Below w.heap.size w wn.drew) := Lib.hid HBA.out.drew
                        have HB93 := Lib.hid (HBD3.out.trans hb9)
                        have hba : Below wn.drew.heap.size wn.drew (wn.drew.alloc (.cells #[.string md.name, .bool false, .int .i64 (j : Int), .int .i64 (z : Int), .bool false, .string x.t, .int .i64 (m : Int), .int .i64 2] 38)) := (Below.refl _ _).alloc (Nat.le_refl _) _
                        have m0 := HMD.out wn.drew HBD3.out
                        refine wp_region_plan (S := fun w' => w'.cell? ⟨sk.b, sk.o + m * 5, none⟩ = some (.string md.name) ∧ w'.cell? ⟨gn, 4, none⟩ = some (.string x.t)) [(0, true), (1, true), (2, true), (3, true), (4, true), (5, true), (6, true), (7, true), (8, true), (9, true), (10, true), (11, true), (12, false), (13, false), (14, true)] (by kernel_rfl) (by kernel_rfl) (by kernel_rfl) (fun _ _ _ _ _ h => h) ⟨m0.1, HBN.out.drew.cell (i := 4) rfl⟩ ?_
                        intro HSX
                        repeat (first | (apply wpPlan_look; rfl; rfl; (intro wq hq; (try dsimp only at hq); go_split_ands; go_simp; (try rw [if_neg (by omega)]); (try rw [if_pos (by omega)]); try with_reducible rfl); simp only [Act.put, List.setIfInBounds_toArray, List.set_cons_zero, List.set_cons_succ]) | (apply wpPlan_skip; rfl; rfl; simp only [Act.put, List.setIfInBounds_toArray, List.set_cons_zero, List.set_cons_succ]) | (apply wpPlan_pass; rfl; rfl; assumption; simp only [Act.put, List.setIfInBounds_toArray, List.set_cons_zero, List.set_cons_succ]))
                        refine wpPlan_run rfl rfl (by simp [execOp, go_sem, build_doc]; (first | exact ⟨rfl, rfl⟩ | rfl)) _ (fun _ h => h) ⟨cell_later hba m0.1, (HBN.out.drew.later hba).cell (i := 4) rfl⟩ ?_
                        simp only [Act.put, List.setIfInBounds_toArray, List.set_cons_zero, List.set_cons_succ]
                        repeat (first | (apply wpPlan_look; rfl; rfl; (intro wq hq; (try dsimp only at hq); go_split_ands; go_simp; (try rw [if_neg (by omega)]); (try rw [if_pos (by omega)]); try with_reducible rfl); simp only [Act.put, List.setIfInBounds_toArray, List.set_cons_zero, List.set_cons_succ]) | (apply wpPlan_skip; rfl; rfl; simp only [Act.put, List.setIfInBounds_toArray, List.set_cons_zero, List.set_cons_succ]) | (apply wpPlan_pass; rfl; rfl; assumption; simp only [Act.put, List.setIfInBounds_toArray, List.set_cons_zero, List.set_cons_succ]))
                        refine wpPlan_run rfl rfl (exec_append rfl rfl rfl rfl hrun) _ (fun _ h => h) ⟨(HMD.out _ HB93.out).1, (HBN.out.drew.over hbk93 (by decide)).cell (i := 4) rfl⟩ ?_
                        simp only [Act.put, List.setIfInBounds_toArray, List.set_cons_zero, List.set_cons_succ]
                        repeat (first | (apply wpPlan_look; rfl; rfl; (intro wq hq; (try dsimp only at hq); go_split_ands; go_simp; (try rw [if_neg (by omega)]); (try rw [if_pos (by omega)]); try with_reducible rfl); simp only [Act.put, List.setIfInBounds_toArray, List.set_cons_zero, List.set_cons_succ]) | (apply wpPlan_skip; rfl; rfl; simp only [Act.put, List.setIfInBounds_toArray, List.set_cons_zero, List.set_cons_succ]) | (apply wpPlan_pass; rfl; rfl; assumption; simp only [Act.put, List.setIfInBounds_toArray, List.set_cons_zero, List.set_cons_succ]))
                        apply wpPlan_done
                        clear HSX hrun hown9 hba
                        have HBK4 := Lib.hid (HBK1.out.drew.over hbk93 (by decide))
                        clear m0 hbk93 HBK1 HBN HBA HOA HS1 HO HB HBK
                        go_wp2_with fail
                        go_roundw
                        case rel => exact ⟨z + 1, q + 1, by omega, by go_num, HO93, HB93, HBK4, Lib.hid ⟨HDR.out, by omega⟩⟩
                        case measure => simp [intOf]; omega
                    · have hsl : slX md.name m j z x = [] := by simp [slX, one, both]; omega
                      rw [hsl, List.nil_append] at hdr
                      have HDR := Lib.hid hdr
                      have e5 : (x.kind == 5) = false := beq_eq_false_iff_ne.2 (by omega)
                      have e6 : (x.kind == 6) = false := beq_eq_false_iff_ne.2 (by omega)
                      have e8 : (x.kind == 8) = false := beq_eq_false_iff_ne.2 (by omega)
                      have e29 : (x.kind == 29) = false := beq_eq_false_iff_ne.2 (by omega)
                      clear hdr hsl hb ho
                      go_wp2_with fail
                      go_roundw
                      case rel => exact ⟨z + 1, q, by omega, by go_num, HOA, HBA, HBK1, Lib.hid ⟨HDR.out, hqz⟩⟩
                      case measure => simp [intOf]; omega
                · have hdr := HD.out.1
                  rw [List.drop_of_length_le (l := d.tree) (by omega), slT, List.nil_append] at hdr
                  have HDR := Lib.hid hdr
                  clear hdr HD hAt
                  go_wp2_with fail
                  go_roundw
                  case rel => exact ⟨j + 1, q, by omega, by go_num, HO, HB, Lib.hid ⟨HDR.out, hqz⟩⟩
                  case measure => simp [intOf]; omega
            · have hdr := HD.out.1
              rw [List.drop_of_length_le (l := md.defs) (by omega), slD, List.nil_append] at hdr
              have HDR := Lib.hid hdr
              clear hdr HD hAd a0 a1
              go_wp2_with fail
              go_roundw
              case rel => exact ⟨m + 1, q, by omega, by go_num, HO, HB, Lib.hid ⟨HDR.out, hql⟩⟩
              case measure => simp [intOf]; omega
    · have hdr := HD.out.1
      rw [List.drop_of_length_le (l := L) (by omega), slM] at hdr
      have hq2 : q = (slots L).length := by
        have := List.drop_eq_nil_iff.1 hdr
        have := HD.out.2
        omega
      subst hq2
      have HO2 := HO.out
      rw [List.take_length] at HO2
      have HO3 := Lib.hid HO2
      clear hdr HD hA HO2
      go_wp2_with fail
      go_ret
      exact ⟨_, rfl, HB.out, HO3.out⟩
end Go.Proofs.YtidholghbjljaaaGreatDoor

/- Walks of what statements lean on: copies of lists of nodes; the document's casts of a term. -/
import Derived.Test.YtnmhiddahfnkoaaHlpD
import Derived.Test.YtnmhiddahfnkoaaCoreT
namespace Go.Proofs.Ytnmhiddahfnkoaa
set_option linter.unusedSimpArgs false
set_option linter.unusedVariables false
open Go.RowKit Culp

set_option maxHeartbeats 800000 in
theorem CopyNodes_any (T : List Nd) (tv : Value) (w : World) (hn : Nodes w tv T) (hT : T.length ≤ 100000) : Calls Try.prog 14 #[tv] w (NodeRes T w) := by
  have HN := Lib.hid hn
  obtain ⟨A, c, rfl, hlc, hN⟩ := hn
  obtain ⟨i0, hi, hz0, hz1, hz2⟩ := info_parts node_info
  have h0 := World.ownsRow_nil w w.heap.size 44 8
  cases A with
  | none =>
    have hT0 : T = [] := by
      rcases Nat.eq_zero_or_pos T.length with h | h
      · exact List.eq_nil_of_length_eq_zero h
      · obtain ⟨b, off, h1, _⟩ := hN h; cases h1
    subst hT0
    have hrun : ∀ w : World, (Builtin.append_ #[22, 22] 22 #[.slice none 0 0, .slice none 0 c]).run Try.prog w = .ok (.slice none 0 0) w := fun w => by
      simp [Builtin.append_, run_underlying Try.underlying22, Go.sizeOf, typeInfo, hi, Builtin.lenOf, Builtin.firstCells]
    clear hN h0
    go_enter Try.func14, Try.ntmps14
    go_wp2
    go_ret
    exact ⟨_, rfl, ⟨none, 0, rfl, by simp, fun h => by simp at h⟩, Below.refl _ _⟩
  | some a =>
    have hcells : ∀ j u, (flat T)[j]? = some u → w.cell? (a.add j) = some u := by
      intro j u hu
      have hjl := (List.getElem?_eq_some_iff.1 hu).1
      rw [flat_len] at hjl
      obtain ⟨b, off, h1, hM⟩ := hN (by omega)
      cases h1
      have hadd : (⟨b, off, none⟩ : Addr).add j = ⟨b, off + j, none⟩ := by
        unfold Addr.add; split
        · rename_i h0; subst h0; rfl
        · rfl
      rw [hadd]
      obtain ⟨y, hy, hyu⟩ := flat_of T j u hu
      have := hM _ _ hy _ _ hyu
      rw [show off + j / 8 * 8 + j % 8 = off + j by omega] at this
      exact this
    have HCe := Lib.hid hcells
    clear hN hcells
    go_enter Try.func14, Try.ntmps14
    go_wp2_with (at_builtin; refine wpList_append_own _ rfl (.tmp 4) (.tmp 5) 22 rfl w.heap.size 44 i0 _ 8 88 Try.underlying22 hi hz0 hz1 hz2 rfl (by decide) _ _ _ rfl h0 a T.length c (flat T) rfl (flat_len T) HCe.out (flat_cell T) (by unfold maxLen; omega) (by omega) (Nat.le_refl _) ?_)
    intro v' w' hown' hg _
    have hN2 : Nodes w' v' T := own_nodes (by simpa using hown')
    have hb' : Below w.heap.size w w' := (Below.refl _ _).grown hg (Nat.le_refl _) fun k hk => (h0.lt k hk).1
    have HN2 := Lib.hid hN2
    have HB := Lib.hid hb'
    clear hown' hg hb' hN2 h0
    go_wp2
    go_ret
    exact ⟨_, rfl, HN2.out, HB.out⟩

theorem rlaid_info : (Try.prog.info? 37).map (fun i => (i.zero, i.size, i.bytes)) = some (some (.agg #[.int .i64 0, .string ByteArray.empty, .string ByteArray.empty]), 3, 40) := by kernel_rfl
theorem build_laid (w : World) (n : Int) (s t : ByteArray) : (Instr.buildSlice 33 1 #[(0, .agg #[.int .i64 n, .string s, .string t])]).run Try.prog w = .ok (.slice (some ⟨w.heap.size, 0, none⟩) 1 1) (w.alloc (.cells #[.int .i64 n, .string s, .string t] 37)) := by
  simp [go_sem, Instr.buildSlice, run_underlying Try.underlying33]
def RCastsRes (T : List Nd) (w : World) (e : Ending) (w' : World) : Prop := Below w.heap.size w w' ∧ ∃ v, e = .returned v ∧ w'.ownsRow w.heap.size 37 3 v (castsM T).length (lflat (castsM T))
set_option maxHeartbeats 1600000 in
theorem rCasts_any (T : List Nd) (tv : Value) (w : World) (hn : Nodes w tv T) (hT : T.length ≤ 100000) : Calls Try.prog 15 #[tv] w (RCastsRes T w) := by
  have HN := Lib.hid hn
  obtain ⟨A, c, rfl, hlc, hN⟩ := hn
  obtain ⟨i0, hi, hz0, hz1, hz2⟩ := info_parts rlaid_info
  clear hN
  go_enter Try.func15, Try.ntmps15
  go_wp2_with fail
  go_loopw [3, 4] (fun v i wr => ∃ k : Nat, k ≤ T.length ∧ i = .int .i64 k ∧ Hid (wr.ownsRow w.heap.size 37 3 v (castsM (T.take k)).length (lflat (castsM (T.take k)))) ∧ Hid (Below w.heap.size w wr)) (fun _ i _ => T.length - (intOf i).toNat)
  case atStart => exact ⟨0, by omega, rfl, Lib.hid (World.ownsRow_nil _ _ _ _), Lib.hid (Below.refl _ _)⟩
  case round =>
    obtain ⟨k, hk, rfl, HO, HB⟩ := hrel
    by_cases hlt : k < T.length
    · obtain ⟨A2, c2, e2, _, hN⟩ := (HN.out.later HB.out)
      simp only [Value.slice.injEq] at e2
      obtain ⟨rfl, _, rfl⟩ := e2
      obtain ⟨b, off, rfl, hM⟩ := hN (by omega)
      have hx : T[k]? = some T[k] := List.getElem?_eq_getElem hlt
      obtain ⟨n0, n1, n2, n3, n4, n5, n6, n7⟩ := hM.at_ hx
      have hct := castsM_take hx
      have hcl := castsM_le (T.take k)
      rw [List.length_take] at hcl
      generalize T[k] = x at *
      have HCT := Lib.hid hct
      have hbs := HB.out.size
      have HXX := Lib.hid hx
      generalize hP : castsM (T.take k) = P at *
      have HPP := Lib.hid hP
      clear hx hN hM hct hP
      cases hkd : (x.kind == 30) with
      | false =>
        have HO2 : Hid (wr.ownsRow w.heap.size 37 3 u3 (castsM (T.take (k + 1))).length (lflat (castsM (T.take (k + 1))))) := by
          rw [Hid, HCT.out, hkd]
          simpa using HO.out
        have hkd' := hkd
        clear hkd
        go_wp2_with fail
        go_roundw
        case rel => exact ⟨k + 1, by omega, by go_num, HO2, HB⟩
        case measure => simp [intOf]; omega
      | true =>
        have hE : Hid (lflat (castsM (T.take (k + 1))) = lflat P ++ [.int .i64 x.n, .string x.t, .string x.u]) := by
          rw [Hid, HCT.out, hkd, lflat_append]; rfl
        have hEl : Hid ((castsM (T.take (k + 1))).length = P.length + 1) := by
          rw [Hid, HCT.out, hkd]; simp
        have hkd' := hkd
        clear hkd
        go_wp2_with fail
        have hP1 : P.length ≤ 100000 := by omega
        refine wp_region_plan (S := fun w' => w'.cell? ⟨b, off + k * 8 + 2, none⟩ = some (.int .i64 x.n) ∧ w'.cell? ⟨b, off + k * 8 + 4, none⟩ = some (.string x.t) ∧ w'.cell? ⟨b, off + k * 8 + 5, none⟩ = some (.string x.u))
          [(0, true), (1, true), (2, true), (3, true), (4, true), (5, true), (6, true), (7, true), (8, true), (9, true), (10, true), (11, true), (12, true), (13, true), (14, true), (15, true), (16, true), (17, false), (18, false), (19, true)] (by kernel_rfl) (by kernel_rfl) (by kernel_rfl) (fun _ _ _ _ _ h => h) ⟨n2, n4, n5⟩ ?_
        intro HS
        repeat (first | (apply wpPlan_look; rfl; rfl; (intro wq hq; (try dsimp only at hq); go_split_ands; go_simp; (try rw [if_neg (by omega)]); try with_reducible rfl); simp only [Act.put, List.setIfInBounds_toArray, List.set_cons_zero, List.set_cons_succ]) | (apply wpPlan_skip; rfl; rfl; simp only [Act.put, List.setIfInBounds_toArray, List.set_cons_zero, List.set_cons_succ]) | (apply wpPlan_pass; rfl; rfl; assumption; simp only [Act.put, List.setIfInBounds_toArray, List.set_cons_zero, List.set_cons_succ]))
        have hBa : Below w.heap.size w (wr.alloc (.cells #[.int .i64 x.n, .string x.t, .string x.u] 37)).drew := ((HB.out.alloc hbs _).drew)
        have s1 : (wr.alloc (.cells #[.int .i64 x.n, .string x.t, .string x.u] 37)).drew.cell? ⟨b, off + k * 8 + 2, none⟩ = some (.int .i64 x.n) := cell_later ((Below.refl _ _).alloc (Nat.le_refl _) _).drew n2
        have s2 : (wr.alloc (.cells #[.int .i64 x.n, .string x.t, .string x.u] 37)).drew.cell? ⟨b, off + k * 8 + 4, none⟩ = some (.string x.t) := cell_later ((Below.refl _ _).alloc (Nat.le_refl _) _).drew n4
        have s3 : (wr.alloc (.cells #[.int .i64 x.n, .string x.t, .string x.u] 37)).drew.cell? ⟨b, off + k * 8 + 5, none⟩ = some (.string x.u) := cell_later ((Below.refl _ _).alloc (Nat.le_refl _) _).drew n5
        have hown : (wr.alloc (.cells #[.int .i64 x.n, .string x.t, .string x.u] 37)).drew.ownsRow w.heap.size 37 3 u3 P.length (lflat P) := (HO.out.alloc _).drew
        have hnews : ∀ (j : Nat) (u : Value), [Value.int .i64 x.n, .string x.t, .string x.u][j]? = some u → (wr.alloc (.cells #[.int .i64 x.n, .string x.t, .string x.u] 37)).drew.cell? ((⟨wr.heap.size, 0, none⟩ : Addr).add j) = some u := by
          intro j u hu
          match j, hu with
          | 0, hu => cases hu; go_simp
          | 1, hu => cases hu; go_simp
          | 2, hu => cases hu; go_simp
          | j + 3, hu => simp at hu
        refine wpPlan_run rfl rfl (by simp [execOp, go_sem, build_laid]; (first | exact ⟨rfl, rfl⟩ | rfl)) _ (fun _ h => h) ⟨s1, s2, s3⟩ ?_
        simp only [Act.put, List.setIfInBounds_toArray, List.set_cons_zero, List.set_cons_succ]
        refine wpPlan_actS rfl rfl fun K hK => ?_
        refine wp_append_own _ (.tmp 17) (.tmp 34) 33 rfl w.heap.size 37 i0 _ 3 40 Try.underlying33 hi hz0 hz1 hz2 rfl (by decide) u3 P.length (lflat P) rfl hown ⟨wr.heap.size, 0, none⟩ 1 1 [.int .i64 x.n, .string x.t, .string x.u] rfl rfl hnews (by intro u hu; simp at hu; rcases hu with rfl | rfl | rfl <;> rfl) (by unfold maxLen; omega) (by omega) hBa.size ?_
        intro v' w' hown' hg _
        have hbelow : Below w.heap.size (wr.alloc (.cells #[.int .i64 x.n, .string x.t, .string x.u] 37)).drew w' := (Below.refl _ _).grown hg hBa.size fun k hk => (hown.lt k hk).1
        have HB3 := Lib.hid (hBa.trans hbelow)
        have HO2 : Hid (w'.ownsRow w.heap.size 37 3 v' (castsM (T.take (k + 1))).length (lflat (castsM (T.take (k + 1))))) := by
          rw [Hid, hE.out, hEl.out]
          exact hown'
        obtain ⟨A3, c3, e3, _, hN3⟩ := (HN.out.later HB3.out)
        simp only [Value.slice.injEq] at e3
        obtain ⟨rfl, _, rfl⟩ := e3
        obtain ⟨b', off', e4, hM3⟩ := hN3 (by omega)
        cases e4
        obtain ⟨r0, r1, r2, r3, r4, r5, r6, r7⟩ := hM3.at_ HXX.out
        refine hK _ _ ⟨_, fun _ h => h, ⟨r2, r4, r5⟩, ?_⟩
        clear HS s1 s2 s3 hown hnews hown' hg hbelow hBa n0 n1 n2 n3 n4 n5 n6 n7 hM3 hN3 r0 r1 r2 r3 r4 r5 r6 r7
        simp only [Act.put, List.setIfInBounds_toArray, List.set_cons_zero, List.set_cons_succ]
        repeat (first | (apply wpPlan_look; rfl; rfl; (intro wq hq; (try dsimp only at hq); go_split_ands; go_simp; (try rw [if_neg (by omega)]); try with_reducible rfl); simp only [Act.put, List.setIfInBounds_toArray, List.set_cons_zero, List.set_cons_succ]) | (apply wpPlan_skip; rfl; rfl; simp only [Act.put, List.setIfInBounds_toArray, List.set_cons_zero, List.set_cons_succ]) | (apply wpPlan_pass; rfl; rfl; assumption; simp only [Act.put, List.setIfInBounds_toArray, List.set_cons_zero, List.set_cons_succ]))
        apply wpPlan_done
        go_wp2
        go_roundw
        case rel => exact ⟨k + 1, by omega, by go_num, HO2, HB3⟩
        case measure => simp [intOf]; omega
    · obtain rfl : k = T.length := by omega
      have HO2 : Hid (wr.ownsRow w.heap.size 37 3 u3 (castsM T).length (lflat (castsM T))) := by
        have := HO.out
        rw [List.take_length] at this
        exact this
      go_wp2_with fail
      go_ret
      exact ⟨HB.out, _, rfl, HO2.out⟩
end Go.Proofs.Ytnmhiddahfnkoaa

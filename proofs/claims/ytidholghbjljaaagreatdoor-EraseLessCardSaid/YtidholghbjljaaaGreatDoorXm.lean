
/- Walks of the document's chapter 25: Less and Static. -/
import Derived.Test.YtidholghbjljaaaGreatDoorXk
import Derived.Test.YtidholghbjljaaaGreatDoorVf
namespace Culp.Er
set_option linter.unusedSimpArgs false
set_option linter.unusedVariables false
open Culp Culp.Mo Culp.Tr Go.Proofs.YtidholghbjljaaaGreatDoor
theorem no_size : no.size ≤ 140737488351232 := by show (0 : Nat) ≤ _; omega
theorem note_size {L : List Md} (hz : ∀ m ∈ L, MdSz m) (p : Pos) : (note L p).size ≤ 140737488351232 := by
  unfold note
  cases hm : L[p.2.1]? with
  | none => exact no_size
  | some md =>
    obtain ⟨-, ⟨-, hi⟩, -, hd⟩ := hz md (List.mem_of_getElem? hm)
    by_cases h0 : p.1 = 0
    · simp only [h0, if_true]
      cases hx : md.imps[p.2.2.1]? with
      | none => exact no_size
      | some x => exact (hi x (List.mem_of_getElem? hx)).2.2
    · simp only [h0, if_false]
      cases hx : md.defs[p.2.2.1]? with
      | none => exact no_size
      | some d =>
        have hdz := hd d (List.mem_of_getElem? hx)
        by_cases h1 : p.1 = 1
        · simp only [h1, if_true]
          exact hdz.2.1
        · simp only [h1, if_false]
          cases hk : d.tree[p.2.2.2]? with
          | none => exact no_size
          | some x =>
            have hn := hdz.2.2.2.1 x (List.mem_of_getElem? hk)
            by_cases h2 : p.1 = 2
            · simp only [h2, if_true]; exact hn.2.1
            · simp only [h2, if_false]; exact hn.2.2.1
theorem trees_small {L : List Md} (h : Mo.mods L = 0) : ∀ md ∈ L, ∀ d ∈ md.defs, d.tree.length ≤ 1000000 := fun md hm d hd => by
  obtain ⟨-, -, h3⟩ := mods_zero.1 h
  have := Mo.check_small ((modE_zero.1 (h3 md hm)).2 d hd).2
  omega
theorem all_at {α : Type} {p : α → Bool} {l : List α} {k : Nat} {x : α} (h : (l.take k).all p = true) (hx : l[k]? = some x) (hp : p x = true) : (l.take (k + 1)).all p = true := by
  rw [List.take_add_one, hx, List.all_append, h]
  simp [hp]
theorem all_off {α : Type} {p : α → Bool} {l : List α} {k : Nat} {x : α} (hx : l[k]? = some x) (hp : p x = false) : l.all p = false := by
  rw [List.all_eq_false]
  exact ⟨x, List.mem_of_getElem? hx, by rw [hp]; decide⟩
end Culp.Er
namespace Go.Proofs.YtidholghbjljaaaGreatDoor
open Go.RowKit Go.Maps Culp Culp.Er
def RLessRes (L L' : List Md) (w : World) (e : Ending) (w' : World) : Prop := (∃ z : Bool, e = .returned (.bool z) ∧ (z = true ↔ rlessP L L')) ∧ Below w.heap.size w w'
theorem RLessRes.no {L L' : List Md} {w w' : World} (h : ¬ rlessP L L') (hb : Below w.heap.size w w') : RLessRes L L' w (.returned (.bool false)) w' := ⟨⟨false, rfl, by simp only [Bool.false_eq_true, false_iff]; exact h⟩, hb⟩
set_option maxRecDepth 100000 in
set_option maxHeartbeats 6400000 in
theorem rLess_any (L L' : List Md) (u v : Value) (w : World) (hm : Mods w u L) (hm' : Mods w v L') (hl : L.length ≤ 1000000000000000) (hl' : L'.length ≤ 1000000000000000) (hz : ∀ m ∈ L, MdSz m) (hz' : ∀ m ∈ L', MdSz m) : Calls Tryz.prog 29 #[u, v] w (RLessRes L L' w) := by
  have HM := Lib.hid hm
  have HM' := Lib.hid hm'
  have HZ' := Lib.hid hz'
  have HC := Lib.hid (rModules_any L u w hm hl hz)
  obtain ⟨A, c, rfl⟩ := hm.form
  obtain ⟨A', c', rfl⟩ := hm'.form
  clear hm hm' hz hz' hl
  go_enter Tryz.func29, Tryz.ntmps29
  go_wp2_with fail
  refine HC.out.mono ?_
  rintro E w1 ⟨rfl, hb1⟩
  have HB1 := Lib.hid hb1
  clear hb1 HC
  by_cases h0 : Mo.mods L = 0
  rotate_left
  · have e1 : (((Mo.mods L : Nat) : Int) != 0) = true := int_no (by omega)
    have HR := Lib.hid (RLessRes.no (fun h : rlessP L L' => h0 h.1) HB1.out)
    clear h0
    go_wp2_with fail
    go_ret
    exact HR.out
  have H0 := Lib.hid h0
  rw [h0]
  clear h0
  go_wp2_with fail
  refine (rModules_any L' _ w1 (HM'.out.later HB1.out) hl' HZ'.out).mono ?_
  rintro E w2 ⟨rfl, hb2⟩
  have HB2 := Lib.hid (below_later hb2 HB1.out)
  clear hb2 HB1
  by_cases h0 : Mo.mods L' = 0
  rotate_left
  · have e1 : (((Mo.mods L' : Nat) : Int) != 0) = true := int_no (by omega)
    have HR := Lib.hid (RLessRes.no (fun h : rlessP L L' => h0 h.2.1) HB2.out)
    clear h0
    go_wp2_with fail
    go_ret
    exact HR.out
  have H0' := Lib.hid h0
  rw [h0]
  clear h0
  go_wp2_with fail
  refine (rSame_any L L' _ _ w2 (HM.out.later HB2.out) (HM'.out.later HB2.out) (lens_of H0.out) (lens_of H0'.out)).mono ?_
  rintro E w3 ⟨⟨z, rfl, hzz⟩, hb3⟩
  have HB3 := Lib.hid (below_later hb3 HB2.out)
  have HZZ := Lib.hid hzz
  clear hb3 hzz HB2
  cases z with
  | false =>
    have HR := Lib.hid (RLessRes.no (fun h : rlessP L L' => by have := HZZ.out.2 h.2.2.1; cases this) HB3.out)
    go_wp2_with fail
    go_ret
    exact HR.out
  | true =>
  have HSM := Lib.hid (HZZ.out.1 rfl)
  clear HZZ
  go_wp2_with fail
  refine (rSlots_any L _ w3 (HM.out.later HB3.out) H0.out).mono ?_
  rintro E w4 ⟨va, rfl, hb4, ho4⟩
  have HB4 := Lib.hid (below_later hb4 HB3.out)
  have HO4 := Lib.hid ho4
  obtain ⟨Aa, ca, rfl⟩ := own_shape ho4
  clear hb4 ho4 HB3
  go_wp2_with fail
  refine (rSlots_any L' _ w4 (HM'.out.later HB4.out) H0'.out).mono ?_
  rintro E w5 ⟨vb, rfl, hb5, ho5⟩
  have HB5 := Lib.hid (below_later hb5 HB4.out)
  have HA5 := Lib.hid (own_later HO4.out hb5)
  have HO5 := Lib.hid ho5
  obtain ⟨Ab, cb, rfl⟩ := own_shape ho5
  have hns := fits_small H0.out
  have hsl := same_slots H0.out H0'.out HSM.out
  have hsl2 : (slots L').length = (slots L).length := by rw [hsl]
  clear hb5 ho5 HB4 HO4 hsl
  go_wp2_with fail
  go_loopw [7] (fun i wr => ∃ k : Nat, k ≤ (slots L).length ∧ i = .int .i64 k ∧ Hid (∀ (i : Nat) s s', i < k → (slots L)[i]? = some s → (slots L')[i]? = some s' → ∀ T T' : Ty, known (note L s.pos) = T.str → known (note L' s'.pos) = T'.str → prec T T' = true) ∧ Hid (Below w5.heap.size w5 wr)) (fun i _ => (slots L).length - (intOf i).toNat)
  case atStart => exact ⟨0, Nat.zero_le _, rfl, Lib.hid (fun i a b h => by omega), Lib.hid (Below.refl _ _)⟩
  case round =>
    obtain ⟨k, hk, rfl, HK, HB⟩ := hrel
    by_cases hlt : k < (slots L).length
    · obtain ⟨g1, c1, es1, hc1⟩ := doc_row HA5.out (by omega)
      cases es1
      obtain ⟨g2, c2, es2, hc2⟩ := doc_row HO5.out (by omega)
      cases es2
      have hx : (slots L)[k]? = some (slots L)[k] := List.getElem?_eq_getElem hlt
      have hlt' : k < (slots L').length := by omega
      have hy : (slots L')[k]? = some (slots L')[k] := List.getElem?_eq_getElem hlt'
      generalize (slots L)[k] = s at *
      generalize (slots L')[k] = s' at *
      obtain ⟨T, hT, fT⟩ := known_at H0.out (List.mem_of_getElem? hx)
      obtain ⟨T', hT', fT'⟩ := known_at H0'.out (List.mem_of_getElem? hy)
      have hsz5 := HB.out.size
      obtain ⟨-, -, -, -, -, n0⟩ := hc1 wr.drew HB.out.drew k s hx
      obtain ⟨-, -, -, -, -, q0⟩ := hc2 wr.drew HB.out.drew k s' hy
      have HXX := Lib.hid hx
      have HYY := Lib.hid hy
      have HT1 := Lib.hid hT
      have HT2 := Lib.hid hT'
      have HBD := Lib.hid HB.out.drew
      have HF := Lib.hid fT
      have HF' := Lib.hid fT'
      generalize ht1 : note L s.pos = t1 at *
      generalize ht2 : note L' s'.pos = t2 at *
      have HE1 := Lib.hid ht1
      have HE2 := Lib.hid ht2
      clear hc1 hc2 hx hy hT hT' HB fT fT' ht1 ht2
      go_wp2_with fail
      refine wp_region_plan (S := fun w' => w'.cell? ⟨g1, k * 8 + 5, none⟩ = some (.string t1) ∧ w'.cell? ⟨g2, k * 8 + 5, none⟩ = some (.string t2)) [(0, true), (1, true), (2, true), (3, true), (4, true), (6, true), (7, true), (8, true), (9, true), (10, true), (5, false), (11, false), (12, false), (13, true)] (by kernel_rfl) (by kernel_rfl) (by kernel_rfl) (fun _ _ _ _ _ h => h) ⟨n0, q0⟩ ?_
      intro HP
      repeat (first | (apply wpPlan_look; rfl; rfl; (intro wq hq; (try dsimp only at hq); go_split_ands; go_simp; (try rw [if_neg (by omega)]); (try rw [if_pos (by omega)]); try with_reducible rfl); simp only [Act.put, List.setIfInBounds_toArray, List.set_cons_zero, List.set_cons_succ]) | (apply wpPlan_skip; rfl; rfl; simp only [Act.put, List.setIfInBounds_toArray, List.set_cons_zero, List.set_cons_succ]) | (apply wpPlan_pass; rfl; rfl; assumption; simp only [Act.put, List.setIfInBounds_toArray, List.set_cons_zero, List.set_cons_succ]))
      apply wpPlan_call; rfl; rfl; rfl; rfl; kernel_rfl; exact rKnown_any t1 _; rfl; rintro E w' ⟨rfl, rfl⟩
      refine ⟨_, rfl, HP, ?_⟩
      simp only [Act.put, List.setIfInBounds_toArray, List.set_cons_zero, List.set_cons_succ]
      repeat (first | (apply wpPlan_look; rfl; rfl; (intro wq hq; (try dsimp only at hq); go_split_ands; go_simp; (try rw [if_neg (by omega)]); (try rw [if_pos (by omega)]); try with_reducible rfl); simp only [Act.put, List.setIfInBounds_toArray, List.set_cons_zero, List.set_cons_succ]) | (apply wpPlan_skip; rfl; rfl; simp only [Act.put, List.setIfInBounds_toArray, List.set_cons_zero, List.set_cons_succ]) | (apply wpPlan_pass; rfl; rfl; assumption; simp only [Act.put, List.setIfInBounds_toArray, List.set_cons_zero, List.set_cons_succ]))
      apply wpPlan_call; rfl; rfl; rfl; rfl; kernel_rfl; exact rKnown_any t2 _; rfl; rintro E w' ⟨rfl, rfl⟩
      refine ⟨_, rfl, HP, ?_⟩
      simp only [Act.put, List.setIfInBounds_toArray, List.set_cons_zero, List.set_cons_succ]
      repeat (first | (apply wpPlan_look; rfl; rfl; (intro wq hq; (try dsimp only at hq); go_split_ands; go_simp; (try rw [if_neg (by omega)]); (try rw [if_pos (by omega)]); try with_reducible rfl); simp only [Act.put, List.setIfInBounds_toArray, List.set_cons_zero, List.set_cons_succ]) | (apply wpPlan_skip; rfl; rfl; simp only [Act.put, List.setIfInBounds_toArray, List.set_cons_zero, List.set_cons_succ]) | (apply wpPlan_pass; rfl; rfl; assumption; simp only [Act.put, List.setIfInBounds_toArray, List.set_cons_zero, List.set_cons_succ]))
      rw [HT1.out, HT2.out]
      apply wpPlan_call; rfl; rfl; rfl; rfl; kernel_rfl; exact rPrecise_any T T' HF.out HF'.out _; rfl; rintro E w6 ⟨rfl, hb6⟩
      refine ⟨_, rfl, ⟨cell_later hb6 n0, cell_later hb6 q0⟩, ?_⟩
      simp only [Act.put, List.setIfInBounds_toArray, List.set_cons_zero, List.set_cons_succ]
      repeat (first | (apply wpPlan_look; rfl; rfl; (intro wq hq; (try dsimp only at hq); go_split_ands; go_simp; (try rw [if_neg (by omega)]); (try rw [if_pos (by omega)]); try with_reducible rfl); simp only [Act.put, List.setIfInBounds_toArray, List.set_cons_zero, List.set_cons_succ]) | (apply wpPlan_skip; rfl; rfl; simp only [Act.put, List.setIfInBounds_toArray, List.set_cons_zero, List.set_cons_succ]) | (apply wpPlan_pass; rfl; rfl; assumption; simp only [Act.put, List.setIfInBounds_toArray, List.set_cons_zero, List.set_cons_succ]))
      apply wpPlan_done
      have HB6 := Lib.hid (below_later hb6 HBD.out)
      obtain ⟨z, HZ⟩ : ∃ z, Hid (prec T T' = z) := ⟨_, Lib.hid rfl⟩
      rw [HZ.out]
      clear hb6 HP n0 q0
      cases z with
      | false =>
        have HR := Lib.hid (RLessRes.no (fun h : rlessP L L' => by have := h.2.2.2 k s s' HXX.out HYY.out T T' (by rw [HE1.out]; exact HT1.out) (by rw [HE2.out]; exact HT2.out); rw [HZ.out] at this; cases this) (below_later HB6.out HB5.out))
        go_wp2_with fail
        go_ret
        exact HR.out
      | true =>
        have HK3 : Hid (∀ (i : Nat) s s', i < k + 1 → (slots L)[i]? = some s → (slots L')[i]? = some s' → ∀ T T' : Ty, known (note L s.pos) = T.str → known (note L' s'.pos) = T'.str → prec T T' = true) := Lib.hid (fun i x' y' hi h1 h2 U U' h3 h4 => by
          rcases Nat.lt_or_ge i k with h | h
          · exact HK.out i x' y' h h1 h2 U U' h3 h4
          · obtain rfl : i = k := by omega
            rw [HXX.out] at h1
            rw [HYY.out] at h2
            obtain rfl := Option.some.inj h1
            obtain rfl := Option.some.inj h2
            rw [HE1.out, HT1.out] at h3
            rw [HE2.out, HT2.out] at h4
            obtain rfl := str_inj h3
            obtain rfl := str_inj h4
            exact HZ.out)
        clear HK
        go_wp2_with fail
        go_roundw
        case rel => exact ⟨k + 1, by omega, by go_num, HK3, HB6⟩
        case measure => simp [intOf]; omega
    · have HR : Hid (rlessP L L') := Lib.hid ⟨H0.out, H0'.out, HSM.out, fun i s s' h1 h2 => HK.out i s s' (by have := (List.getElem?_eq_some_iff.1 h1).1; omega) h1 h2⟩
      clear HK
      go_wp2_with fail
      go_ret
      exact ⟨⟨true, rfl, by simp only [true_iff]; exact HR.out⟩, below_later HB.out HB5.out⟩
set_option maxRecDepth 100000 in
set_option maxHeartbeats 6400000 in
theorem rStaticM_any (L : List Md) (v : Value) (w : World) (hm : Mods w v L) (hl : L.length ≤ 1000000000000000) (hz : ∀ m ∈ L, MdSz m) : Calls Tryz.prog 31 #[v] w (Makes (.bool (rstatic L)) w) := by
  have HM := Lib.hid hm
  have HZ := Lib.hid hz
  have HC := Lib.hid (rModules_any L v w hm hl hz)
  obtain ⟨A, c, rfl⟩ := hm.form
  clear hm hz
  go_enter Tryz.func31, Tryz.ntmps31
  go_wp2_with fail
  refine HC.out.mono ?_
  rintro E w1 ⟨rfl, hb1⟩
  have HB1 := Lib.hid hb1
  clear hb1 HC
  by_cases h0 : Mo.mods L = 0
  rotate_left
  · have e1 : (((Mo.mods L : Nat) : Int) != 0) = true := int_no (by omega)
    have HR : Hid (rstatic L = false) := Lib.hid (by unfold rstatic; rw [decide_eq_false h0]; rfl)
    clear h0
    go_wp2_with fail
    go_ret
    rw [HR.out]
    exact Makes.mk rfl HB1.out
  have H0 := Lib.hid h0
  have HFT := Lib.hid (trees_small h0)
  have HLN := Lib.hid (lens_of h0)
  have hns := fits_small h0
  have HR1 : Hid (∀ (k : Nat) s, (slots L)[k]? = some s → solidB (note L s.pos).data.toList = false → rstatic L = false) := Lib.hid fun k s h1 h2 => by unfold rstatic; rw [all_off h1 h2, Bool.and_false, Bool.false_and]
  have HR2 : Hid (∀ (k j : Nat) m d, L[k]? = some m → m.defs[j]? = some d → d.tree.all Tr.statB = false → rstatic L = false) := Lib.hid fun k j m d h1 h2 h3 => by
    unfold rstatic
    rw [all_off h1 (all_off h2 h3), Bool.and_false]
  have HR3 : Hid (((slots L).all fun s => solidB (note L s.pos).data.toList) = true → (L.all fun m => m.defs.all fun d => d.tree.all Tr.statB) = true → rstatic L = true) := Lib.hid fun h1 h2 => by
    unfold rstatic
    rw [h1, h2, decide_eq_true h0]; rfl
  rw [h0]
  clear h0
  go_wp2_with fail
  refine (rSlots_any L _ w1 (HM.out.later HB1.out) H0.out).mono ?_
  rintro E w2 ⟨va, rfl, hb2, ho2⟩
  have HB2 := Lib.hid (below_later hb2 HB1.out)
  have HO2 := Lib.hid ho2
  obtain ⟨Aa, ca, rfl⟩ := own_shape ho2
  clear hb2 ho2 HB1
  go_wp2_with fail
  go_loopw [4] (fun i wr => ∃ k : Nat, k ≤ (slots L).length ∧ i = .int .i64 k ∧ Hid ((((slots L).take k).all fun s => solidB (note L s.pos).data.toList) = true) ∧ Hid (Below w2.heap.size w2 wr)) (fun i _ => (slots L).length - (intOf i).toNat)
  case atStart => exact ⟨0, Nat.zero_le _, rfl, Lib.hid rfl, Lib.hid (Below.refl _ _)⟩
  case round =>
    obtain ⟨k, hk, rfl, HK, HB⟩ := hrel
    by_cases hlt : k < (slots L).length
    · obtain ⟨g1, c1, es1, hc1⟩ := doc_row HO2.out (by omega)
      cases es1
      have hx : (slots L)[k]? = some (slots L)[k] := List.getElem?_eq_getElem hlt
      generalize (slots L)[k] = s at *
      obtain ⟨-, -, -, -, -, n0⟩ := hc1 wr HB.out k s hx
      have HXX := Lib.hid hx
      have htz := note_size HZ.out s.pos
      have HSB : Hid (∀ b, solidB (note L s.pos).data.toList = b → (b = false → rstatic L = false) ∧ (b = true → (((slots L).take (k + 1)).all fun s => solidB (note L s.pos).data.toList) = true)) := Lib.hid fun b hb => ⟨fun h => HR1.out k s HXX.out (hb.trans h), fun h => all_at HK.out HXX.out (hb.trans h)⟩
      generalize note L s.pos = t1 at *
      clear hc1 hx HK
      go_wp2_with fail
      refine (rSolid_any t1 _ htz).mono ?_
      rintro E w' ⟨rfl, rfl⟩
      clear n0
      obtain ⟨z, hz⟩ : ∃ z, solidB t1.data.toList = z := ⟨_, rfl⟩
      have HS := Lib.hid (HSB.out z hz)
      rw [hz]
      clear hz HSB
      cases z with
      | false =>
        have HR := Lib.hid (HS.out.1 rfl)
        go_wp2_with fail
        go_ret
        rw [HR.out]
        exact Makes.mk rfl (below_later HB.out HB2.out)
      | true =>
        have HK3 := Lib.hid (HS.out.2 rfl)
        clear HS
        go_wp2_with fail
        go_roundw
        case rel => exact ⟨k + 1, by omega, by go_num, HK3, HB⟩
        case measure => simp [intOf]; omega
    · have HKA : Hid (((slots L).all fun s => solidB (note L s.pos).data.toList) = true) := Lib.hid (by
        have := HK.out
        rwa [List.take_of_length_le (by omega)] at this)
      have HB3 := Lib.hid (below_later HB.out HB2.out)
      clear HK HO2 HB2 HB
      go_wp2_with fail
      obtain ⟨w3, hw3⟩ : ∃ w3, w3 = wr := ⟨_, rfl⟩
      rw [← hw3] at HB3 ⊢
      clear hw3
      go_loopw [5] (fun i wr => ∃ m : Nat, m ≤ L.length ∧ i = .int .i64 m ∧ Hid (((L.take m).all fun m => m.defs.all fun d => d.tree.all Tr.statB) = true) ∧ Hid (Below w.heap.size w wr)) (fun i _ => L.length - (intOf i).toNat)
      case atStart => exact ⟨0, Nat.zero_le _, rfl, Lib.hid rfl, HB3⟩
      case round =>
        clear HB3
        obtain ⟨m, hm, rfl, HK, HB⟩ := hrel
        by_cases hltm : m < L.length
        case neg =>
          have HR := Lib.hid (HR3.out HKA.out (by
            have := HK.out
            rwa [List.take_of_length_le (by omega)] at this))
          clear HK
          go_wp2_with fail
          go_ret
          rw [HR.out]
          exact Makes.mk rfl HB.out
        obtain ⟨b1, o1, iv, dv, rfl, ⟨-, -, n2, -, -⟩, -, hd1⟩ := HM.out.at_ hltm
        have hx : L[m]? = some L[m] := List.getElem?_eq_getElem hltm
        have HLD := Lib.hid (HLN.out.defs _ (List.mem_of_getElem? hx))
        have hld := HLD.out
        have HMZ := Lib.hid (HZ.out _ (List.mem_of_getElem? hx))
        have HFD := Lib.hid (HFT.out _ (List.mem_of_getElem? hx))
        have HX := Lib.hid hx
        generalize L[m] = md at *
        obtain ⟨Ad, cd, rfl⟩ := hd1.form
        have HD := Lib.hid hd1
        have N2 := Lib.hid n2
        clear hx hd1 n2
        go_wp2_with fail
        obtain ⟨w4, hw4⟩ : ∃ w4, w4 = wr := ⟨_, rfl⟩
        rw [← hw4] at HB ⊢
        clear hw4
        go_loopw [6] (fun i wr => ∃ k : Nat, k ≤ md.defs.length ∧ i = .int .i64 k ∧ Hid (((md.defs.take k).all fun d => d.tree.all Tr.statB) = true) ∧ Hid (Below w.heap.size w wr)) (fun i _ => md.defs.length - (intOf i).toNat)
        case atStart => exact ⟨0, Nat.zero_le _, rfl, Lib.hid rfl, HB⟩
        case round =>
          clear HB
          obtain ⟨k, hk, rfl, HKD, HB⟩ := hrel
          have t2 := cell_later HB.out N2.out
          by_cases hltk : k < md.defs.length
          case neg =>
            have HK2 : Hid (((L.take (m + 1)).all fun m => m.defs.all fun d => d.tree.all Tr.statB) = true) := Lib.hid (all_at HK.out HX.out (by
              have := HKD.out
              rwa [List.take_of_length_le (by omega)] at this))
            clear HK HKD
            go_wp2_with fail
            go_roundw
            case rel => exact ⟨m + 1, by omega, by go_num, HK2, HB⟩
            case measure => simp [intOf]; omega
          obtain ⟨b2, o2, tv, rfl, ⟨-, -, -, q3, -, -⟩, ht⟩ := HD.out.at_ hltk
          have hy : md.defs[k]? = some md.defs[k] := List.getElem?_eq_getElem hltk
          have htl := HFD.out _ (List.mem_of_getElem? hy)
          have HTZ : Hid (∀ x ∈ md.defs[k].tree, x.t.size ≤ 140737488351232 ∧ x.u.size ≤ 140737488351232) := Lib.hid fun x hx => by
            have hq := (HMZ.out.2.2.2 _ (List.mem_of_getElem? hy)).2.2.2.1 x hx
            exact ⟨hq.2.1, hq.2.2.1⟩
          have HY := Lib.hid hy
          generalize md.defs[k] = d at *
          replace q3 := cell_later HB.out q3
          have HST := Lib.hid (rStatic_any d.tree tv wr (ht.later HB.out) htl HTZ.out)
          obtain ⟨At, ct, rfl⟩ := ht.form
          clear hy ht HTZ
          go_wp2_with fail
          refine HST.out.mono ?_
          rintro E w6 ⟨rfl, hb6⟩
          have HB6 := Lib.hid (below_later hb6 HB.out)
          obtain ⟨z, hz⟩ : ∃ z, d.tree.all Tr.statB = z := ⟨_, rfl⟩
          have HZ2 := Lib.hid hz
          rw [hz]
          clear hz HST hb6 HB t2 q3
          cases z with
          | false =>
            have HR := Lib.hid (HR2.out m k md d HX.out HY.out HZ2.out)
            go_wp2_with fail
            go_ret
            rw [HR.out]
            exact Makes.mk rfl HB6.out
          | true =>
            have HKD2 : Hid (((md.defs.take (k + 1)).all fun d => d.tree.all Tr.statB) = true) := Lib.hid (all_at HKD.out HY.out HZ2.out)
            clear HKD HZ2
            go_wp2_with fail
            go_roundw
            case rel => exact ⟨k + 1, by omega, by go_num, HKD2, HB6⟩
            case measure => simp [intOf]; omega
end Go.Proofs.YtidholghbjljaaaGreatDoor

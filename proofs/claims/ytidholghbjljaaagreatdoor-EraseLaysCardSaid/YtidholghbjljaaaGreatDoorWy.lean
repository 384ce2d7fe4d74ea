
/- Walks of erase: Less. -/
import Derived.Test.YtidholghbjljaaaGreatDoorWw
import Derived.Test.YtidholghbjljaaaGreatDoorWx
import Derived.Test.YtidholghbjljaaaGreatDoorRelW
namespace Culp.Er
set_option linter.unusedSimpArgs false
set_option linter.unusedVariables false
open Culp Culp.Tr Culp.Mo
theorem slI_same (nm : ByteArray) (m : Nat) : ∀ (i : Nat) (I J : List Im), I.length = J.length → slI nm m i I = slI nm m i J
  | _, [], [], _ => rfl
  | _, [], _ :: _, h => by simp at h
  | _, _ :: _, [], h => by simp at h
  | i, x :: I, y :: J, h => by rw [slI, slI, slI_same nm m (i + 1) I J (by simpa using h)]
theorem slX_same {nm : ByteArray} {m i k : Nat} {x y : Nd} (h : x.kind = y.kind) : slX nm m i k x = slX nm m i k y := by unfold slX; rw [h]
theorem slT_same (nm : ByteArray) (m i : Nat) : ∀ (k : Nat) (T U : List Nd), T.length = U.length → (∀ (j : Nat) x y, T[j]? = some x → U[j]? = some y → x.kind = y.kind) → slT nm m i k T = slT nm m i k U
  | _, [], [], _, _ => rfl
  | _, [], _ :: _, h, _ => by simp at h
  | _, _ :: _, [], h, _ => by simp at h
  | k, x :: T, y :: U, h, hk => by
    rw [slT, slT, slX_same (hk 0 x y rfl rfl), slT_same nm m i (k + 1) T U (by simpa using h) fun j a b ha hb => hk (j + 1) a b (by simpa using ha) (by simpa using hb)]
theorem slD_same (nm : ByteArray) (m : Nat) : ∀ (i : Nat) (D E : List Df), D.length = E.length → (∀ (j : Nat) x y, D[j]? = some x → E[j]? = some y → alikeD x y) → slD nm m i D = slD nm m i E
  | _, [], [], _, _ => rfl
  | _, [], _ :: _, h, _ => by simp at h
  | _, _ :: _, [], h, _ => by simp at h
  | i, x :: D, y :: E, h, hk => by
    have h0 := (hk 0 x y rfl rfl).2.2
    rw [slD, slD, slT_same nm m i 0 x.tree y.tree h0.1 fun j a b ha hb => (h0.2 j a b ha hb).1, slD_same nm m (i + 1) D E (by simpa using h) fun j a b ha hb => hk (j + 1) a b (by simpa using ha) (by simpa using hb)]
/-- Two lists of modules, but for places. -/
def alikeAll (A B : List Md) : Prop := A.length = B.length ∧ ∀ (i : Nat) a b, A[i]? = some a → B[i]? = some b → alikeM a b
theorem slM_same : ∀ (m : Nat) (A B : List Md), alikeAll A B → slM m A = slM m B
  | _, [], [], _ => rfl
  | _, [], _ :: _, h => by have := h.1; simp at this
  | _, _ :: _, [], h => by have := h.1; simp at this
  | m, a :: A, b :: B, h => by
    have h0 := h.2 0 a b rfl rfl
    have h1 : alikeAll A B := ⟨by simpa using h.1, fun i x y hx hy => h.2 (i + 1) x y (by simpa using hx) (by simpa using hy)⟩
    rw [slM, slM, h0.name, slI_same b.name m 0 a.imps b.imps h0.iLen, slD_same b.name m 0 a.defs b.defs h0.dLen h0.defs, slM_same (m + 1) A B h1]
/-- The modules without their annotations. -/
def bareL (L : List Md) : List Md := lay (bareAt (slots L) (note L) (slots L).length).2 L
theorem alike_slots {L L' : List Md} (h : alikeAll (bareL L) (bareL L')) : slots L = slots L' := by
  have := slM_same 0 _ _ h
  unfold bareL at this
  have e1 : slM 0 (lay (bareAt (slots L) (note L) (slots L).length).2 L) = slots L := slots_lay _ _
  have e2 : slM 0 (lay (bareAt (slots L') (note L') (slots L').length).2 L') = slots L' := slots_lay _ _
  rw [e1, e2] at this
  exact this
theorem known_ty {s : Sl} {t : ByteArray} (h : good s t = true) : ∃ T : Ty, known t = T.str ∧ T.fits := by
  have hd : dynB = Ty.dyn.str := rfl
  have hdf : Ty.dyn.fits := by show (1 : Nat) ≤ 64; omega
  have key : Tr.note t.data.toList = true → ∃ T : Ty, known t = T.str ∧ T.fits := fun h => by
    unfold Tr.note at h
    rw [Bool.or_eq_true, decide_eq_true_eq] at h
    by_cases h0 : t = no
    · exact ⟨.dyn, by unfold known; rw [if_pos h0]; exact hd, hdf⟩
    · rcases h with h | h
      · exact absurd (ByteArray.ext (Array.toList_inj.1 (by rw [h]; rfl))) h0
      · obtain ⟨T, h1, h2⟩ := ty_of t h
        exact ⟨T, by unfold known; rw [if_neg h0]; exact h1, h2⟩
  unfold good at h
  split at h
  · exact key h
  · exact key (by unfold Tr.note; rw [h, Bool.or_true])
theorem known_at {L : List Md} (h0 : mods L = 0) {s : Sl} (hs : s ∈ slots L) : ∃ T : Ty, known (note L s.pos) = T.str ∧ T.fits := by
  have : mods (lay (note L) L) = 0 := by rw [lay_note]; exact h0
  exact known_ty (txt_good (txt_ok this) hs)
/-- With annotations that are less precise, or the same. -/
def lessP (L L' : List Md) : Prop := mods L = 0 ∧ mods L' = 0 ∧ alikeAll (bareL L) (bareL L') ∧ ∀ (i : Nat) s s', (slots L)[i]? = some s → (slots L')[i]? = some s' → ∀ T T' : Ty, known (note L s.pos) = T.str → known (note L' s'.pos) = T'.str → prec T T' = true
end Culp.Er
namespace Go.Proofs.YtidholghbjljaaaGreatDoor
set_option linter.unusedSimpArgs false
set_option linter.unusedVariables false
open Go.RowKit Go.Maps Culp Culp.Er
def LessRes (L L' : List Md) (w : World) (e : Ending) (w' : World) : Prop := (∃ z : Bool, e = .returned (.bool z) ∧ (z = true ↔ lessP L L')) ∧ Below w.heap.size w w'
theorem LessRes.no {L L' : List Md} {w w' : World} (h : ¬ lessP L L') (hb : Below w.heap.size w w') : LessRes L L' w (.returned (.bool false)) w' := ⟨⟨false, rfl, by simp only [Bool.false_eq_true, false_iff]; exact h⟩, hb⟩
theorem bare_lens {L : List Md} (h : Mo.mods L = 0) (f : Pos → ByteArray) : ∀ md ∈ lay f L, (md.imps.length ≤ 1000000000000 ∧ md.defs.length ≤ 1000000000000) ∧ ∀ d ∈ md.defs, d.tree.length ≤ 100000000000 := fun x hx => by
  obtain ⟨m, md, hm, rfl⟩ := lay_mem.1 hx
  obtain ⟨h1, h2, h3⟩ := mods_zero.1 h
  have h4 := (Mo.few_len h1).2 md (List.mem_of_getElem? hm)
  have e1 : (layMd f m md).imps.length = md.imps.length := layI_len m 0 _
  have e2 : (layMd f m md).defs.length = md.defs.length := layD_len m 0 _
  refine ⟨⟨by omega, by omega⟩, fun d hd => ?_⟩
  obtain ⟨i, e, he, rfl⟩ := layD_mem.1 hd
  have h5 := Mo.check_small ((modE_zero.1 (h3 md (List.mem_of_getElem? hm))).2 e (List.mem_of_getElem? he)).2
  have e3 : (layDf f m i e).tree.length = e.tree.length := layT_len m i 0 _
  omega
set_option maxRecDepth 100000 in
set_option maxHeartbeats 6400000 in
theorem Less_any (L L' : List Md) (u v : Value) (w : World) (hm : Mods w u L) (hm' : Mods w v L') (hS : Sp w) (hl : Lens L) (hl' : Lens L') (hz : ∀ m ∈ L, MdSz m) (hz' : ∀ m ∈ L', MdSz m) : Calls Tryz.prog 28 #[u, v] w (LessRes L L' w) := by
  have HM' := Lib.hid hm'
  have HS := Lib.hid hS
  have HL' := Lib.hid hl'
  have HZ' := Lib.hid hz'
  have HC := Lib.hid (bare_any L u w hm hS hl hz)
  have hlen := hl.len
  have hlen' := hl'.len
  obtain ⟨A, c, rfl⟩ := hm.form
  obtain ⟨A', c', rfl⟩ := hm'.form
  clear hm hm' hS hl hl' hz hz'
  go_enter Tryz.func28, Tryz.ntmps28
  go_wp2_with fail
  refine HC.out.mono ?_
  rintro E w1 ⟨hb1, Ax, cx, nx, rfl, ⟨An, nn, cn, rfl⟩, hx⟩
  have HB1 := Lib.hid hb1
  have HX := Lib.hid hx
  have HC2 := Lib.hid (bare_any L' (.slice A' L'.length c') w1 (HM'.out.later hb1) (HS.out.later hb1) HL'.out HZ'.out)
  clear hb1 hx HC
  obtain ⟨zx, hzx⟩ : ∃ z, z = decide (Mo.mods L = 0) := ⟨_, rfl⟩
  rw [← hzx]
  have HZX := Lib.hid hzx
  clear hzx
  go_wp2_with fail
  refine HC2.out.mono ?_
  rintro E w2 ⟨hb2, Ay, cy, ny, rfl, ⟨Am, mm, cm, rfl⟩, hy⟩
  have HB2 := Lib.hid (below_later hb2 HB1.out)
  have HB21 := Lib.hid hb2
  have HY := Lib.hid hy
  clear hb2 hy HC2
  obtain ⟨zy, hzy⟩ : ∃ z, z = decide (Mo.mods L' = 0) := ⟨_, rfl⟩
  rw [← hzy]
  have HZY := Lib.hid hzy
  clear hzy
  cases zx with
  | false =>
    have HR := Lib.hid (LessRes.no (fun h : lessP L L' => by have := HZX.out; rw [decide_eq_true h.1] at this; cases this) HB2.out)
    go_wp2_with fail
    go_ret
    exact HR.out
  | true =>
  cases zy with
  | false =>
    have HR := Lib.hid (LessRes.no (fun h : lessP L L' => by have := HZY.out; rw [decide_eq_true h.2.1] at this; cases this) HB2.out)
    go_wp2_with fail
    go_ret
    exact HR.out
  | true =>
  have H0 : Hid (Mo.mods L = 0) := Lib.hid (of_decide_eq_true HZX.out.symm)
  have H0' : Hid (Mo.mods L' = 0) := Lib.hid (of_decide_eq_true HZY.out.symm)
  clear HZX HZY
  obtain ⟨hx1, hx2⟩ := HX.out H0.out
  obtain ⟨hy1, hy2⟩ := HY.out H0'.out
  have HX1 : Hid (Mods w2 (.slice Ax L.length cx) (bareL L)) := Lib.hid (hx1.mods.later HB21.out)
  have HY1 : Hid (Mods w2 (.slice Ay L'.length cy) (bareL L')) := Lib.hid hy1.mods
  have HX2 := Lib.hid (own_later hx2 HB21.out)
  have HY2 := Lib.hid hy2
  have hk1 : (bareL L).length = L.length := layM_len 0 L
  have hk2 : (bareL L').length = L'.length := layM_len 0 L'
  have HK1 := Lib.hid hk1
  have HK2 := Lib.hid hk2
  clear hx1 hx2 hy1 hy2 HX HY hk1 hk2
  by_cases hll : L.length = L'.length
  rotate_left
  · have e1 : ((L.length : Int) != (L'.length : Int)) = true := by rw [bne, beq_eq_false_iff_ne.2 (by omega)]; rfl
    have HR := Lib.hid (LessRes.no (fun h : lessP L L' => hll (by have := h.2.2.1.1; have := HK1.out; have := HK2.out; omega)) HB2.out)
    clear hll
    go_wp2_with fail
    go_ret
    exact HR.out
  have e1 : ((L.length : Int) != (L'.length : Int)) = false := by rw [hll]; simp
  have HLL := Lib.hid hll
  clear hll
  go_wp2_with fail
  clear e1
  go_loopw [40] (fun i wr => ∃ k : Nat, k ≤ L.length ∧ i = .int .i64 k ∧ Hid (∀ (i : Nat) a b, i < k → (bareL L)[i]? = some a → (bareL L')[i]? = some b → alikeM a b) ∧ Hid (Below w2.heap.size w2 wr)) (fun i _ => L.length - (intOf i).toNat)
  case atStart => exact ⟨0, Nat.zero_le _, rfl, Lib.hid (fun i a b h => by omega), Lib.hid (Below.refl _ _)⟩
  case round =>
    obtain ⟨k, hk, rfl, HK, HB⟩ := hrel
    by_cases hlt : k < L.length
    · have hltu : k < L'.length := by have := HLL.out; omega
      have hla : k < (bareL L).length := by rw [HK1.out]; exact hlt
      have hlb : k < (bareL L').length := by rw [HK2.out]; exact hltu
      obtain ⟨b1, o1, iv, dv, rfl, ⟨n0, n1, n2, n3, n4⟩, hi1, hd1⟩ := (HX1.out.later HB.out.drew).at_ hla
      obtain ⟨b2, o2, jv, ev, rfl, ⟨q0, q1, q2, q3, q4⟩, hi2, hd2⟩ := (HY1.out.later HB.out.drew).at_ hlb
      have hx : (bareL L)[k]? = some (bareL L)[k] := List.getElem?_eq_getElem hla
      have hy : (bareL L')[k]? = some (bareL L')[k] := List.getElem?_eq_getElem hlb
      have tl1 := bare_lens H0.out _ _ (List.mem_of_getElem? hx)
      have tl2 := bare_lens H0'.out _ _ (List.mem_of_getElem? hy)
      have HXX := Lib.hid hx
      have HYY := Lib.hid hy
      generalize (bareL L)[k] = x at *
      generalize (bareL L')[k] = y at *
      have HEQ := Lib.hid (alike_any x y iv dv jv ev wr.drew hi1 hd1 hi2 hd2 ⟨tl1.1.1, tl1.1.2, tl2.1.1, tl2.1.2⟩ ⟨tl1.2, tl2.2⟩)
      obtain ⟨Ai, ci, rfl⟩ := hi1.form
      obtain ⟨Ad, cd, rfl⟩ := hd1.form
      obtain ⟨Aj, cj, rfl⟩ := hi2.form
      obtain ⟨Ae, ce, rfl⟩ := hd2.form
      have HBD := Lib.hid HB.out.drew
      clear hx hy hla hlb tl1 tl2 hi1 hd1 hi2 hd2 HB
      go_wp2_with fail
      refine wp_region_plan (S := fun w' => (w'.cell? ⟨b1, o1 + k * 5, none⟩ = some (.string x.name) ∧ w'.cell? ⟨b1, o1 + k * 5 + 1, none⟩ = some (.slice Ai x.imps.length ci) ∧ w'.cell? ⟨b1, o1 + k * 5 + 2, none⟩ = some (.slice Ad x.defs.length cd) ∧ w'.cell? ⟨b1, o1 + k * 5 + 3, none⟩ = some (.int .i64 x.line) ∧ w'.cell? ⟨b1, o1 + k * 5 + 4, none⟩ = some (.int .i64 x.col)) ∧
          (w'.cell? ⟨b2, o2 + k * 5, none⟩ = some (.string y.name) ∧ w'.cell? ⟨b2, o2 + k * 5 + 1, none⟩ = some (.slice Aj y.imps.length cj) ∧ w'.cell? ⟨b2, o2 + k * 5 + 2, none⟩ = some (.slice Ae y.defs.length ce) ∧ w'.cell? ⟨b2, o2 + k * 5 + 3, none⟩ = some (.int .i64 y.line) ∧ w'.cell? ⟨b2, o2 + k * 5 + 4, none⟩ = some (.int .i64 y.col)))
        [(0, true), (1, true), (2, true), (3, true), (4, true), (5, true), (6, true), (7, true), (8, false), (9, true)] (by kernel_rfl) (by kernel_rfl) (by kernel_rfl) (fun _ _ _ _ _ h => h) ⟨⟨n0, n1, n2, n3, n4⟩, ⟨q0, q1, q2, q3, q4⟩⟩ ?_
      intro HP
      repeat (first | (apply wpPlan_look; rfl; rfl; (intro wq hq; (try dsimp only at hq); go_split_ands; go_simp; (try rw [if_neg (by omega)]); (try rw [if_pos (by omega)]); try with_reducible rfl); simp only [Act.put, List.setIfInBounds_toArray, List.set_cons_zero, List.set_cons_succ]) | (apply wpPlan_skip; rfl; rfl; simp only [Act.put, List.setIfInBounds_toArray, List.set_cons_zero, List.set_cons_succ]) | (apply wpPlan_pass; rfl; rfl; assumption; simp only [Act.put, List.setIfInBounds_toArray, List.set_cons_zero, List.set_cons_succ]))
      apply wpPlan_call; rfl; rfl; rfl; rfl; kernel_rfl; exact HEQ.out; rfl; rintro E w5 ⟨⟨z, rfl, hz⟩, hb5⟩
      refine ⟨_, rfl, ⟨⟨cell_later hb5 n0, cell_later hb5 n1, cell_later hb5 n2, cell_later hb5 n3, cell_later hb5 n4⟩, ⟨cell_later hb5 q0, cell_later hb5 q1, cell_later hb5 q2, cell_later hb5 q3, cell_later hb5 q4⟩⟩, ?_⟩
      simp only [Act.put, List.setIfInBounds_toArray, List.set_cons_zero, List.set_cons_succ]
      repeat (first | (apply wpPlan_look; rfl; rfl; (intro wq hq; (try dsimp only at hq); go_split_ands; go_simp; (try rw [if_neg (by omega)]); (try rw [if_pos (by omega)]); try with_reducible rfl); simp only [Act.put, List.setIfInBounds_toArray, List.set_cons_zero, List.set_cons_succ]) | (apply wpPlan_skip; rfl; rfl; simp only [Act.put, List.setIfInBounds_toArray, List.set_cons_zero, List.set_cons_succ]) | (apply wpPlan_pass; rfl; rfl; assumption; simp only [Act.put, List.setIfInBounds_toArray, List.set_cons_zero, List.set_cons_succ]))
      apply wpPlan_done
      have HZ := Lib.hid hz
      have HB5 := Lib.hid (below_later hb5 HBD.out)
      clear hb5 hz HEQ HP n0 n1 n2 n3 n4 q0 q1 q2 q3 q4
      cases z with
      | false =>
        have HR := Lib.hid (LessRes.no (fun h : lessP L L' => by have := HZ.out.2 (h.2.2.1.2 k x y HXX.out HYY.out); cases this) (below_later HB5.out HB2.out))
        go_wp2_with fail
        go_ret
        exact HR.out
      | true =>
        have HK3 : Hid (∀ (i : Nat) a b, i < k + 1 → (bareL L)[i]? = some a → (bareL L')[i]? = some b → alikeM a b) := Lib.hid (fun i x' y' hi h1 h2 => by
          rcases Nat.lt_or_ge i k with h | h
          · exact HK.out i x' y' h h1 h2
          · obtain rfl : i = k := by omega
            rw [HXX.out] at h1
            rw [HYY.out] at h2
            obtain rfl := Option.some.inj h1
            obtain rfl := Option.some.inj h2
            exact HZ.out.1 rfl)
        clear HK
        go_wp2_with fail
        go_roundw
        case rel => exact ⟨k + 1, by omega, by go_num, HK3, HB5⟩
        case measure => simp [intOf]; omega
    · have HAA : Hid (alikeAll (bareL L) (bareL L')) := Lib.hid ⟨by rw [HK1.out, HK2.out, HLL.out], fun i a b h1 h2 => HK.out i a b (by have := (List.getElem?_eq_some_iff.1 h1).1; rw [HK1.out] at this; omega) h1 h2⟩
      have hsl := alike_slots HAA.out
      have hns := (fits_of H0.out).len
      have hn1 := (HX2.out).1
      have hn2 := (HY2.out).1
      obtain ⟨Bx, ex, ex1, hlx, hgx⟩ := own_form HX2.out
      obtain ⟨By, ey, ey1, hly, hgy⟩ := own_form HY2.out
      cases ex1
      cases ey1
      have HSL := Lib.hid hsl
      have HGX := Lib.hid hgx
      have HGY := Lib.hid hgy
      have hsl2 : (slots L').length = (slots L).length := by rw [hsl]
      have HB3 := Lib.hid HB.out
      have HN1 : Hid ((bareAt (slots L) (note L) (slots L).length).1 = (slots L).map fun s => known (note L s.pos)) := Lib.hid (by rw [bare_notes (slots_dist L) _ (Nat.le_refl _), List.take_length])
      have HN2 : Hid ((bareAt (slots L') (note L') (slots L').length).1 = (slots L').map fun s => known (note L' s.pos)) := Lib.hid (by rw [bare_notes (slots_dist L') _ (Nat.le_refl _), List.take_length])
      clear HK hsl hn1 hn2 hlx hly hgx hgy HB
      go_wp2_with fail
      obtain ⟨w0, hw0⟩ : ∃ w0, w0 = wr := ⟨_, rfl⟩
      rw [← hw0] at HB3 ⊢
      clear hw0
      go_loopw [56] (fun i wr => ∃ k : Nat, k ≤ (slots L).length ∧ i = .int .i64 k ∧ Hid (∀ (i : Nat) s s', i < k → (slots L)[i]? = some s → (slots L')[i]? = some s' → ∀ T T' : Ty, known (note L s.pos) = T.str → known (note L' s'.pos) = T'.str → prec T T' = true) ∧ Hid (Below w2.heap.size w2 wr)) (fun i _ => (slots L).length - (intOf i).toNat)
      case atStart => exact ⟨0, Nat.zero_le _, rfl, Lib.hid (fun i a b h => by omega), HB3⟩
      case round =>
        obtain ⟨k, hk, rfl, HK, HB⟩ := hrel
        by_cases hlt : k < (slots L).length
        · obtain ⟨g1, rfl, -, hc1⟩ := HGX.out (by omega)
          obtain ⟨g2, rfl, -, hc2⟩ := HGY.out (by omega)
          have hx : (slots L)[k]? = some (slots L)[k] := List.getElem?_eq_getElem hlt
          have hlt' : k < (slots L').length := by omega
          have hy : (slots L')[k]? = some (slots L')[k] := List.getElem?_eq_getElem hlt'
          generalize (slots L)[k] = s at *
          generalize (slots L')[k] = s' at *
          obtain ⟨T, hT, fT⟩ := known_at H0.out (List.mem_of_getElem? hx)
          obtain ⟨T', hT', fT'⟩ := known_at H0'.out (List.mem_of_getElem? hy)
          have n0 : wr.drew.cell? ⟨g1, k, none⟩ = some (.string T.str) := cell_later HB.out.drew (hc1 k _ (by rw [HN1.out, List.getElem?_map, List.getElem?_map, hx]; simp [hT]))
          have q0 : wr.drew.cell? ⟨g2, k, none⟩ = some (.string T'.str) := cell_later HB.out.drew (hc2 k _ (by rw [HN2.out, List.getElem?_map, List.getElem?_map, hy]; simp [hT']))
          have HXX := Lib.hid hx
          have HYY := Lib.hid hy
          have HT1 := Lib.hid hT
          have HT2 := Lib.hid hT'
          have HEQ := Lib.hid (Precise_any T T' fT fT' wr.drew)
          have HBD := Lib.hid HB.out.drew
          clear hc1 hc2 hx hy hT hT' HB
          go_wp2_with fail
          refine wp_region_plan (S := fun w' => w'.cell? ⟨g1, k, none⟩ = some (.string T.str) ∧ w'.cell? ⟨g2, k, none⟩ = some (.string T'.str)) [(0, true), (1, true), (2, true), (3, true), (4, true), (5, true), (6, true), (7, true), (8, false), (9, true)] (by kernel_rfl) (by kernel_rfl) (by kernel_rfl) (fun _ _ _ _ _ h => h) ⟨n0, q0⟩ ?_
          intro HP
          repeat (first | (apply wpPlan_look; rfl; rfl; (intro wq hq; (try dsimp only at hq); go_split_ands; go_simp; (try rw [if_neg (by omega)]); (try rw [if_pos (by omega)]); try with_reducible rfl); simp only [Act.put, List.setIfInBounds_toArray, List.set_cons_zero, List.set_cons_succ]) | (apply wpPlan_skip; rfl; rfl; simp only [Act.put, List.setIfInBounds_toArray, List.set_cons_zero, List.set_cons_succ]) | (apply wpPlan_pass; rfl; rfl; assumption; simp only [Act.put, List.setIfInBounds_toArray, List.set_cons_zero, List.set_cons_succ]))
          apply wpPlan_call; rfl; rfl; rfl; rfl; kernel_rfl; exact HEQ.out; rfl; rintro E w5 ⟨rfl, hb5⟩
          refine ⟨_, rfl, ⟨cell_later hb5 n0, cell_later hb5 q0⟩, ?_⟩
          simp only [Act.put, List.setIfInBounds_toArray, List.set_cons_zero, List.set_cons_succ]
          repeat (first | (apply wpPlan_look; rfl; rfl; (intro wq hq; (try dsimp only at hq); go_split_ands; go_simp; (try rw [if_neg (by omega)]); (try rw [if_pos (by omega)]); try with_reducible rfl); simp only [Act.put, List.setIfInBounds_toArray, List.set_cons_zero, List.set_cons_succ]) | (apply wpPlan_skip; rfl; rfl; simp only [Act.put, List.setIfInBounds_toArray, List.set_cons_zero, List.set_cons_succ]) | (apply wpPlan_pass; rfl; rfl; assumption; simp only [Act.put, List.setIfInBounds_toArray, List.set_cons_zero, List.set_cons_succ]))
          apply wpPlan_done
          have HB5 := Lib.hid (below_later hb5 HBD.out)
          obtain ⟨z, HZ⟩ : ∃ z, Hid (prec T T' = z) := ⟨_, Lib.hid rfl⟩
          rw [HZ.out]
          clear hb5 HEQ HP n0 q0
          cases z with
          | false =>
            have HR := Lib.hid (LessRes.no (fun h : lessP L L' => by have := h.2.2.2 k s s' HXX.out HYY.out T T' HT1.out HT2.out; rw [HZ.out] at this; cases this) (below_later HB5.out HB2.out))
            go_wp2_with fail
            go_ret
            exact HR.out
          | true =>
            have HK3 : Hid (∀ (i : Nat) s s', i < k + 1 → (slots L)[i]? = some s → (slots L')[i]? = some s' → ∀ T T' : Ty, known (note L s.pos) = T.str → known (note L' s'.pos) = T'.str → prec T T' = true) := Lib.hid (fun i x' y' hi h1 h2 U U' h3 h4 => by
              rcases Nat.lt_or_ge i k with h | h
              · exact HK.out i x' y' h h1 h2 U U' h3 h4
              · obtain rfl : i = k := by omega
                rw [HXX.out] at h1
                rw [HYY.out] at h2
                obtain rfl := Option.some.inj h1
                obtain rfl := Option.some.inj h2
                rw [HT1.out] at h3
                rw [HT2.out] at h4
                obtain rfl := str_inj h3
                obtain rfl := str_inj h4
                exact HZ.out)
            clear HK
            go_wp2_with fail
            go_roundw
            case rel => exact ⟨k + 1, by omega, by go_num, HK3, HB5⟩
            case measure => simp [intOf]; omega
        · have HR : Hid (lessP L L') := Lib.hid ⟨H0.out, H0'.out, HAA.out, fun i s s' h1 h2 => HK.out i s s' (by have := (List.getElem?_eq_some_iff.1 h1).1; omega) h1 h2⟩
          clear HK
          go_wp2_with fail
          go_ret
          exact ⟨⟨true, rfl, by simp only [true_iff]; exact HR.out⟩, below_later HB.out HB2.out⟩
end Go.Proofs.YtidholghbjljaaaGreatDoor

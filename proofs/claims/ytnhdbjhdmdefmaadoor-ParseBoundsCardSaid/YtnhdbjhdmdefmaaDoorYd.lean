
/- Walks of parse: modules, one behind the other. -/
import Derived.Test.YtnhdbjhdmdefmaaDoorYc
import Derived.Test.YtnhdbjhdmdefmaaDoorR4W
namespace Culp.Gr
set_option linter.unusedSimpArgs false
set_option linter.unusedVariables false
open Go Go.RowKit Culp Culp.Tr Go.Proofs.YtnhdbjhdmdefmaaDoor
/-- The cells of modules, their slices told. -/
def mcells : List Md → List (Value × Value × List Value) → List Value
  | m :: l, p :: ps => m.cells p.1 p.2.1 ++ mcells l ps
  | _, _ => []
theorem mcells_snoc (d : Md) (t : Value × Value × List Value) : ∀ (l : List Md) (ts : List (Value × Value × List Value)), ts.length = l.length → mcells (l ++ [d]) (ts ++ [t]) = mcells l ts ++ d.cells t.1 t.2.1
  | [], [], _ => by simp [mcells]
  | [], _ :: _, h => by simp at h
  | _ :: _, [], h => by simp at h
  | x :: l, y :: ts, h => by
    simp only [List.cons_append, mcells]
    rw [mcells_snoc d t l ts (by simpa using h), List.append_assoc]
theorem mcells_at : ∀ (l : List Md) (ts : List (Value × Value × List Value)) (i : Nat) (d : Md) (t : Value × Value × List Value) (j : Nat) (u : Value), l[i]? = some d → ts[i]? = some t → (d.cells t.1 t.2.1)[j]? = some u → (mcells l ts)[i * 5 + j]? = some u
  | [], _, i, d, t, j, u, h, _, _ => by simp at h
  | _ :: _, [], i, d, t, j, u, _, h, _ => by simp at h
  | x :: l, y :: ts, 0, d, t, j, u, h, h2, hu => by
    simp only [List.getElem?_cons_zero, Option.some.injEq] at h h2
    subst h h2
    have hj := (List.getElem?_eq_some_iff.1 hu).1
    rw [mcells, Nat.zero_mul, Nat.zero_add, List.getElem?_append_left hj]
    exact hu
  | x :: l, y :: ts, i + 1, d, t, j, u, h, h2, hu => by
    have h6 : (x.cells y.1 y.2.1).length = 5 := rfl
    rw [mcells, List.getElem?_append_right (by omega), h6, show (i + 1) * 5 + j - 5 = i * 5 + j by omega]
    exact mcells_at l ts i d t j u (by simpa using h) (by simpa using h2) hu
/-- All slices of a module. -/
def pvals (p : Value × Value × List Value) : List Value := p.1 :: p.2.1 :: p.2.2
/-- Modules in rows of one's own, no two in one block. -/
structure MdsO (H : Nat) (w : World) (v : Value) (l : List Md) (ps : List (Value × Value × List Value)) : Prop where
  row : w.ownsRow H 49 5 v l.length (mcells l ps)
  len : ps.length = l.length
  mds : ∀ (i : Nat) (md : Md) (p : Value × Value × List Value), l[i]? = some md → ps[i]? = some p → MdO H w md p.1 p.2.1 p.2.2
  nd : ((ps.flatMap pvals).filterMap Value.ownBlock).Nodup
section
variable {H K g n m base sz : Nat} {w w' w1 w2 : World} {v v' v2 t iv dv : Value} {l : List Md} {ps : List (Value × Value × List Value)} {ts : List Value} {ty : TypeId} {md : Md} {ys : List Value}
theorem MdO.lt (h : MdO H w md iv dv ts) : ∀ u ∈ pvals (iv, dv, ts), ∀ b, u.ownBlock = some b → b < w.heap.size ∧ H ≤ b := fun u hu b hb => by
  simp only [pvals, List.mem_cons] at hu
  rcases hu with rfl | rfl | hu
  · exact ⟨(h.imps.lt b hb).2, (own_has h.imps hb).2⟩
  · exact ⟨(h.defs.row.lt b hb).2, (own_has h.defs.row hb).2⟩
  · exact h.defs.lt u hu b hb
theorem MdO.nodup (h : MdO H w md iv dv ts) : ((pvals (iv, dv, ts)).filterMap Value.ownBlock).Nodup := by
  have key : ∀ b ∈ ts.filterMap Value.ownBlock, Has w b 42 := fun b hb => by
    obtain ⟨u, hu, hub⟩ := List.mem_filterMap.1 hb
    obtain ⟨i, hi⟩ := List.mem_iff_getElem?.1 hu
    have hil := (List.getElem?_eq_some_iff.1 hi).1
    exact (own_has (h.defs.nds i _ u (List.getElem?_eq_getElem (by have := h.defs.len; omega)) hi) hub).1
  have h2 : ((dv :: ts).filterMap Value.ownBlock).Nodup := by
    cases hd : dv.ownBlock with
    | none => rw [List.filterMap_cons_none hd]; exact h.defs.nd
    | some b =>
      rw [List.filterMap_cons_some hd, List.nodup_cons]
      exact ⟨fun hm => (own_has h.defs.row hd).1.ne (key b hm) (by decide) rfl, h.defs.nd⟩
  show ((iv :: dv :: ts).filterMap Value.ownBlock).Nodup
  cases hi : iv.ownBlock with
  | none => rw [List.filterMap_cons_none hi]; exact h2
  | some b =>
    rw [List.filterMap_cons_some hi, List.nodup_cons]
    refine ⟨fun hm => ?_, h2⟩
    cases hd : dv.ownBlock with
    | none =>
      rw [List.filterMap_cons_none hd] at hm
      exact (own_has h.imps hi).1.ne (key b hm) (by decide) rfl
    | some b2 =>
      rw [List.filterMap_cons_some hd, List.mem_cons] at hm
      rcases hm with e | hm
      · exact (own_has h.imps hi).1.ne (own_has h.defs.row hd).1 (by decide) e
      · exact (own_has h.imps hi).1.ne (key b hm) (by decide) rfl
theorem MdO.grown (h : MdO H w md iv dv ts) (hr : w.ownsRow base 49 sz v2 n ys) (hg : w.grownBy w1 v2.ownBlock) : MdO H w1 md iv dv ts := ⟨own_grownT h.imps hr hg (by decide), h.defs.grown hr hg (by decide) (by decide)⟩
theorem MdO.low (h : MdO H w md iv dv ts) (hk : K ≤ H) : MdO K w md iv dv ts := ⟨own_mono h.imps hk, h.defs.low hk⟩
theorem MdO.keep (h : MdO H w md iv dv ts) (k : Keep g w w1) (hb : Has w g ty) (h1 : ty ≠ 92) (h2 : ty ≠ 51) (h3 : ty ≠ 42) : MdO H w1 md iv dv ts := ⟨own_keepT h.imps k hb (fun e => h1 e.symm), h.defs.keep k (own_off h.defs.row hb (fun e => h2 e.symm)) hb h3⟩
theorem MdsO.nil : MdsO H w (.slice none 0 0) [] [] := ⟨World.ownsRow_nil _ _ _ _, rfl, fun i d t h => by simp at h, List.nodup_nil⟩
theorem MdsO.kt (h : MdsO H w v l ps) (k : KT w w1) : MdsO H w1 v l ps := ⟨k.own h.row (by decide) (by decide), h.len, fun i d t a b => (h.mds i d t a b).kt k, h.nd⟩
theorem MdsO.later (h : MdsO H w v l ps) (hb : Below w.heap.size w w1) : MdsO H w1 v l ps := h.kt (KT.below hb)
theorem MdsO.keep (h : MdsO H w v l ps) (k : Keep g w w1) (hb : Has w g ty) (h1 : ty ≠ 92) (h2 : ty ≠ 51) (h3 : ty ≠ 42) (h4 : ty ≠ 49) : MdsO H w1 v l ps := ⟨own_keepT h.row k hb (fun e => h4 e.symm), h.len, fun i d t a b => (h.mds i d t a b).keep k hb h1 h2 h3, h.nd⟩
theorem MdsO.lt (h : MdsO H w v l ps) : ∀ p ∈ ps, ∀ u ∈ pvals p, ∀ b, u.ownBlock = some b → b < w.heap.size ∧ H ≤ b := fun p hp u hu b hb => by
  obtain ⟨i, hi⟩ := List.mem_iff_getElem?.1 hp
  have hil := (List.getElem?_eq_some_iff.1 hi).1
  exact (h.mds i _ p (List.getElem?_eq_getElem (by have := h.len; omega)) hi).lt u hu b hb
theorem MdsO.add (h : MdsO H w v l ps) (hm : MdO K w md iv dv ts) (hK : H ≤ K) (hfr : ∀ p ∈ ps, ∀ u ∈ pvals p, ∀ b, u.ownBlock = some b → b < K) (ho : w2.ownsRow H 49 5 v' (l.length + 1) (mcells l ps ++ md.cells iv dv)) (hg : w.grownBy w2 v.ownBlock) : MdsO H w2 v' (l ++ [md]) (ps ++ [(iv, dv, ts)]) := by
  refine ⟨?_, ?_, fun i d' t' hd ht' => ?_, ?_⟩
  · rw [mcells_snoc md (iv, dv, ts) l ps h.len, List.length_append]; exact ho
  · simp [h.len]
  · by_cases hi : i < l.length
    · rw [List.getElem?_append_left hi] at hd
      rw [List.getElem?_append_left (by rw [h.len]; exact hi)] at ht'
      exact (h.mds i d' t' hd ht').grown h.row hg
    · have hlt := (List.getElem?_eq_some_iff.1 hd).1
      rw [List.length_append, List.length_singleton] at hlt
      obtain rfl : i = l.length := by omega
      rw [List.getElem?_append_right (Nat.le_refl _), Nat.sub_self] at hd
      rw [List.getElem?_append_right (by rw [h.len]; exact Nat.le_refl _), h.len, Nat.sub_self] at ht'
      simp only [List.getElem?_cons_zero, Option.some.injEq] at hd ht'
      subst hd ht'
      exact (hm.grown h.row hg).low hK
  · rw [List.flatMap_append, List.filterMap_append, List.nodup_append]
    refine ⟨h.nd, ?_, fun a ha b hb e => ?_⟩
    · rw [List.flatMap_cons, List.flatMap_nil, List.append_nil]; exact hm.nodup
    · subst e
      obtain ⟨u, hu, hub⟩ := List.mem_filterMap.1 ha
      obtain ⟨p, hp, hu⟩ := List.mem_flatMap.1 hu
      obtain ⟨u', hu', hub'⟩ := List.mem_filterMap.1 hb
      rw [List.flatMap_cons, List.flatMap_nil, List.append_nil] at hu'
      have h1 := hfr p hp u hu a hub
      have h2 := (hm.lt u' hu' a hub').2
      omega
end
/-- Modules that were read. -/
def MdsR (c : Nat) (w : World) (u : Value) (l : List Md) : Prop := ∃ b ps, c < b ∧ MdsO b w u l ps
theorem MdsR.later {c : Nat} {w w' : World} {u : Value} {l : List Md} (h : MdsR c w u l) (hb : Below w.heap.size w w') : MdsR c w' u l := by
  obtain ⟨b, ps, h1, h2⟩ := h
  exact ⟨b, ps, h1, h2.later hb⟩
section
variable {pb B i k g c n base sz : Nat} {L : List Tok} {tv lv v : Value} {e : Nat × Nat} {lg : List Nat} {w w1 w2 : World} {ty : TypeId} {xs : List Value}
theorem PS.keep1 (h : PS pb B L tv e i lg lv w) (k : Keep g w w1) (hb : Has w g ty) (h1 : ty ≠ 64) (h2 : ty ≠ 25) (h3 : ty ≠ 60) : PS pb B L tv e i lg lv w1 := { h with
  blk := (k.block pb h.blk.lt ((blkHas h.blk).ne hb (fun e => h1 e.symm))).trans h.blk
  toks := own_keepT h.toks k hb (fun e => h3 e.symm)
  lrow := own_keepT h.lrow k hb (fun e => h2 e.symm) }
theorem PS.grown (h : PS pb B L tv e i lg lv w) (hr : w.ownsRow base ty sz v n xs) (hg : w.grownBy w1 v.ownBlock) (h1 : ty ≠ 64) (h2 : ty ≠ 25) (h3 : ty ≠ 60) : PS pb B L tv e i lg lv w1 := by
  cases hv : v.ownBlock with
  | none => rw [hv] at hg; exact h.later (grown_below hg)
  | some g => rw [hv] at hg; exact h.keep1 (grown_keep hg) (own_has hr hv).1 h1 h2 h3
/-- The places' row is none, or one's own. -/
def NewV (v : Value) (w : World) : Prop := v.ownBlock = none ∨ ∃ b, v.ownBlock = some b ∧ w.heap.size ≤ b
theorem keepN_mix (h : KeepN pb (some c) w w1) (k : KeepN pb lv.ownBlock w1 w2) (hl : NewV lv w) : KeepN pb (some c) w w2 := ⟨k.os.trans h.os, k.tape.trans h.tape, k.output.trans h.output, Nat.le_trans h.size k.size, fun b hb h1 h2 => by
  refine (k.block b (Nat.lt_of_lt_of_le hb h.size) h1 (fun e => ?_)).trans (h.block b hb h1 h2)
  rcases hl with hl | ⟨b', hb', hs⟩
  · rw [hl] at e; cases e
  · rw [hb'] at e
    injection e with e
    omega⟩
theorem keepN_own (h : KeepN pb (some c) w w1) (hr : w1.ownsRow base ty sz v n xs) (hb : w.heap.size ≤ base) (hg : w1.grownBy w2 v.ownBlock) : KeepN pb (some c) w w2 := ⟨hg.os.trans h.os, hg.tape.trans h.tape, hg.output.trans h.output, Nat.le_trans h.size hg.size, fun b hb' h1 h2 => by
  refine (hg.block b (Nat.lt_of_lt_of_le hb' h.size) (fun e => ?_)).trans (h.block b hb' h1 h2)
  have := (own_has hr e.symm).2
  omega⟩
theorem keepN_set (h : KeepN pb (some c) w w1) (u : Value) : KeepN pb (some c) w (w1.setCell ⟨c, 0, none⟩ u) := ⟨h.os, h.tape, h.output, by rw [World.size_setCell]; exact h.size, fun b hb h1 h2 => by
  rw [Below.heap_setCell _ _ _ _ (by intro e; exact h2 (by rw [e]))]
  exact h.block b hb h1 h2⟩
theorem mods_more {acc : List Md} (h : i < L.length) : mods L (n + 1) i lg acc = bnd (module L i lg) fun r => mods L n r.2.1 r.2.2 (acc ++ [r.1]) := by
  rw [mods, if_pos h]
theorem mods_end {acc : List Md} (h : ¬ i < L.length) : mods L (n + 1) i lg acc = .ok (acc, i, lg) := by
  rw [mods, if_neg h]
end
end Culp.Gr
namespace Go.Proofs.YtnhdbjhdmdefmaaDoor
set_option linter.unusedSimpArgs false
set_option linter.unusedVariables false
open Go.RowKit Culp Culp.Tr Culp.Gr
theorem build_mod (w : World) (s : ByteArray) (a b : Value) (x y : Int) (ha : a.oneCell' = true) (hb : b.oneCell' = true) : (Instr.buildSlice 32 1 #[(0, .agg #[.string s, a, b, .int .i64 x, .int .i64 y])]).run Tryd.prog w = .ok (.slice (some ⟨w.heap.size, 0, none⟩) 1 1) (w.alloc (.cells #[.string s, a, b, .int .i64 x, .int .i64 y] 49)) := by
  simp [go_sem, Instr.buildSlice, run_underlying Tryd.underlying32]
theorem md_infop : (Tryd.prog.info? 49).map (fun i => (i.zero, i.size, i.bytes)) = some (some (.agg #[.string ByteArray.empty, .slice none 0 0, .slice none 0 0, .int .i64 0, .int .i64 0]), 5, 80) := by kernel_rfl
set_option maxRecDepth 100000 in
set_option maxHeartbeats 3200000 in
theorem mods_clo (c : Nat) : CloC 19 32 (MdsR c) (fun L => mods L (L.length + 1) 0 [] []) c (.slice none 0 0) := by
  intro pb B L tv e w h hcp hcB hc
  have hcl := hc.lt
  have hsm := h.small
  have HTO : Hid (tv.ownBlock ≠ some c) := Lib.hid fun he => by have := (h.toks.lt c he).1; omega
  have HPS := Lib.hid h
  have HC := Lib.hid hc
  have HKN : Hid (KeepN pb (some c) w w) := Lib.hid (KeepN.refl _ _ _)
  have HM : Hid (MdsO w.heap.size w (.slice none 0 0) [] []) := Lib.hid MdsO.nil
  clear h hc
  go_enter Tryd.func19, Tryd.ntmps19
  go_wp2_with fail
  go_loopg [] (L.length + 1) (fun g wx => ∃ (n k : Nat) (lg : List Nat) (l : List Md) (ps : List (Value × Value × List Value)) (u lv : Value), n = g ∧ k ≤ L.length ∧ L.length < k + n ∧ l.length ≤ k ∧ Hid (PS pb B L tv e k lg lv wx) ∧ Hid (NewV lv w) ∧ Hid (KeepN pb (some c) w wx) ∧ Hid (Blk c #[u] 32 wx) ∧ Hid (MdsO w.heap.size wx u l ps) ∧ Hid (mods L (L.length + 1) 0 [] [] = mods L n k lg l))
  case atStart => exact ⟨L.length + 1, 0, [], [], [], _, _, rfl, Nat.zero_le _, by omega, Nat.zero_le _, HPS, Lib.hid (.inl rfl), HKN, HC, HM, Lib.hid rfl⟩
  case round =>
    clear HPS HC HKN HM
    obtain ⟨n, k, lg, l, ps, u, lv, rfl, hk, hn, hl, HPS, HNV, HKN, HC, HM, HSP⟩ := hrel
    obtain ⟨n, rfl⟩ : ∃ m, n = m + 1 := ⟨n - 1, by omega⟩
    obtain ⟨At, ct, rfl⟩ := own_shape HPS.out.toks
    obtain ⟨Au, cu, rfl⟩ := own_shape HM.out.row
    have p0 := HPS.out.blk.cell (i := 0) rfl
    have p1 := HPS.out.blk.cell (i := 1) rfl
    have hqe : decide ((k : Int) < (L.length : Int)) = decide (k < L.length) := by rw [decide_eq_decide]; omega
    go_wp2_with fail
    refine wp_region_plan (S := fun w' => w'.cell? ⟨pb, 0, none⟩ = some (.slice At L.length ct) ∧ w'.cell? ⟨pb, 1, none⟩ = some (.int .i64 k)) [(0, true), (1, true), (2, true), (3, true), (4, true), (5, true), (6, true), (7, true), (8, true), (9, true)] (by kernel_rfl) (by kernel_rfl) (by kernel_rfl) (fun _ _ _ _ _ h => h) ⟨p0, p1⟩ ?_
    intro HSt
    repeat (first | (apply wpPlan_look; rfl; rfl; (intro wq hq; (try dsimp only at hq); go_split_ands; go_simp; (try rw [if_neg (by omega)]); (try rw [if_pos (by omega)]); try with_reducible rfl); simp only [Act.put, List.setIfInBounds_toArray, List.set_cons_zero, List.set_cons_succ]) | (apply wpPlan_skip; rfl; rfl; simp only [Act.put, List.setIfInBounds_toArray, List.set_cons_zero, List.set_cons_succ]) | (apply wpPlan_pass; rfl; rfl; assumption; simp only [Act.put, List.setIfInBounds_toArray, List.set_cons_zero, List.set_cons_succ]))
    apply wpPlan_done
    clear HSt p0 p1 hqe
    have hbd : Below wr.heap.size wr wr.drew := (Below.refl _ _).drew
    have HPS1 := Lib.hid (HPS.out.later hbd)
    have HKN1 : Hid (KeepN pb (some c) w wr.drew) := Lib.hid (HKN.out.trans (KeepN.of pb (some c) hbd) (.inl rfl))
    have HC1 := Lib.hid (HC.out.later hbd)
    have HM1 := Lib.hid (HM.out.later hbd)
    clear HPS HKN HC HM hbd
    generalize wr.drew = w1 at *
    by_cases hkl : k < L.length
    · have HSP1 := Lib.hid (HSP.out.trans (mods_more hkl))
      have c0 := HC1.out.cell (i := 0) rfl
      clear HSP
      go_wp2_with fail
      refine wp_region_last (S := fun w' => w'.cell? ⟨c, 0, none⟩ = some (.slice Au l.length cu)) 5 [(0, true), (1, true), (2, false), (3, false), (4, false)] (by kernel_rfl) (by kernel_rfl) (by kernel_rfl) (fun _ _ _ _ _ h => h) c0 ?_
      intro HSt
      repeat (first | (apply wpPlan_look; rfl; rfl; (intro wq hq; (try dsimp only at hq); go_split_ands; go_simp; (try rw [if_neg (by omega)]); (try rw [if_pos (by omega)]); try with_reducible rfl); simp only [Act.put, List.setIfInBounds_toArray, List.set_cons_zero, List.set_cons_succ]) | (apply wpPlan_skip; rfl; rfl; simp only [Act.put, List.setIfInBounds_toArray, List.set_cons_zero, List.set_cons_succ]) | (apply wpPlan_pass; rfl; rfl; assumption; simp only [Act.put, List.setIfInBounds_toArray, List.set_cons_zero, List.set_cons_succ]))
      clear HSt
      have hbd : Below w1.heap.size w1 w1.drew := (Below.refl _ _).drew
      have HPS2 := Lib.hid (HPS1.out.later hbd)
      have HKN2 : Hid (KeepN pb (some c) w w1.drew) := Lib.hid (HKN1.out.trans (KeepN.of pb (some c) hbd) (.inl rfl))
      have HC2 := Lib.hid (HC1.out.later hbd)
      have HM2 := Lib.hid (HM1.out.later hbd)
      clear HPS1 HKN1 HC1 HM1 hbd c0
      generalize w1.drew = w2 at *
      (apply wpPlan_callS; rfl; rfl; rfl; rfl; kernel_rfl; exact module_any HPS2.out; rfl; rintro E w3 hr)
      cases hs : module L k lg with
      | error jj =>
        rw [hs] at hr
        obtain ⟨rfl, hkn⟩ := hr
        refine .inr ⟨_, rfl, rfl, ?_⟩
        rw [HSP1.out, hs]
        exact ⟨rfl, keepN_mix HKN2.out hkn HNV.out⟩
      | ok r =>
        rw [hs] at hr
        obtain ⟨md, k2, lg2⟩ := r
        obtain ⟨v, rfl, ⟨iv, dv, ts, hv, hmd⟩, lv2, hkn, hps, hl2⟩ := hr
        obtain rfl : v = .agg #[.string md.name, iv, dv, .int .i64 md.line, .int .i64 md.col] := hv
        have hb := module_bound hs
        simp only at hb
        have hszw : w.heap.size ≤ w2.heap.size := HKN2.out.size
        have hpl : lv.ownBlock ≠ some c := fun e => by
          rcases HNV.out with h | ⟨b, h, hs⟩
          · rw [h] at e; cases e
          · rw [h] at e; injection e with e; omega
        have hc3 : Blk c #[.slice Au l.length cu] 32 w3 := keepN_blk hkn HC2.out (by omega) hpl
        have hm3 := HM2.out.kt (HPS2.out.kt hkn)
        have hnv : NewV lv2 w := by
          rcases hl2 with h | ⟨b, h, hs⟩
          · rcases HNV.out with h' | ⟨b, h', hs⟩
            · exact .inl (h.trans h')
            · exact .inr ⟨b, h.trans h', hs⟩
          · exact .inr ⟨b, h, Nat.le_trans hszw hs⟩
        have hkn3 := keepN_mix HKN2.out hkn HNV.out
        have hfr : ∀ p ∈ ps, ∀ u ∈ pvals p, ∀ b, u.ownBlock = some b → b < w2.heap.size := fun p hp u hu b hb => (HM2.out.lt p hp u hu b hb).1
        obtain ⟨Ai, ci, rfl⟩ := own_shape hmd.imps
        obtain ⟨Ad, cd, rfl⟩ := own_shape hmd.defs.row
        have hba : Below w3.heap.size w3 (w3.alloc (.cells #[.string md.name, .slice Ai md.imps.length ci, .slice Ad md.defs.length cd, .int .i64 md.line, .int .i64 md.col] 49)) := (Below.refl _ _).alloc (Nat.le_refl _) _
        have hm4 := hm3.later hba
        have hmd4 := hmd.kt (KT.below hba)
        have hc4 := hc3.later hba
        have hps4 := hps.later hba
        have hkn4 : KeepN pb (some c) w (w3.alloc (.cells #[.string md.name, .slice Ai md.imps.length ci, .slice Ad md.defs.length cd, .int .i64 md.line, .int .i64 md.col] 49)) := hkn3.trans (KeepN.of pb (some c) hba) (.inl rfl)
        have c3 := hc3.cell (i := 0) rfl
        have c4 := hc4.cell (i := 0) rfl
        obtain ⟨zi, e1, e2, e3, e4⟩ := info_parts md_infop
        obtain ⟨v', w5, hrun, hown, hg, -⟩ := run_append_own (P := Tryd.prog) (w := w3.alloc (.cells #[.string md.name, .slice Ai md.imps.length ci, .slice Ad md.defs.length cd, .int .i64 md.line, .int .i64 md.col] 49)) w.heap.size 32 32 49 zi _ 5 80 Tryd.underlying32 e1 e2 e3 e4 rfl (by decide) _ _ _ hm4.row ⟨w3.heap.size, 0, none⟩ 1 1 (md.cells (.slice Ai md.imps.length ci) (.slice Ad md.defs.length cd)) rfl (fun j u hj => by
          have hj5 : j < 5 := (List.getElem?_eq_some_iff.1 hj).1
          have hbk := Blk.alloc w3 #[.string md.name, .slice Ai md.imps.length ci, .slice Ad md.defs.length cd, .int .i64 md.line, .int .i64 md.col] 49
          have ea : (⟨w3.heap.size, 0, none⟩ : Addr).add j = ⟨w3.heap.size, j, none⟩ := by
            unfold Addr.add
            split
            · rename_i h0; subst h0; rfl
            · simp
          rw [ea]
          exact hbk.cell (by simpa [Md.cells] using hj)) (fun u hu => by
            simp only [Md.cells, List.mem_cons, List.not_mem_nil, or_false] at hu
            rcases hu with rfl | rfl | rfl | rfl | rfl <;> rfl) (by unfold maxLen; omega) (by omega) (by rw [World.size_alloc]; have := hkn3.size; omega)
        obtain ⟨A5, k5, rfl⟩ := own_shape hown
        have hm5 := hm4.add hmd4 (by omega) hfr hown hg
        have hc5 := blk_grownT hc4 hm4.row hg (own_off hm4.row (blkHas hc4) (by decide))
        have hps5 := hps4.grown hm4.row hg (by decide) (by decide) (by decide)
        have hkn5 := keepN_own hkn4 hm4.row (Nat.le_refl _) hg
        have c5 := hc5.cell (i := 0) rfl
        have f5 := hc5.free 0
        have hke : Keep c w5 (w5.setCell ⟨c, 0, none⟩ (.slice A5 (l.length + 1) k5)) := (Keep.refl _ _).setCell _ _
        have HM6 := Lib.hid (hm5.keep hke (blkHas hc5) (by decide) (by decide) (by decide) (by decide))
        have HC6 : Hid (Blk c #[.slice A5 (l.length + 1) k5] 32 (w5.setCell ⟨c, 0, none⟩ (.slice A5 (l.length + 1) k5))) := Lib.hid (blk_set hc5 0 (.slice A5 (l.length + 1) k5))
        have HPS6 := Lib.hid (hps5.keep1 hke (blkHas hc5) (by decide) (by decide) (by decide))
        have HKN6 := Lib.hid (keepN_set hkn5 (.slice A5 (l.length + 1) k5))
        have HNV6 := Lib.hid hnv
        have HSP6 : Hid (mods L (L.length + 1) 0 [] [] = mods L n k2 lg2 (l ++ [md])) := Lib.hid (by rw [HSP1.out, hs, bnd_ok])
        have HRUN := Lib.hid hrun
        clear hm3 hm4 hm5 hmd hmd4 hps hps4 hps5 hkn hkn3 hkn4 hkn5 hc3 hc4 hc5 hke hown hg hnv hfr hba hs HSP1 HM2 HC2 HKN2 HPS2 hl2 HNV hrun e1 e2 e3 e4
        refine .inl ⟨_, rfl, _, fun _ h => h, c3, ?_⟩
        simp only [Act.put, List.setIfInBounds_toArray, List.set_cons_zero, List.set_cons_succ]
        repeat (first | (apply wpPlan_look; rfl; rfl; (intro wq hq; (try dsimp only at hq); go_split_ands; go_simp; (try rw [if_neg (by omega)]); (try rw [if_pos (by omega)]); try with_reducible rfl); simp only [Act.put, List.setIfInBounds_toArray, List.set_cons_zero, List.set_cons_succ]) | (apply wpPlan_skip; rfl; rfl; simp only [Act.put, List.setIfInBounds_toArray, List.set_cons_zero, List.set_cons_succ]) | (apply wpPlan_pass; rfl; rfl; assumption; simp only [Act.put, List.setIfInBounds_toArray, List.set_cons_zero, List.set_cons_succ]))
        refine wpPlan_run rfl rfl (by simp [execOp, go_sem, build_mod w3 md.name (.slice Ai md.imps.length ci) (.slice Ad md.defs.length cd) md.line md.col rfl rfl] <;> (first | exact ⟨rfl, rfl⟩ | rfl)) _ (fun _ h => h) c4 ?_
        simp only [Act.put, List.setIfInBounds_toArray, List.set_cons_zero, List.set_cons_succ]
        repeat (first | (apply wpPlan_look; rfl; rfl; (intro wq hq; (try dsimp only at hq); go_split_ands; go_simp; (try rw [if_neg (by omega)]); (try rw [if_pos (by omega)]); try with_reducible rfl); simp only [Act.put, List.setIfInBounds_toArray, List.set_cons_zero, List.set_cons_succ]) | (apply wpPlan_skip; rfl; rfl; simp only [Act.put, List.setIfInBounds_toArray, List.set_cons_zero, List.set_cons_succ]) | (apply wpPlan_pass; rfl; rfl; assumption; simp only [Act.put, List.setIfInBounds_toArray, List.set_cons_zero, List.set_cons_succ]))
        refine wpPlan_run rfl rfl (exec_append rfl rfl rfl rfl HRUN.out) _ (fun _ h => h) c5 ?_
        simp only [Act.put, List.setIfInBounds_toArray, List.set_cons_zero, List.set_cons_succ]
        repeat (first | (apply wpPlan_look; rfl; rfl; (intro wq hq; (try dsimp only at hq); go_split_ands; go_simp; (try rw [if_neg (by omega)]); (try rw [if_pos (by omega)]); try with_reducible rfl); simp only [Act.put, List.setIfInBounds_toArray, List.set_cons_zero, List.set_cons_succ]) | (apply wpPlan_skip; rfl; rfl; simp only [Act.put, List.setIfInBounds_toArray, List.set_cons_zero, List.set_cons_succ]) | (apply wpPlan_pass; rfl; rfl; assumption; simp only [Act.put, List.setIfInBounds_toArray, List.set_cons_zero, List.set_cons_succ]))
        refine wpPlan_last_run0 (w' := w5.setCell ⟨c, 0, none⟩ (.slice A5 (l.length + 1) k5)) rfl rfl (by simp [execOp, go_sem, c5, f5]) ?_
        clear c3 c4 c5 f5 HRUN
        generalize w5.setCell ⟨c, 0, none⟩ (.slice A5 (l.length + 1) k5) = w6 at *
        go_wp2_with fail
        go_roundg n
        case rel => exact ⟨n, k2, lg2, _, _, _, _, rfl, by omega, by omega, by rw [List.length_append, List.length_singleton]; omega, HPS6, HNV6, HKN6, HC6, HM6, HSP6⟩
        case measure => omega
    · have HR : Hid (CloRes (MdsR c) (mods L (L.length + 1) 0 [] []) 32 pb B L (.slice At L.length ct) e c w (.returned (.tuple #[])) w1) := Lib.hid (by
        rw [HSP.out, mods_end hkl]
        exact ⟨rfl, _, lv, ⟨_, ps, hcl, HM1.out⟩, HC1.out, HPS1.out, HKN1.out⟩)
      clear HSP HM1 HC1 HPS1 HKN1
      go_wp2_with fail
      exact bodyPost_end (v := .tuple #[]) (by simp [results, Tryd.results19, go_sem]) rfl HR.out
end Go.Proofs.YtnhdbjhdmdefmaaDoor

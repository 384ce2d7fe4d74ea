
/- Walks of bags: one more list of texts; do the lists that were gathered lie apart? -/
import Derived.Test.YtebameiaeldfiaaGreatDoorHd
import Derived.Test.YtebameiaeldfiaaGreatDoorFq
import Derived.Test.YtebameiaeldfiaaGreatDoorGg
import Derived.Test.YtebameiaeldfiaaGreatDoorTrS
namespace Go.Proofs.YtebameiaeldfiaaGreatDoor
set_option linter.unusedSimpArgs false
set_option linter.unusedVariables false
open Go.RowKit Go.Maps Culp

theorem keepN_put {a : Nat} {o : Option Nat} {w w5 : World} (hg : w.grownBy w5 o) (i : Nat) (u : Value) : KeepN a o w (w5.setCell ⟨a, i, none⟩ u) := by
  have hk : Keep a w5 (w5.setCell ⟨a, i, none⟩ u) := (Keep.refl a w5).setCell i u
  exact ⟨hk.os.trans hg.os, hk.tape.trans hg.tape, hk.output.trans hg.output, Nat.le_trans hg.size hk.size, fun k h1 h2 h3 => (hk.block k (Nat.lt_of_lt_of_le h1 hg.size) h2).trans (hg.block k h1 (fun e => h3 e.symm))⟩
theorem BagIs.free {gb : Nat} {cs : Array Value} {w : World} (h : BagIs gb cs w) (j : Nat) : w.frozen? ⟨gb, j, none⟩ = false := by
  unfold BagIs at h
  simp [World.frozen?, h]
theorem BagIs.put {gb : Nat} {cs : Array Value} {w : World} (h : BagIs gb cs w) (j : Nat) (u : Value) : BagIs gb (cs.setIfInBounds j u) (w.setCell ⟨gb, j, none⟩ u) := by
  unfold BagIs at h ⊢
  simp [World.setCell, Array.getElem?_modify, h]
/-- A bag that holds rows that lie apart, wherever they were made. -/
structure Full2 (e se : TypeId) (K g B : Nat) (R : List Value) (L : Nat → Nat) (bv : Value) (cs : Array Value) (w : World) : Prop where
  bagis : BagIs g cs w
  size : cs.size = 18
  at_ : cs[K]? = some bv
  none_ : ∀ j, j < 18 → j ≠ K → cs[j]? = some (.slice none 0 0)
  le : B ≤ w.heap.size
  bag : w.ownsRow B se 1 bv R.length R
  rows : ∀ n v, R[n]? = some v → ∃ xs, w.ownsRow B e 1 v (L n) xs
  apart : ∀ (i j : Nat) (u v : Value), i ≠ j → R[i]? = some u → R[j]? = some v → Culp.Apart u v
section
variable {e se : TypeId} {K g B : Nat} {R : List Value} {L : Nat → Nat} {bv bv' v : Value} {cs : Array Value} {w w' : World} {xs : List Value}
theorem Full2.start (hK : K < 18) (hB : B ≤ w.heap.size) : Full2 e se K w.heap.size B [] L (.slice none 0 0) #[.slice none 0 0, .slice none 0 0, .slice none 0 0, .slice none 0 0, .slice none 0 0, .slice none 0 0, .slice none 0 0, .slice none 0 0, .slice none 0 0, .slice none 0 0, .slice none 0 0, .slice none 0 0, .slice none 0 0, .slice none 0 0, .slice none 0 0, .slice none 0 0, .slice none 0 0, .slice none 0 0] (w.alloc (.cells #[.slice none 0 0, .slice none 0 0, .slice none 0 0, .slice none 0 0, .slice none 0 0, .slice none 0 0, .slice none 0 0, .slice none 0 0, .slice none 0 0, .slice none 0 0, .slice none 0 0, .slice none 0 0, .slice none 0 0, .slice none 0 0, .slice none 0 0, .slice none 0 0, .slice none 0 0, .slice none 0 0] 47)) where
  bagis := (MapKept.heap_alloc w _).1
  size := rfl
  at_ := by
    show ((List.replicate 18 (Value.slice none 0 0)).toArray)[K]? = _
    rw [List.getElem?_toArray, List.getElem?_replicate, if_pos hK]
  none_ := fun j hj _ => by
    show ((List.replicate 18 (Value.slice none 0 0)).toArray)[j]? = _
    rw [List.getElem?_toArray, List.getElem?_replicate, if_pos hj]
  le := by simp; omega
  bag := World.ownsRow_nil _ _ _ _
  rows := fun n v hv => by simp at hv
  apart := fun i j u v _ hu => by simp at hu
theorem Full2.later (h : Full2 e se K g B R L bv cs w) (hb : Below w.heap.size w w') : Full2 e se K g B R L bv cs w' :=
  { h with
    bagis := h.bagis.later hb
    le := Nat.le_trans h.le hb.size
    bag := own_later h.bag hb
    rows := fun n v hv => by
      obtain ⟨xs, hx⟩ := h.rows n v hv
      exact ⟨xs, own_later hx hb⟩ }
theorem Full2.add (h : Full2 e se K g B R L bv cs w) (hne : e ≠ se) (he : e ≠ 47) (hs : se ≠ 47) (hK : K < 18) (hv : w.ownsRow B e 1 v (L R.length) xs) (hA : ∀ u ∈ R, Culp.Apart v u)
    (ho : w'.ownsRow B se 1 bv' (R.length + 1) (R ++ [v])) (hg : w.grownBy w' bv.ownBlock) (hb : Below B w w') :
    Full2 e se K g B (R ++ [v]) L bv' (cs.setIfInBounds K bv') (w'.setCell ⟨g, K, none⟩ bv') := by
  have hk : Keep g w' (w'.setCell ⟨g, K, none⟩ bv') := (Keep.refl g w').setCell K bv'
  have hbi : BagIs g cs w' := h.bagis.grown hg (h.bagis.ne h.bag hs)
  have hst : ∀ {X : Value} {n : Nat} {ys : List Value}, w.ownsRow B e 1 X n ys → (w'.setCell ⟨g, K, none⟩ bv').ownsRow B e 1 X n ys := by
    intro X n ys hX
    have h1 := own_other hX hg (own_apart_type h.bag hX (fun he => hne he.symm))
    exact own_apart_keep h1 hk (hbi.ne h1 he)
  have hKc : K < cs.size := by rw [h.size]; exact hK
  refine
    { bagis := hbi.put K bv'
      size := by simpa using h.size
      at_ := by rw [Array.getElem?_setIfInBounds_self_of_lt hKc]
      none_ := fun j hj hn => by
        rw [Array.getElem?_setIfInBounds_ne (fun he => hn he.symm)]
        exact h.none_ j hj hn
      le := by have := hb.size; have := hk.size; have := h.le; omega
      bag := by
        rw [List.length_append, List.length_singleton]
        exact own_apart_keep ho hk (hbi.ne ho hs)
      rows := fun n u hu => ?_
      apart := fun i j u x hij hu hx => ?_ }
  · by_cases hn : n < R.length
    · rw [List.getElem?_append_left hn] at hu
      obtain ⟨ys, hy⟩ := h.rows n u hu
      exact ⟨ys, hst hy⟩
    · have hn2 := (List.getElem?_eq_some_iff.1 hu).1
      rw [List.length_append, List.length_singleton] at hn2
      obtain rfl : n = R.length := by omega
      rw [List.getElem?_append_right (Nat.le_refl _), Nat.sub_self] at hu
      simp at hu
      subst hu
      exact ⟨xs, hst hv⟩
  · have key : ∀ n y, (R ++ [v])[n]? = some y → (n < R.length ∧ R[n]? = some y) ∨ (n = R.length ∧ y = v) := by
      intro n y hy
      by_cases hn : n < R.length
      · rw [List.getElem?_append_left hn] at hy
        exact .inl ⟨hn, hy⟩
      · have hn2 := (List.getElem?_eq_some_iff.1 hy).1
        rw [List.length_append, List.length_singleton] at hn2
        obtain rfl : n = R.length := by omega
        rw [List.getElem?_append_right (Nat.le_refl _), Nat.sub_self] at hy
        simp at hy
        exact .inr ⟨rfl, hy.symm⟩
    rcases key i u hu with ⟨hi, hu'⟩ | ⟨rfl, rfl⟩
    · rcases key j x hx with ⟨hj, hx'⟩ | ⟨rfl, rfl⟩
      · exact h.apart i j u x hij hu' hx'
      · exact (hA u (List.mem_of_getElem? hu')).symm
    · rcases key j x hx with ⟨hj, hx'⟩ | ⟨rfl, rfl⟩
      · exact hA x (List.mem_of_getElem? hx')
      · exact absurd rfl hij
end
set_option maxRecDepth 100000 in
set_option maxHeartbeats 1600000 in
theorem ApartTexts_any (gb B : Nat) (R : List Value) (L : Nat → Nat) (bv : Value) (cs : Array Value) (w : World) (h : Full2 9 25 4 gb B R L bv cs w) (hM : R.length ≤ 300) (hL : ∀ n, L n ≤ 1000000) (hP : Pw w) (hpB : 2 < B) :
    Calls Tryz.prog 11 #[.pointer (some ⟨gb, 0, none⟩)] w (fun e w' => e = .returned (.bool true) ∧ Below B w w') := by
  have HL := Lib.hid hL
  have HF := Lib.hid h
  have HA := Lib.hid (apartTexts_any gb B R L bv w cs h.bagis h.at_ h.le h.bag h.rows h.apart hM hL hP hpB)
  clear h hL hP hpB
  go_enter Tryz.func11, Tryz.ntmps11
  go_wp2_with fail
  refine (apartBytes_none gb _ (HF.out.bagis.cell (HF.out.none_ 0 (by decide) (by decide)))).mono ?_
  rintro e w' ⟨rfl, rfl⟩
  go_wp2_with fail
  refine (apartInts_none gb _ (HF.out.bagis.cell (HF.out.none_ 1 (by decide) (by decide)))).mono ?_
  rintro e w' ⟨rfl, rfl⟩
  go_wp2_with fail
  refine (apartLongs_none gb _ (HF.out.bagis.cell (HF.out.none_ 2 (by decide) (by decide)))).mono ?_
  rintro e w' ⟨rfl, rfl⟩
  go_wp2_with fail
  refine (apartBools_none gb _ (HF.out.bagis.cell (HF.out.none_ 3 (by decide) (by decide)))).mono ?_
  rintro e w' ⟨rfl, rfl⟩
  go_wp2_with fail
  refine HA.out.mono ?_
  rintro e w1 ⟨rfl, hb1, hi1⟩
  have HB1 := Lib.hid hb1
  have HI1 := Lib.hid hi1
  clear hb1 HA hi1
  go_wp2_with fail
  refine (apartNodes_none gb _ (HI1.out.cell (HF.out.none_ 5 (by decide) (by decide)))).mono ?_
  rintro e w' ⟨rfl, rfl⟩
  go_wp2_with fail
  refine (apartCos_none gb _ (HI1.out.cell (HF.out.none_ 6 (by decide) (by decide)))).mono ?_
  rintro e w' ⟨rfl, rfl⟩
  go_wp2_with fail
  refine (apartSeen_none gb _ (HI1.out.cell (HF.out.none_ 7 (by decide) (by decide)))).mono ?_
  rintro e w' ⟨rfl, rfl⟩
  go_wp2_with fail
  refine (apartSites_none gb _ (HI1.out.cell (HF.out.none_ 8 (by decide) (by decide)))).mono ?_
  rintro e w' ⟨rfl, rfl⟩
  go_wp2_with fail
  refine (apartIns_none gb _ (HI1.out.cell (HF.out.none_ 9 (by decide) (by decide)))).mono ?_
  rintro e w' ⟨rfl, rfl⟩
  go_wp2_with fail
  refine (apartImports_none gb _ (HI1.out.cell (HF.out.none_ 10 (by decide) (by decide)))).mono ?_
  rintro e w' ⟨rfl, rfl⟩
  go_wp2_with fail
  refine (apartTraps_none gb _ (HI1.out.cell (HF.out.none_ 11 (by decide) (by decide)))).mono ?_
  rintro e w' ⟨rfl, rfl⟩
  go_wp2_with fail
  refine (apartRows_none gb _ (HI1.out.cell (HF.out.none_ 12 (by decide) (by decide)))).mono ?_
  rintro e w' ⟨rfl, rfl⟩
  go_wp2_with fail
  refine (apartDefs_none gb _ (HI1.out.cell (HF.out.none_ 13 (by decide) (by decide)))).mono ?_
  rintro e w' ⟨rfl, rfl⟩
  go_wp2_with fail
  refine (apartModules_none gb _ (HI1.out.cell (HF.out.none_ 14 (by decide) (by decide)))).mono ?_
  rintro e w' ⟨rfl, rfl⟩
  go_wp2_with fail
  refine (apartFunctions_none gb _ (HI1.out.cell (HF.out.none_ 15 (by decide) (by decide)))).mono ?_
  rintro e w' ⟨rfl, rfl⟩
  go_wp2_with fail
  refine (apartWaits_none gb _ (HI1.out.cell (HF.out.none_ 16 (by decide) (by decide)))).mono ?_
  rintro e w' ⟨rfl, rfl⟩
  go_wp2_with fail
  refine (apartTrees_none gb _ (HI1.out.cell (HF.out.none_ 17 (by decide) (by decide)))).mono ?_
  rintro e w' ⟨rfl, rfl⟩
  go_wp2_with fail
  go_ret
  exact ⟨rfl, HB1.out⟩
/-- What a bag is after one more list. -/
def AddRes (gb B : Nat) (R : List Value) (L : Nat → Nat) (o : Option Nat) (v : Value) (w : World) (e : Ending) (w' : World) : Prop :=
  e = .returned (.tuple #[]) ∧ ∃ bv' cs', Full2 9 25 4 gb B (R ++ [v]) L bv' cs' w' ∧ KeepN gb o w w' ∧ (bv'.ownBlock = o ∨ ∃ b, bv'.ownBlock = some b ∧ w.heap.size ≤ b)
set_option maxRecDepth 100000 in
set_option maxHeartbeats 1600000 in
theorem AddTexts_any (gb B : Nat) (R : List Value) (L : Nat → Nat) (bv v : Value) (cs : Array Value) (xs : List Value) (w : World) (h : Full2 9 25 4 gb B R L bv cs w) (hv : w.ownsRow B 9 1 v (L R.length) xs) (hA : ∀ u ∈ R, Culp.Apart v u) (hR : R.length < 300) :
    Calls Tryz.prog 8 #[.pointer (some ⟨gb, 0, none⟩), v] w (AddRes gb B R L bv.ownBlock v w) := by
  have c1 := h.bagis.cell h.at_
  have f1 := h.bagis.free 4
  have HF := Lib.hid h
  have HV := Lib.hid hv
  have HA := Lib.hid hA
  have own4 := h.bag
  have hB := h.le
  obtain ⟨Av, cv, rfl⟩ := own_shape hv
  obtain ⟨Ab, cb, rfl⟩ := own_shape h.bag
  have hR2 : R.length < 300 := hR
  clear h hv hA
  go_enter Tryz.func8, Tryz.ntmps8
  go_wp2_with (at_builtin; refine append_agg_at rfl (.tmp 14) (.tmp 16) 32 25 rfl B _ 1 24 Tryz.underlying32 stexts_info rfl (by decide) _ _ _ rfl own4 [.slice Av (L R.length) cv] rfl w.heap.size rfl rfl ?_ ?_ ?_ hB ?_)
  · first
      | rfl
      | (intro y hy; simp only [List.mem_cons, List.not_mem_nil, or_false] at hy; subst hy; rfl)
  · omega
  · omega
  intro bv' w5 hown' hg' hb' hat
  have hF5 := HF.out.add (by decide) (by decide) (by decide) (by decide) HV.out HA.out hown' hg' hb'
  have h5 : BagIs gb cs w5 := HF.out.bagis.grown hg' (HF.out.bagis.ne HF.out.bag (by decide))
  obtain ⟨A5, k5, rfl⟩ := own_shape hown'
  have c5 := h5.cell HF.out.at_
  have f5 := h5.free 4
  have HR : Hid (AddRes gb B R L (Value.slice Ab R.length cb).ownBlock (.slice Av (L R.length) cv) w (.returned (.tuple #[])) (w5.setCell ⟨gb, 4, none⟩ (.slice A5 (R.length + 1) k5))) := Lib.hid ⟨rfl, _, _, hF5, keepN_put hg' 4 _, by
    rcases hat with e | e
    · exact .inl e
    · exact .inr ⟨_, e, Nat.le_succ _⟩⟩
  clear hown' hg' hb' hat own4 h5 hF5 c1 f1
  go_wp2_with fail
  exact bodyPost_end (v := .tuple #[]) (by simp [results, Tryz.results8, go_sem]) rfl HR.out
end Go.Proofs.YtebameiaeldfiaaGreatDoor

/- The walk of the statement TreeFree. -/
namespace Go.Proofs.YtebameiaeldfiaaGreatDoor
set_option linter.unusedSimpArgs false
set_option linter.unusedVariables false
open Go.RowKit Go.Maps Culp

theorem keepN_own {gb : Nat} {o : Option Nat} {w w' : World} {cs : Array Value} {B C n m : Nat} {bv v : Value} {xs ys : List Value} (k : KeepN gb o w w') (hb : BagIs gb cs w) (hbv : w.ownsRow B 25 1 bv m ys) (ho : bv.ownBlock = o) (h : w.ownsRow C 9 1 v n xs) : w'.ownsRow C 9 1 v n xs :=
  k.own h (hb.ne h (by decide)) fun g hg he => by
    subst ho
    exact own_apart_type h hbv (by decide) g hg he
/-- What both sides answer of the free names. -/
theorem free_both (T : List Nd) (hT : T.length ≤ 1000) (hz : ∀ x ∈ T, x.s.size ≤ 140737488351232) (hk : ∀ x ∈ T, x.kids ≤ 9223372036854775807) :
    ∃ NL : List ByteArray, NL.length ≤ 1000000 ∧ (∀ (tv : Value) (w : World), Nodes w tv T → Sp w → Calls Tryz.prog 7 #[tv] w (NmsRes NL w)) ∧ (∀ (tv : Value) (w : World), Nodes w tv T → Calls Tryz.prog 9 #[tv] w (NmsRes NL w)) := by
  by_cases hc : (Tr.check T).1 = 0
  · obtain ⟨hl, x, ks, he, hO, hm, hh⟩ := Tr.F.of_check hc
    have hck : Tr.check T = (0, 0) := by rw [he]; exact Tr.F.check_one (by rw [← he]; exact hl) hO (by rw [← he]; exact hm) hh
    exact ⟨Tr.F.free x ks, Nat.le_trans (Tr.F.free_len x ks) (by rw [← he]; omega), fun tv w hn hS => Free_ok T tv x ks w hn hS hl hz hk hck he hO hm hh, fun tv w hn => rFree_ok T tv x ks w hn hl hz hk hck he hO hm hh⟩
  · exact ⟨[], by simp, fun tv w hn hS => Free_bad T tv w hn hS hz hk hc, fun tv w hn => rFree_bad T tv w hn hz hk hc⟩
set_option maxRecDepth 100000 in
set_option maxHeartbeats 6400000 in
theorem freelaw_walk (T : List Nd) (tv : Value) (w : World) (hn : Nodes w tv T) (hS : Sp w) (hP : Pw w) (hT : T.length ≤ 1000000000000000) (hz : ∀ x ∈ T, x.s.size ≤ 140737488351232) (hkd : ∀ x ∈ T, x.kids ≤ 9223372036854775807) :
    Calls Tryz.prog 3 #[tv] w (Makes (.bool true) w) := by
  have HN := Lib.hid hn
  have HS := Lib.hid hS
  have HP := Lib.hid hP
  have HFB := Lib.hid (fun h => free_both T h hz hkd)
  obtain ⟨A, c, rfl, hlc, _⟩ := hn
  clear hS hP hz hkd
  go_enter Tryz.func3, Tryz.ntmps3
  go_wp2_with fail
  refine (works_any _ HS.out).mono ?_
  rintro e w1 ⟨rfl, hb1⟩
  have HB1 := Lib.hid hb1
  clear hb1
  by_cases hbig : 1000 < T.length
  · go_wp2_with fail
    go_ret
    exact Makes.mk rfl HB1.out
  have hT3 : T.length ≤ 1000 := by omega
  obtain ⟨NL, hNL, h1, h2⟩ := HFB.out hT3
  have HF1 := Lib.hid h1
  have HF2 := Lib.hid h2
  clear hT HFB h1 h2
  go_wp2_with fail
  clear hbig
  refine (WideNodes_any T _ _ (HN.out.later HB1.out) (by omega)).mono ?_
  rintro e w2 ⟨g, rfl, hw2, hb2⟩
  have HB2 := Lib.hid (below_later hb2 HB1.out)
  have HW2 := Lib.hid hw2
  clear hw2 hb2 HB1
  go_wp2_with fail
  refine (HF1.out _ _ (wide_nodes HW2.out) (HS.out.later HB2.out)).mono ?_
  rintro e w3 ⟨av, rfl, ho3, hb3⟩
  have HA3 := Lib.hid ho3
  have HK3 := Lib.hid hb3
  have HB3 := Lib.hid (below_later hb3 HB2.out)
  have HW3 := Lib.hid (HW2.out.later hb3)
  obtain ⟨Aa, ca, rfl⟩ := own_shape ho3
  clear ho3 hb3
  go_wp2_with fail
  refine (HF1.out _ _ (wide_nodes HW3.out) (HS.out.later HB3.out)).mono ?_
  rintro e w4 ⟨bv, rfl, ho4, hb4⟩
  have HAP : Hid (Culp.Apart bv (.slice Aa NL.length ca)) := Lib.hid (apart_base ho4 fun g hg => (HA3.out.lt g hg).2)
  have HA4 := Lib.hid (own_later HA3.out hb4)
  have HV4 : Hid (w4.ownsRow w2.heap.size 9 1 bv NL.length (NL.map Value.string)) := Lib.hid (own_base ho4 HK3.out.size)
  have HK4 := Lib.hid (below_later hb4 HK3.out)
  have HB4 := Lib.hid (below_later hb4 HB3.out)
  obtain ⟨Ab, cb, rfl⟩ := own_shape ho4
  clear ho4 hb4 HA3 HK3 HB3 HW3
  go_wp2_with fail
  have hb5 : Below w4.heap.size w4 (w4.alloc (.cells #[.slice none 0 0, .slice none 0 0, .slice none 0 0, .slice none 0 0, .slice none 0 0, .slice none 0 0, .slice none 0 0, .slice none 0 0, .slice none 0 0, .slice none 0 0, .slice none 0 0, .slice none 0 0, .slice none 0 0, .slice none 0 0, .slice none 0 0, .slice none 0 0, .slice none 0 0, .slice none 0 0] 47)) := (Below.refl _ _).alloc (Nat.le_refl _) _
  have HF5 : Hid (Full2 9 25 4 w4.heap.size w2.heap.size [] (fun _ => NL.length) (.slice none 0 0) _ (w4.alloc (.cells #[.slice none 0 0, .slice none 0 0, .slice none 0 0, .slice none 0 0, .slice none 0 0, .slice none 0 0, .slice none 0 0, .slice none 0 0, .slice none 0 0, .slice none 0 0, .slice none 0 0, .slice none 0 0, .slice none 0 0, .slice none 0 0, .slice none 0 0, .slice none 0 0, .slice none 0 0, .slice none 0 0] 47))) := Lib.hid (Full2.start (by decide) HK4.out.size)
  have HA5 := Lib.hid (own_later HA4.out hb5)
  have HV5 := Lib.hid (own_later HV4.out hb5)
  have HK5 := Lib.hid (below_later hb5 HK4.out)
  have HB5 := Lib.hid (below_later hb5 HB4.out)
  have hgb : w2.heap.size ≤ w4.heap.size := HK4.out.size
  clear hb5 HA4 HV4 HK4 HB4
  generalize w4.alloc (.cells #[.slice none 0 0, .slice none 0 0, .slice none 0 0, .slice none 0 0, .slice none 0 0, .slice none 0 0, .slice none 0 0, .slice none 0 0, .slice none 0 0, .slice none 0 0, .slice none 0 0, .slice none 0 0, .slice none 0 0, .slice none 0 0, .slice none 0 0, .slice none 0 0, .slice none 0 0, .slice none 0 0] 47) = w5 at *
  generalize w4.heap.size = gb at *
  refine (AddTexts_any gb w2.heap.size [] (fun _ => NL.length) _ _ _ _ _ HF5.out HA5.out (fun u hu => by simp at hu) (by simp)).mono ?_
  rintro e w6 ⟨rfl, bv6, cs6, hF6, hKN6, hV6⟩
  have HF6 := Lib.hid hF6
  have HA6 := Lib.hid (keepN_own hKN6 HF5.out.bagis HF5.out.bag rfl HA5.out)
  have HV6 := Lib.hid (keepN_own hKN6 HF5.out.bagis HF5.out.bag rfl HV5.out)
  have HK6 : Hid (Below w2.heap.size w2 w6) := Lib.hid (hKN6.below HK5.out HK5.out.size hgb (fun k hk => (HF5.out.bag.lt k hk).1))
  clear hF6 hKN6 hV6 HF5 HA5 HV5 HK5 HB5
  go_wp2_with fail
  refine (AddTexts_any gb w2.heap.size _ (fun _ => NL.length) _ _ _ _ _ HF6.out HV6.out (fun u hu => by
    simp only [List.nil_append, List.mem_singleton] at hu
    subst hu
    exact HAP.out) (by simp)).mono ?_
  rintro e w7 ⟨rfl, bv7, cs7, hF7, hKN7, hV7⟩
  have HF7 := Lib.hid hF7
  have HA7 := Lib.hid (keepN_own hKN7 HF6.out.bagis HF6.out.bag rfl HA6.out)
  have HV7 := Lib.hid (keepN_own hKN7 HF6.out.bagis HF6.out.bag rfl HV6.out)
  have HK7 : Hid (Below w2.heap.size w2 w7) := Lib.hid (hKN7.below HK6.out HK6.out.size hgb (fun k hk => (HF6.out.bag.lt k hk).1))
  have HB7 := Lib.hid (below_later HK7.out HB2.out)
  clear hF7 hKN7 hV7 HF6 HA6 HV6 HK6 HAP
  go_wp2_with fail
  refine (HF2.out _ _ (HN.out.later HB7.out)).mono ?_
  rintro e w8 ⟨rv, rfl, ho8, hb8⟩
  have HR8 := Lib.hid ho8
  have HF8 := Lib.hid (HF7.out.later hb8)
  have HA8 := Lib.hid (own_later HA7.out hb8)
  have HV8 := Lib.hid (own_later HV7.out hb8)
  have HK8 : Hid (Below w2.heap.size w2 w8) := Lib.hid (HK7.out.trans (hb8.mono HK7.out.size))
  obtain ⟨Ar, cr, rfl⟩ := own_shape ho8
  clear ho8 hb8 HF7 HA7 HV7 HK7 HB7
  go_wp2_with fail
  refine (EqTexts_same NL _ _ _ (Nms.own HA8.out) (Nms.own HR8.out) (by omega)).mono ?_
  rintro e w9 ⟨rfl, hb9⟩
  have HR9 := Lib.hid (own_later HR8.out hb9)
  have HF9 := Lib.hid (HF8.out.later hb9)
  have HV9 := Lib.hid (own_later HV8.out hb9)
  have HK9 : Hid (Below w2.heap.size w2 w9) := Lib.hid (HK8.out.trans (hb9.mono HK8.out.size))
  clear hb9 HR8 HF8 HA8 HV8 HK8
  go_wp2_with fail
  refine (EqTexts_same NL _ _ _ (Nms.own HV9.out) (Nms.own HR9.out) (by omega)).mono ?_
  rintro e w10 ⟨rfl, hb10⟩
  have HF10 := Lib.hid (HF9.out.later hb10)
  have HK10 : Hid (Below w2.heap.size w2 w10) := Lib.hid (HK9.out.trans (hb10.mono HK9.out.size))
  have HB10 := Lib.hid (below_later HK10.out HB2.out)
  have hsz2 := HB2.out.size
  clear hb10 HR9 HF9 HV9 HK9
  go_wp2_with fail
  refine (ApartTexts_any gb w2.heap.size _ _ _ _ _ HF10.out (by simp) (fun _ => hNL) (HP.out.later HB10.out HP.out.lt) (Nat.lt_of_lt_of_le HP.out.lt hsz2)).mono ?_
  rintro e w11 ⟨rfl, hb11⟩
  have HK11 : Hid (Below w2.heap.size w2 w11) := Lib.hid (HK10.out.trans hb11)
  have HB11 := Lib.hid (below_later HK11.out HB2.out)
  have HW11 := Lib.hid (HW2.out.later HK11.out)
  clear hb11 HF10 HK10 HB10
  go_wp2_with fail
  refine (EqNodes_same T _ _ _ (wide_nodes HW11.out) (HN.out.later HB11.out) (by omega)).mono ?_
  rintro e w12 ⟨rfl, hb12⟩
  have HB12 := Lib.hid (below_later hb12 HB11.out)
  have HW12 := Lib.hid (HW11.out.later hb12)
  clear hb12 HB11 HW11
  go_wp2_with fail
  refine (SpareNodes_any T g _ HW12.out (by omega)).mono ?_
  rintro e w13 ⟨rfl, hb13⟩
  have HB13 := Lib.hid (below_later hb13 HB12.out)
  clear hb13
  go_wp2_with fail
  go_ret
  exact Makes.mk rfl HB13.out
end Go.Proofs.YtebameiaeldfiaaGreatDoor

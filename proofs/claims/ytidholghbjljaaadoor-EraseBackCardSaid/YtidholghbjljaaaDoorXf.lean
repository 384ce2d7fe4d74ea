
/- The walk of the statement EraseBack. -/
import Derived.Test.YtidholghbjljaaaDoorXe
namespace Culp.Er
set_option linter.unusedSimpArgs false
set_option linter.unusedVariables false
open Go Go.RowKit Culp Culp.Tr Culp.Mo
theorem flat_at {α : Type} (f : α → List Value) (n : Nat) (hf : ∀ x, (f x).length = n) : ∀ (L : List α) (i : Nat) (x : α) (j : Nat) (u : Value), L[i]? = some x → (f x)[j]? = some u → (L.flatMap f)[i * n + j]? = some u
  | [], i, x, j, u, h, _ => by simp at h
  | y :: L, 0, x, j, u, h, hu => by
    simp at h; subst h
    have hj := (List.getElem?_eq_some_iff.1 hu).1
    rw [List.flatMap_cons, Nat.zero_mul, Nat.zero_add, List.getElem?_append_left hj]
    exact hu
  | y :: L, i + 1, x, j, u, h, hu => by
    have := flat_at f n hf L i x j u (by simpa using h) hu
    rw [List.flatMap_cons, List.getElem?_append_right (by rw [hf]; rw [Nat.succ_mul]; omega), hf, show (i + 1) * n + j - n = i * n + j by rw [Nat.succ_mul]; omega]
    exact this
/-- A row of slots, as it is read. -/
theorem slot_row {w : World} {base : Nat} {e : TypeId} {v : Value} {S : List Sl} {f : Pos → ByteArray} (h : w.ownsRow base e 6 v S.length (S.flatMap fun s => slotC s (f s.pos))) (hn : 0 < S.length) : ∃ g cap, v = .slice (some ⟨g, 0, none⟩) S.length cap ∧ ∀ W, Below w.heap.size w W → ∀ (k : Nat) s, S[k]? = some s →
    W.cell? ⟨g, k * 6, none⟩ = some (.string s.mod) ∧ W.cell? ⟨g, k * 6 + 1, none⟩ = some (.bool s.imp) ∧ W.cell? ⟨g, k * 6 + 2, none⟩ = some (.int .i64 s.item) ∧ W.cell? ⟨g, k * 6 + 3, none⟩ = some (.int .i64 s.node) ∧ W.cell? ⟨g, k * 6 + 4, none⟩ = some (.bool s.res) ∧ W.cell? ⟨g, k * 6 + 5, none⟩ = some (.string (f s.pos)) := by
  obtain ⟨g, cap, rfl, -, hc⟩ := own_at h hn
  refine ⟨g, cap, rfl, fun W hW k s hs => ?_⟩
  have K : ∀ j u, (slotC s (f s.pos))[j]? = some u → W.cell? ⟨g, k * 6 + j, none⟩ = some u := fun j u hu => cell_later hW (hc _ _ (flat_at (fun s => slotC s (f s.pos)) 6 (fun _ => rfl) S k s j u hs hu))
  exact ⟨K 0 _ rfl, K 1 _ rfl, K 2 _ rfl, K 3 _ rfl, K 4 _ rfl, K 5 _ rfl⟩
theorem good_txt {s : Sl} {t : ByteArray} (h : good s t = true) : t = no ∨ isTy t.data.toList = true := by
  unfold good at h
  split at h
  · unfold Tr.note at h
    rw [Bool.or_eq_true, decide_eq_true_eq] at h
    rcases h with h | h
    · exact .inl (ByteArray.ext (Array.toList_inj.1 (by rw [h]; rfl)))
    · exact .inr h
  · exact .inr h
end Culp.Er
namespace Go.Proofs.YtidholghbjljaaaDoor
open Go.RowKit Go.Maps Culp Culp.Er
/-- The loop over the slots, and what is behind it. -/
def Back (w : World) (E : Ending) (w' : World) : Prop := Makes (.bool true) w E w'
set_option maxRecDepth 100000 in
set_option maxHeartbeats 12800000 in
theorem eraseback_walk (L : List Md) (v kv : Value) (keep : List Bool) (slot : Int) (t : ByteArray) (w : World) (hn : Mods w v L) (hk : Bools w kv keep) (hS : Sp w) (hl : L.length ≤ 1000000000000000) (hz : ∀ m ∈ L, MdSz m) (hkl : keep.length ≤ 1000000000000000) :
    Calls Tryd.prog 3 #[v, kv, .int .i64 slot, .string t] w (Makes (.bool true) w) := by
  have HN := Lib.hid hn
  have HK := Lib.hid hk
  have HS := Lib.hid hS
  have HZ := Lib.hid hz
  obtain ⟨A, c, rfl⟩ := hn.form
  obtain ⟨Ak, ck, bk, ok, rfl, -, -⟩ := hk
  clear hn hS hz
  go_enter Tryd.func3, Tryd.ntmps3
  go_wp2_with fail
  refine (eworks_any _ HS.out).mono ?_
  rintro e w1 ⟨rfl, hb1⟩
  have HB1 := Lib.hid hb1
  clear hb1
  go_wp2_with fail
  refine (SizeModules_any L _ _ (HN.out.later HB1.out) hl HZ.out).mono ?_
  rintro e w2 ⟨z, rfl, hb2, -⟩
  have HB2 := Lib.hid (below_later hb2 HB1.out)
  clear hb2 HB1
  by_cases hbig : 4000 < z
  · go_wp2_with fail
    go_ret
    exact Makes.mk rfl HB2.out
  go_wp2_with fail
  refine (Slots_any L _ _ (HN.out.later HB2.out) (HS.out.later HB2.out) hl HZ.out).mono ?_
  rintro e w3 ⟨v3, rfl, hb3, ho3⟩
  have HB3 := Lib.hid (below_later hb3 HB2.out)
  have HO3 := Lib.hid ho3
  obtain ⟨A3, c3, rfl⟩ := own_shape ho3
  clear hb3 ho3 HB2 hbig
  go_wp2_with fail
  refine (Written_any L _ _ (HN.out.later HB3.out) (HS.out.later HB3.out) hl HZ.out).mono ?_
  rintro e w4 ⟨v4, rfl, hb4, ho4⟩
  have HB4 := Lib.hid (below_later hb4 HB3.out)
  have HO34 := Lib.hid (own_later HO3.out hb4)
  obtain ⟨A4, c4, rfl⟩ := own_shape ho4
  clear hb4 ho4 HB3 HO3
  by_cases h0 : Mo.mods L = 0
  rotate_left
  · have hnz : (((Mo.mods L : Nat) : Int) == 0) = false := beq_eq_false_iff_ne.2 (by omega)
    generalize Mo.mods L = r at *
    go_wp2_with fail
    go_ret
    exact Makes.mk rfl HB4.out
  have HT : Hid (told L = slots L) := Lib.hid (by unfold told; rw [if_pos h0])
  have HTW : Hid (toldW L = idxW (slots L) (note L) (slots L).length) := Lib.hid (by unfold toldW; rw [if_pos h0])
  rw [HT.out] at HO34 ⊢
  obtain ⟨nw, HNW⟩ : ∃ nw, Hid ((toldW L).length = nw) := ⟨_, Lib.hid rfl⟩
  have HNI : Hid ((idxW (slots L) (note L) (slots L).length).length = nw) := Lib.hid (by rw [← HTW.out]; exact HNW.out)
  rw [HNW.out, h0]
  have hsl := fits_small h0
  have hnwl : nw ≤ 8704 := by have := idxW_len (slots L) (note L) (slots L).length; have := HNI.out; omega
  have H0 := Lib.hid h0
  clear h0 HT HTW HNW
  go_wp2_with fail
  refine (times_any true nw (by omega) _).mono ?_
  rintro e w5 ⟨v5, rfl, hb5, hbo5⟩
  have HB5 := Lib.hid (below_later hb5 HB4.out)
  have HO5 := Lib.hid (own_later HO34.out hb5)
  have HBO := Lib.hid hbo5
  clear hb5 hbo5 HB4 HO34
  obtain ⟨A5, c5, b5, o5, hv5, -, -⟩ := HBO.out
  subst hv5
  rw [List.length_replicate] at HBO ⊢
  go_wp2_with fail
  refine (Keep_ok L _ _ (List.replicate nw true) w5 H0.out (by rw [List.length_replicate]; exact HNI.out) (HN.out.later HB5.out) HBO.out (HS.out.later HB5.out) HZ.out).mono ?_
  rintro e w6 ⟨A6, c6, rfl, hb6, hm6⟩
  rw [kept_all] at hm6
  have HB6 := Lib.hid (below_later hb6 HB5.out)
  have HO6 := Lib.hid (own_later HO5.out hb6)
  have HM6 := Lib.hid hm6
  clear hb6 hm6 HB5 HO5 HBO
  go_wp2_with fail
  refine (times_any false nw (by omega) _).mono ?_
  rintro e w7 ⟨v7, rfl, hb7, hbo7⟩
  have HB7 := Lib.hid (below_later hb7 HB6.out)
  have HO7 := Lib.hid (own_later HO6.out hb7)
  have HM67 := Lib.hid (HM6.out.later hb7)
  have HBO := Lib.hid hbo7
  clear hb7 hbo7 HB6 HO6 HM6
  obtain ⟨A7, c7, b7, o7, hv7, -, -⟩ := HBO.out
  subst hv7
  rw [List.length_replicate] at HBO ⊢
  go_wp2_with fail
  refine (Keep_ok L _ _ (List.replicate nw false) w7 H0.out (by rw [List.length_replicate]; exact HNI.out) (HN.out.later HB7.out) HBO.out (HS.out.later HB7.out) HZ.out).mono ?_
  rintro e w8 ⟨A8, c8, rfl, hb8, hm8⟩
  have HB8 := Lib.hid (below_later hb8 HB7.out)
  have HO8 := Lib.hid (own_later HO7.out hb8)
  have HM68 := Lib.hid (HM67.out.later hb8)
  have HM8 := Lib.hid hm8
  clear hb8 hm8 HB7 HO7 HM67 HBO
  -- what is left
  obtain ⟨L2, hL2⟩ : ∃ L2, L2 = lay (kept (List.replicate nw false) L) L := ⟨_, rfl⟩
  have HL2 := Lib.hid hL2
  rw [← hL2] at HM8
  have hl2 : L2.length = L.length := by rw [hL2]; exact layM_len 0 L
  have HZ2 : Hid (∀ m ∈ L2, MdSz m) := Lib.hid (by rw [hL2]; exact kept_sz HZ.out)
  have H20 : Hid (Mo.mods L2 = 0) := Lib.hid (by rw [hL2]; exact kept_mods H0.out)
  have HT2 : Hid (toldW L2 = []) := Lib.hid (by rw [hL2, ← HNI.out]; exact none_told)
  have HLN : Hid (lessP L L2) := Lib.hid (by rw [hL2]; exact less_kept H0.out)
  have HSN : Hid (lessP (lay (kept keep L) L) L2) := Lib.hid (by rw [hL2, ← HNI.out]; exact less_none H0.out)
  clear hL2
  go_wp2_with fail
  refine (Written_any L2 _ _ HM8.out (HS.out.later HB8.out) (by omega) HZ2.out).mono ?_
  rintro e w9 ⟨v9, rfl, hb9, ho9⟩
  rw [HT2.out] at ho9
  rw [H20.out]
  obtain ⟨A9, c9, rfl⟩ := own_shape ho9
  have HB9 := Lib.hid (below_later hb9 HB8.out)
  have HO9 := Lib.hid (own_later HO8.out hb9)
  have HM69 := Lib.hid (HM68.out.later hb9)
  have HM89 := Lib.hid (HM8.out.later hb9)
  clear hb9 ho9 HB8 HO8 HM68 HM8 HT2
  go_wp2_with fail
  refine (EqModules_same L _ _ _ HM69.out (HN.out.later HB9.out) hl (eq_lens H0.out).2).mono ?_
  rintro e w10 ⟨rfl, hb10⟩
  have HB10 := Lib.hid (below_later hb10 HB9.out)
  have HO10 := Lib.hid (own_later HO9.out hb10)
  have HM10 := Lib.hid (HM89.out.later hb10)
  clear hb10 HB9 HO9 HM69 HM89
  go_wp2_with fail
  refine (Less_any L L2 _ _ _ (HN.out.later HB10.out) HM10.out (HS.out.later HB10.out) (lens_of H0.out) (lens_of H20.out) HZ.out HZ2.out).mono ?_
  rintro e w11 ⟨⟨z, rfl, hzz⟩, hb11⟩
  obtain rfl := hzz.2 HLN.out
  have HB11 := Lib.hid (below_later hb11 HB10.out)
  have HO11 := Lib.hid (own_later HO10.out hb11)
  have HM11 := Lib.hid (HM10.out.later hb11)
  clear hb11 HB10 HO10 HM10 hzz HLN
  go_wp2_with fail
  refine (Less_any L L _ _ _ (HN.out.later HB11.out) (HN.out.later HB11.out) (HS.out.later HB11.out) (lens_of H0.out) (lens_of H0.out) HZ.out HZ.out).mono ?_
  rintro e w12 ⟨⟨z, rfl, hzz⟩, hb12⟩
  obtain rfl := hzz.2 (less_self H0.out)
  have HB12 := Lib.hid (below_later hb12 HB11.out)
  have HO12 := Lib.hid (own_later HO11.out hb12)
  have HM12 := Lib.hid (HM11.out.later hb12)
  clear hb12 HB11 HO11 HM11 hzz
  by_cases hkn : keep.length = nw
  · have i1 : ((keep.length : Int) == (nw : Int)) = true := beq_iff_eq.2 (by rw [hkn])
    have HKN := Lib.hid hkn
    clear hkn
    go_wp2_with fail
    refine (Keep_ok L _ _ keep w12 H0.out (by rw [HNI.out, HKN.out]) (HN.out.later HB12.out) (HK.out.later HB12.out) (HS.out.later HB12.out) HZ.out).mono ?_
    rintro e w13 ⟨A13, c13, rfl, hb13, hm13⟩
    have HB13 := Lib.hid (below_later hb13 HB12.out)
    have HO13 := Lib.hid (own_later HO12.out hb13)
    have HM13 := Lib.hid (HM12.out.later hb13)
    have HQ13 := Lib.hid hm13
    clear hb13 hm13 HB12 HO12 HM12
    have HLS : Hid (lessP L (lay (kept keep L) L)) := Lib.hid (less_kept H0.out)
    have H5 : Hid (Mo.mods (lay (kept keep L) L) = 0) := Lib.hid (kept_mods H0.out)
    have HZ5 : Hid (∀ m ∈ lay (kept keep L) L, MdSz m) := Lib.hid (kept_sz HZ.out)
    generalize lay (kept keep L) L = L5 at *
    go_wp2_with fail
    refine (Less_any L L5 _ _ _ (HN.out.later HB13.out) HQ13.out (HS.out.later HB13.out) (lens_of H0.out) (lens_of H5.out) HZ.out HZ5.out).mono ?_
    rintro e w14 ⟨⟨z, rfl, hzz⟩, hb14⟩
    obtain rfl := hzz.2 HLS.out
    have HB14 := Lib.hid (below_later hb14 HB13.out)
    have HO14 := Lib.hid (own_later HO13.out hb14)
    have HM14 := Lib.hid (HM13.out.later hb14)
    have HQ14 := Lib.hid (HQ13.out.later hb14)
    clear hb14 HB13 HO13 HM13 HQ13 hzz
    go_wp2_with fail
    refine (Less_any L5 L2 _ _ _ HQ14.out HM14.out (HS.out.later HB14.out) (lens_of H5.out) (lens_of H20.out) HZ5.out HZ2.out).mono ?_
    rintro e wx ⟨⟨z, rfl, hzz⟩, hbx⟩
    obtain rfl := hzz.2 HSN.out
    have HBX := Lib.hid (below_later hbx HB14.out)
    have HOX := Lib.hid (own_later HO14.out hbx)
    clear hbx HB14 HO14 HM14 HQ14 hzz H5 HZ5 HLS HSN HZ2 H20 HL2 HNI
    by_cases hs0 : slot < 0
    · go_wp2_with fail
      go_ret
      exact Makes.mk rfl HBX.out
    obtain ⟨n, rfl⟩ : ∃ n : Nat, slot = (n : Int) := ⟨slot.toNat, by omega⟩
    by_cases hsn : n < (slots L).length
    rotate_left
    · go_wp2_with fail
      go_ret
      exact Makes.mk rfl HBX.out
    obtain ⟨s, hs⟩ : ∃ s, (slots L)[n]? = some s := ⟨_, List.getElem?_eq_getElem hsn⟩
    have HSL := Lib.hid hs
    clear hs
    go_wp2_with fail
    refine (Lay_any L _ (n : Int) t _ (HN.out.later HBX.out) (HS.out.later HBX.out) (lens_of H0.out) HZ.out).mono ?_
    rintro e wy ⟨hby, ⟨hz0, -⟩ | ⟨-, -, rfl⟩ | ⟨-, hok, vy, rfl, hoy⟩⟩
    · exact absurd H0.out hz0
    · have HBY := Lib.hid (below_later hby HBX.out)
      clear hby
      go_wp2_with fail
      go_ret
      exact Makes.mk rfl HBY.out
    have hmy := hoy.mods
    rw [layTo_all HSL.out] at hmy
    have HBY := Lib.hid (below_later hby HBX.out)
    have HOY := Lib.hid (own_later HOX.out hby)
    have HTX : Hid (∀ (k : Nat) s', (slots L)[k]? = some s' → note (lay (laidF L s t) L) s'.pos = if k = n then laid s t else note L s'.pos) := Lib.hid fun k s' => laid_told HSL.out
    have HS3 : Hid (slots (lay (laidF L s t) L) = slots L) := Lib.hid (slots_lay _ _)
    have H3 : Hid (Mo.mods (lay (laidF L s t) L) = 0) := Lib.hid (laid_mods H0.out (List.mem_of_getElem? HSL.out) hok.2.2)
    have HZ3 : Hid (∀ m ∈ lay (laidF L s t) L, MdSz m) := Lib.hid (laidF_sz HZ.out hok.2.2)
    have HBK : Hid (lay (upd (note (lay (laidF L s t) L)) s.pos (laid s (note L s.pos))) (lay (laidF L s t) L) = L) := Lib.hid (laid_back H0.out (List.mem_of_getElem? HSL.out))
    have hl3 : (lay (laidF L s t) L).length = L.length := layM_len 0 L
    have HMY : Hid (Mods wy vy (lay (laidF L s t) L)) := Lib.hid hmy
    clear hby hmy hoy hok HBX HOX
    generalize lay (laidF L s t) L = L3 at *
    obtain ⟨Ay, cy, rfl⟩ := HMY.out.form
    have hll3 : L3.length ≤ 1000000000000000 := by omega
    rw [hl3] at HMY ⊢
    clear hl3
    go_wp2_with fail
    refine (Slots_any L3 _ _ HMY.out (HS.out.later HBY.out) hll3 HZ3.out).mono ?_
    rintro e wz ⟨vz, rfl, hbz, hoz⟩
    have htz : told L3 = slots L := by unfold told; rw [if_pos H3.out]; exact HS3.out
    rw [htz] at hoz
    rw [H3.out]
    have HBZ := Lib.hid (below_later hbz HBY.out)
    have HOZ := Lib.hid (own_later HOY.out hbz)
    have HMZ := Lib.hid (HMY.out.later hbz)
    obtain ⟨g1, k1, hv1, hr1⟩ := slot_row HOZ.out (by omega)
    obtain ⟨g2, k2, hv2, hr2⟩ := slot_row hoz (by omega)
    cases hv1
    cases hv2
    have HR1 := Lib.hid hr1
    have HR2 := Lib.hid hr2
    clear hbz hoz htz HBY HOY HMY HOZ hr1 hr2
    go_wp2_with fail
    go_loopw [26] (fun i wr => ∃ k : Nat, k ≤ (slots L).length ∧ i = .int .i64 k ∧ Hid (Below wz.heap.size wz wr)) (fun i _ => (slots L).length - (intOf i).toNat)
    case atStart => exact ⟨0, Nat.zero_le _, rfl, Lib.hid (Below.refl _ _)⟩
    case round =>
      obtain ⟨k, hk, rfl, HB⟩ := hrel
      by_cases hlt : k < (slots L).length
      · obtain ⟨s', hs'⟩ : ∃ s', (slots L)[k]? = some s' := ⟨_, List.getElem?_eq_getElem hlt⟩
        obtain ⟨a0, a1, a2, a3, a4, a5⟩ := HR1.out wr HB.out k s' hs'
        have HBC := Lib.hid (HR2.out)
        have hbw : Below wr.heap.size wr (wr.alloc (.cells #[.string s'.mod, .bool s'.imp, .int .i64 s'.item, .int .i64 s'.node, .bool s'.res, .string (note L s'.pos)] 39)) := (Below.refl _ _).alloc (Nat.le_refl _) _
        have hbw2 : Below wr.heap.size wr (wr.alloc (.cells #[.string s'.mod, .bool s'.imp, .int .i64 s'.item, .int .i64 s'.node, .bool s'.res, .string (note L3 s'.pos)] 39)) := (Below.refl _ _).alloc (Nat.le_refl _) _
        have HB2 := Lib.hid (below_later hbw HB.out)
        have HB3 := Lib.hid (below_later hbw2 HB.out)
        have HBX : Hid (Blk wr.heap.size #[.string s'.mod, .bool s'.imp, .int .i64 s'.item, .int .i64 s'.node, .bool s'.res, .string (note L3 s'.pos)] 39 (wr.alloc (.cells #[.string s'.mod, .bool s'.imp, .int .i64 s'.item, .int .i64 s'.node, .bool s'.res, .string (note L3 s'.pos)] 39))) := Lib.hid (Blk.alloc _ _ _)
        obtain ⟨b0, b1, b2, b3, b4, b5⟩ := HR2.out _ HB3.out k s' hs'
        have hq := HTX.out k s' hs'
        have b6 := (HR2.out _ HB2.out k s' hs').2.2.2.2.2
        have hg2 : g2 < wr.heap.size := World.block_lt_of_cell? wr _ (HR2.out _ HB.out k s' hs').1
        have hne : ¬ g2 = wr.heap.size := by omega
        have HS1 := Lib.hid hs'
        clear hbw hbw2 HB HBC hs'
        by_cases hkn2 : k = n
        · subst hkn2
          have i2 : ((k : Int) == (k : Int)) = true := beq_self_eq_true _
          rw [if_pos rfl] at hq
          have hss : s' = s := Option.some.inj (HS1.out.symm.trans HSL.out)
          subst hss
          have hqc : (t.toList == (note L3 s'.pos).toList) = true ∨ ((t.toList == (note L3 s'.pos).toList) = false ∧ (t.toList == []) = true ∧ ((note L3 s'.pos).toList == [63]) = true) := by
            rw [hq]
            unfold laid
            by_cases hc : t = no ∧ s'.absent = false
            · rw [if_pos hc]
              refine .inr ⟨by rw [hc.1, toL', toL']; rfl, by rw [hc.1, toL']; rfl, by rw [toL']; rfl⟩
            · rw [if_neg hc]
              exact .inl (beq_self_eq_true _)
          clear hq
          generalize note L3 s'.pos = q at *
          rcases hqc with j1 | ⟨j1, j2, j3⟩
          · go_wp2_with fail
            clear a0 a1 a2 a3 a4 a5 b6
            have c0 := HBX.out.cell (i := 0) rfl
            have c1 := HBX.out.cell (i := 1) rfl
            have c2 := HBX.out.cell (i := 2) rfl
            have c3 := HBX.out.cell (i := 3) rfl
            have c4 := HBX.out.cell (i := 4) rfl
            have c5 := HBX.out.cell (i := 5) rfl
            clear HBX HB2
            generalize wr.alloc _ = w9 at *
            generalize wr.heap.size = gx at *
            refine wp_region_plan (S := fun w' => (w'.cell? ⟨gx, 0, none⟩ = some (.string s'.mod) ∧ w'.cell? ⟨gx, 1, none⟩ = some (.bool s'.imp) ∧ w'.cell? ⟨gx, 2, none⟩ = some (.int .i64 s'.item) ∧ w'.cell? ⟨gx, 3, none⟩ = some (.int .i64 s'.node) ∧ w'.cell? ⟨gx, 4, none⟩ = some (.bool s'.res) ∧ w'.cell? ⟨gx, 5, none⟩ = some (.string q)) ∧
                (w'.cell? ⟨g2, k * 6, none⟩ = some (.string s'.mod) ∧ w'.cell? ⟨g2, k * 6 + 1, none⟩ = some (.bool s'.imp) ∧ w'.cell? ⟨g2, k * 6 + 2, none⟩ = some (.int .i64 s'.item) ∧ w'.cell? ⟨g2, k * 6 + 3, none⟩ = some (.int .i64 s'.node) ∧ w'.cell? ⟨g2, k * 6 + 4, none⟩ = some (.bool s'.res) ∧ w'.cell? ⟨g2, k * 6 + 5, none⟩ = some (.string q)))
              [(0, true), (1, true), (2, true), (3, true), (4, true), (5, true)] (by kernel_rfl) (by kernel_rfl) (by kernel_rfl) (fun _ _ _ _ _ h => h) ⟨⟨c0, c1, c2, c3, c4, c5⟩, ⟨b0, b1, b2, b3, b4, b5⟩⟩ ?_
            clear c0 c1 c2 c3 c4 c5 b0 b1 b2 b3 b4 b5
            intro HP
            repeat (first | (apply wpPlan_look; rfl; rfl; (intro wq hq; (try dsimp only at hq); go_split_ands; go_simp; (try rw [if_neg (by omega)]); (try rw [if_pos (by omega)]); try with_reducible rfl); simp only [Act.put, List.setIfInBounds_toArray, List.set_cons_zero, List.set_cons_succ]) | (apply wpPlan_skip; rfl; rfl; simp only [Act.put, List.setIfInBounds_toArray, List.set_cons_zero, List.set_cons_succ]) | (apply wpPlan_pass; rfl; rfl; assumption; simp only [Act.put, List.setIfInBounds_toArray, List.set_cons_zero, List.set_cons_succ]))
            have HBD := Lib.hid HB3.out.drew
            clear HB3
            apply wpPlan_done
            clear HP
            go_wp2_with fail
            go_roundw
            case rel => exact ⟨k + 1, by omega, by go_num, HBD⟩
            case measure => simp [intOf]; omega
          · go_wp2_with fail
            clear a0 a1 a2 a3 a4 a5 b6
            have c0 := HBX.out.cell (i := 0) rfl
            have c1 := HBX.out.cell (i := 1) rfl
            have c2 := HBX.out.cell (i := 2) rfl
            have c3 := HBX.out.cell (i := 3) rfl
            have c4 := HBX.out.cell (i := 4) rfl
            have c5 := HBX.out.cell (i := 5) rfl
            clear HBX HB2
            generalize wr.alloc _ = w9 at *
            generalize wr.heap.size = gx at *
            refine wp_region_plan (S := fun w' => (w'.cell? ⟨gx, 0, none⟩ = some (.string s'.mod) ∧ w'.cell? ⟨gx, 1, none⟩ = some (.bool s'.imp) ∧ w'.cell? ⟨gx, 2, none⟩ = some (.int .i64 s'.item) ∧ w'.cell? ⟨gx, 3, none⟩ = some (.int .i64 s'.node) ∧ w'.cell? ⟨gx, 4, none⟩ = some (.bool s'.res) ∧ w'.cell? ⟨gx, 5, none⟩ = some (.string q)) ∧
                (w'.cell? ⟨g2, k * 6, none⟩ = some (.string s'.mod) ∧ w'.cell? ⟨g2, k * 6 + 1, none⟩ = some (.bool s'.imp) ∧ w'.cell? ⟨g2, k * 6 + 2, none⟩ = some (.int .i64 s'.item) ∧ w'.cell? ⟨g2, k * 6 + 3, none⟩ = some (.int .i64 s'.node) ∧ w'.cell? ⟨g2, k * 6 + 4, none⟩ = some (.bool s'.res) ∧ w'.cell? ⟨g2, k * 6 + 5, none⟩ = some (.string q)))
              [(0, true), (1, true), (2, true), (3, true), (4, true), (5, true)] (by kernel_rfl) (by kernel_rfl) (by kernel_rfl) (fun _ _ _ _ _ h => h) ⟨⟨c0, c1, c2, c3, c4, c5⟩, ⟨b0, b1, b2, b3, b4, b5⟩⟩ ?_
            clear c0 c1 c2 c3 c4 c5 b0 b1 b2 b3 b4 b5
            intro HP
            repeat (first | (apply wpPlan_look; rfl; rfl; (intro wq hq; (try dsimp only at hq); go_split_ands; go_simp; (try rw [if_neg (by omega)]); (try rw [if_pos (by omega)]); try with_reducible rfl); simp only [Act.put, List.setIfInBounds_toArray, List.set_cons_zero, List.set_cons_succ]) | (apply wpPlan_skip; rfl; rfl; simp only [Act.put, List.setIfInBounds_toArray, List.set_cons_zero, List.set_cons_succ]) | (apply wpPlan_pass; rfl; rfl; assumption; simp only [Act.put, List.setIfInBounds_toArray, List.set_cons_zero, List.set_cons_succ]))
            have HBD := Lib.hid HB3.out.drew
            clear HB3
            apply wpPlan_done
            clear HP
            go_wp2_with fail
            go_roundw
            case rel => exact ⟨k + 1, by omega, by go_num, HBD⟩
            case measure => simp [intOf]; omega
        · have i2 : ((k : Int) == (n : Int)) = false := beq_eq_false_iff_ne.2 (by omega)
          rw [if_neg hkn2] at hq
          rw [hq] at b5 b6 HBX HB3 b0 b1 b2 b3 b4
          clear hkn2 hq
          go_wp2_with fail
          clear a0 a1 a2 a3 a4 a5 b6
          have c0 := HBX.out.cell (i := 0) rfl
          have c1 := HBX.out.cell (i := 1) rfl
          have c2 := HBX.out.cell (i := 2) rfl
          have c3 := HBX.out.cell (i := 3) rfl
          have c4 := HBX.out.cell (i := 4) rfl
          have c5 := HBX.out.cell (i := 5) rfl
          clear HBX HB2
          generalize wr.alloc _ = w9 at *
          generalize wr.heap.size = gx at *
          refine wp_region_plan (S := fun w' => (w'.cell? ⟨gx, 0, none⟩ = some (.string s'.mod) ∧ w'.cell? ⟨gx, 1, none⟩ = some (.bool s'.imp) ∧ w'.cell? ⟨gx, 2, none⟩ = some (.int .i64 s'.item) ∧ w'.cell? ⟨gx, 3, none⟩ = some (.int .i64 s'.node) ∧ w'.cell? ⟨gx, 4, none⟩ = some (.bool s'.res) ∧ w'.cell? ⟨gx, 5, none⟩ = some (.string (note L s'.pos))) ∧
              (w'.cell? ⟨g2, k * 6, none⟩ = some (.string s'.mod) ∧ w'.cell? ⟨g2, k * 6 + 1, none⟩ = some (.bool s'.imp) ∧ w'.cell? ⟨g2, k * 6 + 2, none⟩ = some (.int .i64 s'.item) ∧ w'.cell? ⟨g2, k * 6 + 3, none⟩ = some (.int .i64 s'.node) ∧ w'.cell? ⟨g2, k * 6 + 4, none⟩ = some (.bool s'.res) ∧ w'.cell? ⟨g2, k * 6 + 5, none⟩ = some (.string (note L s'.pos))))
            [(0, true), (1, true), (2, true), (3, true), (4, true), (5, true)] (by kernel_rfl) (by kernel_rfl) (by kernel_rfl) (fun _ _ _ _ _ h => h) ⟨⟨c0, c1, c2, c3, c4, c5⟩, ⟨b0, b1, b2, b3, b4, b5⟩⟩ ?_
          clear c0 c1 c2 c3 c4 c5 b0 b1 b2 b3 b4 b5
          intro HP
          repeat (first | (apply wpPlan_look; rfl; rfl; (intro wq hq; (try dsimp only at hq); go_split_ands; go_simp; (try rw [if_neg (by omega)]); (try rw [if_pos (by omega)]); try with_reducible rfl); simp only [Act.put, List.setIfInBounds_toArray, List.set_cons_zero, List.set_cons_succ]) | (apply wpPlan_skip; rfl; rfl; simp only [Act.put, List.setIfInBounds_toArray, List.set_cons_zero, List.set_cons_succ]) | (apply wpPlan_pass; rfl; rfl; assumption; simp only [Act.put, List.setIfInBounds_toArray, List.set_cons_zero, List.set_cons_succ]))
          have HBD := Lib.hid HB3.out.drew
          clear HB3
          apply wpPlan_done
          clear HP
          go_wp2_with fail
          go_roundw
          case rel => exact ⟨k + 1, by omega, by go_num, HBD⟩
          case measure => simp [intOf]; omega
      · have hke : k = (slots L).length := by omega
        obtain ⟨-, -, -, -, -, a5⟩ := HR1.out wr HB.out n s HSL.out
        have hok : layOk L3 (n : Int) (note L s.pos) := ⟨by omega, by rw [HS3.out]; omega, good_txt (txt_good (txt_ok (f := note L) (by rw [lay_note]; exact H0.out)) (List.mem_of_getElem? HSL.out))⟩
        have HOK := Lib.hid hok
        have HBW := Lib.hid (below_later HB.out HBZ.out)
        have HMW := Lib.hid (HMZ.out.later HB.out)
        clear hok HR1 HR2 hke HB HBZ HMZ
        go_wp2_with fail
        refine (Lay_any L3 _ (n : Int) (note L s.pos) _ HMW.out (HS.out.later HBW.out) (lens_of H3.out) HZ3.out).mono ?_
        rintro e wv ⟨hbv, ⟨hz0, -⟩ | ⟨-, hno, -⟩ | ⟨-, -, vv, rfl, hov⟩⟩
        · exact absurd H3.out hz0
        · exact absurd HOK.out hno
        have hmv := hov.mods
        rw [HS3.out, layTo_all HSL.out, HBK.out] at hmv
        have HBV := Lib.hid (below_later hbv HBW.out)
        obtain ⟨Av, cv, rfl⟩ := hmv.form
        have HMV := Lib.hid hmv
        clear hbv hmv hov HBW HMW a5
        go_wp2_with fail
        refine (EqModules_same L _ _ _ HMV.out (HN.out.later HBV.out) hl (eq_lens H0.out).2).mono ?_
        rintro e wu ⟨rfl, hbu⟩
        have HBU := Lib.hid (below_later hbu HBV.out)
        clear hbu
        go_wp2_with fail
        go_ret
        exact Makes.mk rfl HBU.out
  · have i1 : ((keep.length : Int) == (nw : Int)) = false := beq_eq_false_iff_ne.2 (by omega)
    have HBX := HB12
    have HOX := HO12
    clear hkn HM12 HSN HZ2 H20 HL2 HB12 HO12 HNI
    by_cases hs0 : slot < 0
    · go_wp2_with fail
      go_ret
      exact Makes.mk rfl HBX.out
    obtain ⟨n, rfl⟩ : ∃ n : Nat, slot = (n : Int) := ⟨slot.toNat, by omega⟩
    by_cases hsn : n < (slots L).length
    rotate_left
    · go_wp2_with fail
      go_ret
      exact Makes.mk rfl HBX.out
    obtain ⟨s, hs⟩ : ∃ s, (slots L)[n]? = some s := ⟨_, List.getElem?_eq_getElem hsn⟩
    have HSL := Lib.hid hs
    clear hs
    go_wp2_with fail
    refine (Lay_any L _ (n : Int) t _ (HN.out.later HBX.out) (HS.out.later HBX.out) (lens_of H0.out) HZ.out).mono ?_
    rintro e wy ⟨hby, ⟨hz0, -⟩ | ⟨-, -, rfl⟩ | ⟨-, hok, vy, rfl, hoy⟩⟩
    · exact absurd H0.out hz0
    · have HBY := Lib.hid (below_later hby HBX.out)
      clear hby
      go_wp2_with fail
      go_ret
      exact Makes.mk rfl HBY.out
    have hmy := hoy.mods
    rw [layTo_all HSL.out] at hmy
    have HBY := Lib.hid (below_later hby HBX.out)
    have HOY := Lib.hid (own_later HOX.out hby)
    have HTX : Hid (∀ (k : Nat) s', (slots L)[k]? = some s' → note (lay (laidF L s t) L) s'.pos = if k = n then laid s t else note L s'.pos) := Lib.hid fun k s' => laid_told HSL.out
    have HS3 : Hid (slots (lay (laidF L s t) L) = slots L) := Lib.hid (slots_lay _ _)
    have H3 : Hid (Mo.mods (lay (laidF L s t) L) = 0) := Lib.hid (laid_mods H0.out (List.mem_of_getElem? HSL.out) hok.2.2)
    have HZ3 : Hid (∀ m ∈ lay (laidF L s t) L, MdSz m) := Lib.hid (laidF_sz HZ.out hok.2.2)
    have HBK : Hid (lay (upd (note (lay (laidF L s t) L)) s.pos (laid s (note L s.pos))) (lay (laidF L s t) L) = L) := Lib.hid (laid_back H0.out (List.mem_of_getElem? HSL.out))
    have hl3 : (lay (laidF L s t) L).length = L.length := layM_len 0 L
    have HMY : Hid (Mods wy vy (lay (laidF L s t) L)) := Lib.hid hmy
    clear hby hmy hoy hok HBX HOX
    generalize lay (laidF L s t) L = L3 at *
    obtain ⟨Ay, cy, rfl⟩ := HMY.out.form
    have hll3 : L3.length ≤ 1000000000000000 := by omega
    rw [hl3] at HMY ⊢
    clear hl3
    go_wp2_with fail
    refine (Slots_any L3 _ _ HMY.out (HS.out.later HBY.out) hll3 HZ3.out).mono ?_
    rintro e wz ⟨vz, rfl, hbz, hoz⟩
    have htz : told L3 = slots L := by unfold told; rw [if_pos H3.out]; exact HS3.out
    rw [htz] at hoz
    rw [H3.out]
    have HBZ := Lib.hid (below_later hbz HBY.out)
    have HOZ := Lib.hid (own_later HOY.out hbz)
    have HMZ := Lib.hid (HMY.out.later hbz)
    obtain ⟨g1, k1, hv1, hr1⟩ := slot_row HOZ.out (by omega)
    obtain ⟨g2, k2, hv2, hr2⟩ := slot_row hoz (by omega)
    cases hv1
    cases hv2
    have HR1 := Lib.hid hr1
    have HR2 := Lib.hid hr2
    clear hbz hoz htz HBY HOY HMY HOZ hr1 hr2
    go_wp2_with fail
    go_loopw [26] (fun i wr => ∃ k : Nat, k ≤ (slots L).length ∧ i = .int .i64 k ∧ Hid (Below wz.heap.size wz wr)) (fun i _ => (slots L).length - (intOf i).toNat)
    case atStart => exact ⟨0, Nat.zero_le _, rfl, Lib.hid (Below.refl _ _)⟩
    case round =>
      obtain ⟨k, hk, rfl, HB⟩ := hrel
      by_cases hlt : k < (slots L).length
      · obtain ⟨s', hs'⟩ : ∃ s', (slots L)[k]? = some s' := ⟨_, List.getElem?_eq_getElem hlt⟩
        obtain ⟨a0, a1, a2, a3, a4, a5⟩ := HR1.out wr HB.out k s' hs'
        have HBC := Lib.hid (HR2.out)
        have hbw : Below wr.heap.size wr (wr.alloc (.cells #[.string s'.mod, .bool s'.imp, .int .i64 s'.item, .int .i64 s'.node, .bool s'.res, .string (note L s'.pos)] 39)) := (Below.refl _ _).alloc (Nat.le_refl _) _
        have hbw2 : Below wr.heap.size wr (wr.alloc (.cells #[.string s'.mod, .bool s'.imp, .int .i64 s'.item, .int .i64 s'.node, .bool s'.res, .string (note L3 s'.pos)] 39)) := (Below.refl _ _).alloc (Nat.le_refl _) _
        have HB2 := Lib.hid (below_later hbw HB.out)
        have HB3 := Lib.hid (below_later hbw2 HB.out)
        have HBX : Hid (Blk wr.heap.size #[.string s'.mod, .bool s'.imp, .int .i64 s'.item, .int .i64 s'.node, .bool s'.res, .string (note L3 s'.pos)] 39 (wr.alloc (.cells #[.string s'.mod, .bool s'.imp, .int .i64 s'.item, .int .i64 s'.node, .bool s'.res, .string (note L3 s'.pos)] 39))) := Lib.hid (Blk.alloc _ _ _)
        obtain ⟨b0, b1, b2, b3, b4, b5⟩ := HR2.out _ HB3.out k s' hs'
        have hq := HTX.out k s' hs'
        have b6 := (HR2.out _ HB2.out k s' hs').2.2.2.2.2
        have hg2 : g2 < wr.heap.size := World.block_lt_of_cell? wr _ (HR2.out _ HB.out k s' hs').1
        have hne : ¬ g2 = wr.heap.size := by omega
        have HS1 := Lib.hid hs'
        clear hbw hbw2 HB HBC hs'
        by_cases hkn2 : k = n
        · subst hkn2
          have i2 : ((k : Int) == (k : Int)) = true := beq_self_eq_true _
          rw [if_pos rfl] at hq
          have hss : s' = s := Option.some.inj (HS1.out.symm.trans HSL.out)
          subst hss
          have hqc : (t.toList == (note L3 s'.pos).toList) = true ∨ ((t.toList == (note L3 s'.pos).toList) = false ∧ (t.toList == []) = true ∧ ((note L3 s'.pos).toList == [63]) = true) := by
            rw [hq]
            unfold laid
            by_cases hc : t = no ∧ s'.absent = false
            · rw [if_pos hc]
              refine .inr ⟨by rw [hc.1, toL', toL']; rfl, by rw [hc.1, toL']; rfl, by rw [toL']; rfl⟩
            · rw [if_neg hc]
              exact .inl (beq_self_eq_true _)
          clear hq
          generalize note L3 s'.pos = q at *
          rcases hqc with j1 | ⟨j1, j2, j3⟩
          · go_wp2_with fail
            clear a0 a1 a2 a3 a4 a5 b6
            have c0 := HBX.out.cell (i := 0) rfl
            have c1 := HBX.out.cell (i := 1) rfl
            have c2 := HBX.out.cell (i := 2) rfl
            have c3 := HBX.out.cell (i := 3) rfl
            have c4 := HBX.out.cell (i := 4) rfl
            have c5 := HBX.out.cell (i := 5) rfl
            clear HBX HB2
            generalize wr.alloc _ = w9 at *
            generalize wr.heap.size = gx at *
            refine wp_region_plan (S := fun w' => (w'.cell? ⟨gx, 0, none⟩ = some (.string s'.mod) ∧ w'.cell? ⟨gx, 1, none⟩ = some (.bool s'.imp) ∧ w'.cell? ⟨gx, 2, none⟩ = some (.int .i64 s'.item) ∧ w'.cell? ⟨gx, 3, none⟩ = some (.int .i64 s'.node) ∧ w'.cell? ⟨gx, 4, none⟩ = some (.bool s'.res) ∧ w'.cell? ⟨gx, 5, none⟩ = some (.string q)) ∧
                (w'.cell? ⟨g2, k * 6, none⟩ = some (.string s'.mod) ∧ w'.cell? ⟨g2, k * 6 + 1, none⟩ = some (.bool s'.imp) ∧ w'.cell? ⟨g2, k * 6 + 2, none⟩ = some (.int .i64 s'.item) ∧ w'.cell? ⟨g2, k * 6 + 3, none⟩ = some (.int .i64 s'.node) ∧ w'.cell? ⟨g2, k * 6 + 4, none⟩ = some (.bool s'.res) ∧ w'.cell? ⟨g2, k * 6 + 5, none⟩ = some (.string q)))
              [(0, true), (1, true), (2, true), (3, true), (4, true), (5, true)] (by kernel_rfl) (by kernel_rfl) (by kernel_rfl) (fun _ _ _ _ _ h => h) ⟨⟨c0, c1, c2, c3, c4, c5⟩, ⟨b0, b1, b2, b3, b4, b5⟩⟩ ?_
            clear c0 c1 c2 c3 c4 c5 b0 b1 b2 b3 b4 b5
            intro HP
            repeat (first | (apply wpPlan_look; rfl; rfl; (intro wq hq; (try dsimp only at hq); go_split_ands; go_simp; (try rw [if_neg (by omega)]); (try rw [if_pos (by omega)]); try with_reducible rfl); simp only [Act.put, List.setIfInBounds_toArray, List.set_cons_zero, List.set_cons_succ]) | (apply wpPlan_skip; rfl; rfl; simp only [Act.put, List.setIfInBounds_toArray, List.set_cons_zero, List.set_cons_succ]) | (apply wpPlan_pass; rfl; rfl; assumption; simp only [Act.put, List.setIfInBounds_toArray, List.set_cons_zero, List.set_cons_succ]))
            have HBD := Lib.hid HB3.out.drew
            clear HB3
            apply wpPlan_done
            clear HP
            go_wp2_with fail
            go_roundw
            case rel => exact ⟨k + 1, by omega, by go_num, HBD⟩
            case measure => simp [intOf]; omega
          · go_wp2_with fail
            clear a0 a1 a2 a3 a4 a5 b6
            have c0 := HBX.out.cell (i := 0) rfl
            have c1 := HBX.out.cell (i := 1) rfl
            have c2 := HBX.out.cell (i := 2) rfl
            have c3 := HBX.out.cell (i := 3) rfl
            have c4 := HBX.out.cell (i := 4) rfl
            have c5 := HBX.out.cell (i := 5) rfl
            clear HBX HB2
            generalize wr.alloc _ = w9 at *
            generalize wr.heap.size = gx at *
            refine wp_region_plan (S := fun w' => (w'.cell? ⟨gx, 0, none⟩ = some (.string s'.mod) ∧ w'.cell? ⟨gx, 1, none⟩ = some (.bool s'.imp) ∧ w'.cell? ⟨gx, 2, none⟩ = some (.int .i64 s'.item) ∧ w'.cell? ⟨gx, 3, none⟩ = some (.int .i64 s'.node) ∧ w'.cell? ⟨gx, 4, none⟩ = some (.bool s'.res) ∧ w'.cell? ⟨gx, 5, none⟩ = some (.string q)) ∧
                (w'.cell? ⟨g2, k * 6, none⟩ = some (.string s'.mod) ∧ w'.cell? ⟨g2, k * 6 + 1, none⟩ = some (.bool s'.imp) ∧ w'.cell? ⟨g2, k * 6 + 2, none⟩ = some (.int .i64 s'.item) ∧ w'.cell? ⟨g2, k * 6 + 3, none⟩ = some (.int .i64 s'.node) ∧ w'.cell? ⟨g2, k * 6 + 4, none⟩ = some (.bool s'.res) ∧ w'.cell? ⟨g2, k * 6 + 5, none⟩ = some (.string q)))
              [(0, true), (1, true), (2, true), (3, true), (4, true), (5, true)] (by kernel_rfl) (by kernel_rfl) (by kernel_rfl) (fun _ _ _ _ _ h => h) ⟨⟨c0, c1, c2, c3, c4, c5⟩, ⟨b0, b1, b2, b3, b4, b5⟩⟩ ?_
            clear c0 c1 c2 c3 c4 c5 b0 b1 b2 b3 b4 b5
            intro HP
            repeat (first | (apply wpPlan_look; rfl; rfl; (intro wq hq; (try dsimp only at hq); go_split_ands; go_simp; (try rw [if_neg (by omega)]); (try rw [if_pos (by omega)]); try with_reducible rfl); simp only [Act.put, List.setIfInBounds_toArray, List.set_cons_zero, List.set_cons_succ]) | (apply wpPlan_skip; rfl; rfl; simp only [Act.put, List.setIfInBounds_toArray, List.set_cons_zero, List.set_cons_succ]) | (apply wpPlan_pass; rfl; rfl; assumption; simp only [Act.put, List.setIfInBounds_toArray, List.set_cons_zero, List.set_cons_succ]))
            have HBD := Lib.hid HB3.out.drew
            clear HB3
            apply wpPlan_done
            clear HP
            go_wp2_with fail
            go_roundw
            case rel => exact ⟨k + 1, by omega, by go_num, HBD⟩
            case measure => simp [intOf]; omega
        · have i2 : ((k : Int) == (n : Int)) = false := beq_eq_false_iff_ne.2 (by omega)
          rw [if_neg hkn2] at hq
          rw [hq] at b5 b6 HBX HB3 b0 b1 b2 b3 b4
          clear hkn2 hq
          go_wp2_with fail
          clear a0 a1 a2 a3 a4 a5 b6
          have c0 := HBX.out.cell (i := 0) rfl
          have c1 := HBX.out.cell (i := 1) rfl
          have c2 := HBX.out.cell (i := 2) rfl
          have c3 := HBX.out.cell (i := 3) rfl
          have c4 := HBX.out.cell (i := 4) rfl
          have c5 := HBX.out.cell (i := 5) rfl
          clear HBX HB2
          generalize wr.alloc _ = w9 at *
          generalize wr.heap.size = gx at *
          refine wp_region_plan (S := fun w' => (w'.cell? ⟨gx, 0, none⟩ = some (.string s'.mod) ∧ w'.cell? ⟨gx, 1, none⟩ = some (.bool s'.imp) ∧ w'.cell? ⟨gx, 2, none⟩ = some (.int .i64 s'.item) ∧ w'.cell? ⟨gx, 3, none⟩ = some (.int .i64 s'.node) ∧ w'.cell? ⟨gx, 4, none⟩ = some (.bool s'.res) ∧ w'.cell? ⟨gx, 5, none⟩ = some (.string (note L s'.pos))) ∧
              (w'.cell? ⟨g2, k * 6, none⟩ = some (.string s'.mod) ∧ w'.cell? ⟨g2, k * 6 + 1, none⟩ = some (.bool s'.imp) ∧ w'.cell? ⟨g2, k * 6 + 2, none⟩ = some (.int .i64 s'.item) ∧ w'.cell? ⟨g2, k * 6 + 3, none⟩ = some (.int .i64 s'.node) ∧ w'.cell? ⟨g2, k * 6 + 4, none⟩ = some (.bool s'.res) ∧ w'.cell? ⟨g2, k * 6 + 5, none⟩ = some (.string (note L s'.pos))))
            [(0, true), (1, true), (2, true), (3, true), (4, true), (5, true)] (by kernel_rfl) (by kernel_rfl) (by kernel_rfl) (fun _ _ _ _ _ h => h) ⟨⟨c0, c1, c2, c3, c4, c5⟩, ⟨b0, b1, b2, b3, b4, b5⟩⟩ ?_
          clear c0 c1 c2 c3 c4 c5 b0 b1 b2 b3 b4 b5
          intro HP
          repeat (first | (apply wpPlan_look; rfl; rfl; (intro wq hq; (try dsimp only at hq); go_split_ands; go_simp; (try rw [if_neg (by omega)]); (try rw [if_pos (by omega)]); try with_reducible rfl); simp only [Act.put, List.setIfInBounds_toArray, List.set_cons_zero, List.set_cons_succ]) | (apply wpPlan_skip; rfl; rfl; simp only [Act.put, List.setIfInBounds_toArray, List.set_cons_zero, List.set_cons_succ]) | (apply wpPlan_pass; rfl; rfl; assumption; simp only [Act.put, List.setIfInBounds_toArray, List.set_cons_zero, List.set_cons_succ]))
          have HBD := Lib.hid HB3.out.drew
          clear HB3
          apply wpPlan_done
          clear HP
          go_wp2_with fail
          go_roundw
          case rel => exact ⟨k + 1, by omega, by go_num, HBD⟩
          case measure => simp [intOf]; omega
      · have hke : k = (slots L).length := by omega
        obtain ⟨-, -, -, -, -, a5⟩ := HR1.out wr HB.out n s HSL.out
        have hok : layOk L3 (n : Int) (note L s.pos) := ⟨by omega, by rw [HS3.out]; omega, good_txt (txt_good (txt_ok (f := note L) (by rw [lay_note]; exact H0.out)) (List.mem_of_getElem? HSL.out))⟩
        have HOK := Lib.hid hok
        have HBW := Lib.hid (below_later HB.out HBZ.out)
        have HMW := Lib.hid (HMZ.out.later HB.out)
        clear hok HR1 HR2 hke HB HBZ HMZ
        go_wp2_with fail
        refine (Lay_any L3 _ (n : Int) (note L s.pos) _ HMW.out (HS.out.later HBW.out) (lens_of H3.out) HZ3.out).mono ?_
        rintro e wv ⟨hbv, ⟨hz0, -⟩ | ⟨-, hno, -⟩ | ⟨-, -, vv, rfl, hov⟩⟩
        · exact absurd H3.out hz0
        · exact absurd HOK.out hno
        have hmv := hov.mods
        rw [HS3.out, layTo_all HSL.out, HBK.out] at hmv
        have HBV := Lib.hid (below_later hbv HBW.out)
        obtain ⟨Av, cv, rfl⟩ := hmv.form
        have HMV := Lib.hid hmv
        clear hbv hmv hov HBW HMW a5
        go_wp2_with fail
        refine (EqModules_same L _ _ _ HMV.out (HN.out.later HBV.out) hl (eq_lens H0.out).2).mono ?_
        rintro e wu ⟨rfl, hbu⟩
        have HBU := Lib.hid (below_later hbu HBV.out)
        clear hbu
        go_wp2_with fail
        go_ret
        exact Makes.mk rfl HBU.out
end Go.Proofs.YtidholghbjljaaaDoor

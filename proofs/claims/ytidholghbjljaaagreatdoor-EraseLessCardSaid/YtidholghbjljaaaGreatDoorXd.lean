
/- Walks of erase: no idle program. -/
import Derived.Test.YtidholghbjljaaaGreatDoorXc
namespace Culp.Er
set_option linter.unusedSimpArgs false
set_option linter.unusedVariables false
open Go Go.RowKit Culp
/-- A row's cells, by number. -/
theorem own_at {w : World} {base : Nat} {e : TypeId} {size : Nat} {v : Value} {n : Nat} {xs : List Value} (h : w.ownsRow base e size v n xs) (hn : 0 < n) : ∃ g cap, v = .slice (some ⟨g, 0, none⟩) n cap ∧ base ≤ g ∧ ∀ (j : Nat) u, xs[j]? = some u → w.cell? ⟨g, j, none⟩ = some u := by
  rcases h.2 with ⟨_, h0⟩ | ⟨g, cap, cur, rfl, hb, _⟩
  · omega
  · refine ⟨g, cap, rfl, hb, fun j u hj => ?_⟩
    have hl := (List.getElem?_eq_some_iff.1 hj).1
    rw [h.1] at hl
    rw [h.cellAt j hl]; exact hj
theorem flat_at {α : Type} (f : α → List Value) (n : Nat) (hf : ∀ x, (f x).length = n) : ∀ (L : List α) (i : Nat) (x : α) (j : Nat) (u : Value), L[i]? = some x → (f x)[j]? = some u → (L.flatMap f)[i * n + j]? = some u
  | [], i, x, j, u, h, _ => by simp at h
  | y :: L, 0, x, j, u, h, hu => by
    simp at h; subst h
    have hj := (List.getElem?_eq_some_iff.1 hu).1
    rw [List.flatMap_cons, Nat.zero_mul, Nat.zero_add, List.getElem?_append_left hj]
    exact hu
  | y :: L, i + 1, x, j, u, h, hu => by
    have := flat_at f n hf L i x j u (by simpa using h) hu
    rw [List.flatMap_cons, List.getElem?_append_right (by rw [hf]; rw [Nat.succ_mul]; omega), hf, show (i + 1) * n + j - n = i * n + j by rw [Nat.succ_mul]; omega]
    exact this
/-- A row of slots, as it is read. -/
theorem slot_row {w : World} {base : Nat} {e : TypeId} {v : Value} {S : List Sl} {f : Pos → ByteArray} (h : w.ownsRow base e 6 v S.length (S.flatMap fun s => slotC s (f s.pos))) (hn : 0 < S.length) : ∃ g cap, v = .slice (some ⟨g, 0, none⟩) S.length cap ∧ ∀ W, Below w.heap.size w W → ∀ (k : Nat) s, S[k]? = some s →
    W.cell? ⟨g, k * 6, none⟩ = some (.string s.mod) ∧ W.cell? ⟨g, k * 6 + 1, none⟩ = some (.bool s.imp) ∧ W.cell? ⟨g, k * 6 + 2, none⟩ = some (.int .i64 s.item) ∧ W.cell? ⟨g, k * 6 + 3, none⟩ = some (.int .i64 s.node) ∧ W.cell? ⟨g, k * 6 + 4, none⟩ = some (.bool s.res) ∧ W.cell? ⟨g, k * 6 + 5, none⟩ = some (.string (f s.pos)) := by
  obtain ⟨g, cap, rfl, -, hc⟩ := own_at h hn
  refine ⟨g, cap, rfl, fun W hW k s hs => ?_⟩
  have K : ∀ j u, (slotC s (f s.pos))[j]? = some u → W.cell? ⟨g, k * 6 + j, none⟩ = some u := fun j u hu => cell_later hW (hc _ _ (flat_at (fun s => slotC s (f s.pos)) 6 (fun _ => rfl) S k s j u hs hu))
  exact ⟨K 0 _ rfl, K 1 _ rfl, K 2 _ rfl, K 3 _ rfl, K 4 _ rfl, K 5 _ rfl⟩
theorem lens_of {L : List Md} (h : Mo.mods L = 0) : Lens L := by
  obtain ⟨h1, h2, h3⟩ := mods_zero.1 h
  obtain ⟨h4, h5⟩ := Mo.few_len h1
  refine ⟨by omega, fun md hm => by have := h5 md hm; omega, fun md hm => by have := h5 md hm; omega, fun md hm d hd => ?_⟩
  have := Mo.check_small ((modE_zero.1 (h3 md hm)).2 d hd).2
  omega
end Culp.Er
namespace Go.Proofs.YtidholghbjljaaaGreatDoor
open Go.RowKit Go.Maps Culp Culp.Er
theorem told_one : told oneL = slots oneL := by unfold told; rw [if_pos one_mods]
theorem toldW_one : toldW oneL = [1, 3] := by unfold toldW; rw [if_pos one_mods]; exact one_written
theorem bools_lit (w : World) (l : List Bool) (n : Nat) (hn : n = l.length) (t : TypeId) (g : Nat) (hg : w.heap.size = g) : Bools (w.alloc (.cells (l.map Value.bool).toArray t)) (.slice (some ⟨g, 0, none⟩) n n) l := by
  subst hn hg
  refine ⟨_, _, w.heap.size, 0, rfl, fun _ => ⟨rfl, by rw [World.size_alloc]; omega⟩, fun j x hj => ?_⟩
  rw [World.cell?_alloc_at _ _ _ _ rfl]
  simp [hj]
/-- The known module, as it is read. -/
theorem mod_read {w : World} {v : Value} {a u : ByteArray} (h : Mods w v (modL a u)) : ∃ b o c bd od cd bt ot ct, v = .slice (some ⟨b, o, none⟩) 1 c ∧ Hid (∀ W, Below w.heap.size w W → W.cell? ⟨b, o + 2, none⟩ = some (.slice (some ⟨bd, od, none⟩) 1 cd) ∧ W.cell? ⟨bd, od + 3, none⟩ = some (.slice (some ⟨bt, ot, none⟩) 3 ct) ∧ W.cell? ⟨bt, ot + 8 + 4, none⟩ = some (.string a) ∧ W.cell? ⟨bt, ot + 5, none⟩ = some (.string u)) := by
  obtain ⟨A, c, rfl, -, hA⟩ := h
  obtain ⟨b, o, rfl, hc⟩ := hA (by show (0 : Nat) < 1; omega)
  obtain ⟨cs, ⟨iv, dv, rfl, -, hd⟩, -, hk⟩ := hc 0 _ rfl
  obtain ⟨Ad, cd, hdv, -, hAd⟩ := hd
  obtain ⟨bd, od, rfl, hcd⟩ := hAd (by show (0 : Nat) < 1; omega)
  obtain ⟨cs, ⟨tv, rfl, ht⟩, -, hkd⟩ := hcd 0 _ rfl
  obtain ⟨At, ct, htv, -, hAt⟩ := ht
  obtain ⟨bt, ot, rfl, hN⟩ := hAt (by show (0 : Nat) < 3; omega)
  refine ⟨b, o, c, bd, od, cd, bt, ot, ct, rfl, Lib.hid fun W hW => ⟨?_, ?_, ?_, ?_⟩⟩
  · have := cell_later hW (hk 2 _ rfl)
    rw [Nat.zero_mul, Nat.add_zero, hdv] at this
    exact this
  · have := cell_later hW (hkd 3 _ rfl)
    rw [Nat.zero_mul, Nat.add_zero, htv] at this
    exact this
  · have := cell_later hW (hN 1 _ rfl 4 _ rfl)
    rw [Nat.one_mul] at this
    exact this
  · have := cell_later hW (hN 0 _ rfl 5 _ rfl)
    rw [Nat.zero_mul, Nat.add_zero] at this
    exact this
set_option maxRecDepth 100000 in
set_option maxHeartbeats 6400000 in
theorem eworks_any (w : World) (hS : Sp w) : Calls Tryz.prog 6 #[] w (Makes (.bool true) w) := by
  have HS := Lib.hid hS
  clear hS
  go_enter Tryz.func6, Tryz.ntmps6
  go_wp2_with fail
  refine (one_any _).mono ?_
  rintro E w1 ⟨v1, rfl, hb1, hm1⟩
  have H1 := Lib.hid hb1
  obtain ⟨A1, c1, rfl⟩ := hm1.form
  have HM1 := Lib.hid hm1
  clear hb1 hm1
  go_wp2_with fail
  refine (Slots_any oneL _ w1 HM1.out (HS.out.later H1.out) (by have := (mod_lens (bt [105]) (bt [])).len; show oneL.length ≤ _; show (1 : Nat) ≤ _; omega) one_sz).mono ?_
  rintro E w2 ⟨v2, rfl, hb2, ho2⟩
  rw [told_one, one_slots] at ho2
  rw [one_mods]
  have H2 := Lib.hid (below_later hb2 H1.out)
  obtain ⟨g2, k2, rfl, hg2, hc2⟩ := own_at ho2 (by decide)
  have HC2 : Hid (∀ W, Below w2.heap.size w2 W → W.cell? ⟨g2, 18, none⟩ = some (.string { data := #[109] }) ∧ W.cell? ⟨g2, 18 + 1, none⟩ = some (.bool false) ∧ W.cell? ⟨g2, 18 + 2, none⟩ = some (.int .i64 0) ∧ W.cell? ⟨g2, 18 + 3, none⟩ = some (.int .i64 1) ∧ W.cell? ⟨g2, 18 + 4, none⟩ = some (.bool false) ∧ W.cell? ⟨g2, 18 + 5, none⟩ = some (.string { data := #[105] })) := Lib.hid fun W hW =>
    ⟨cell_later hW (hc2 18 _ rfl), cell_later hW (hc2 19 _ rfl), cell_later hW (hc2 20 _ rfl), cell_later hW (hc2 21 _ rfl), cell_later hW (hc2 22 _ rfl), cell_later hW (hc2 23 _ rfl)⟩
  clear hb2 ho2 hc2 HM1
  go_wp2_with fail
  refine (one_any _).mono ?_
  rintro E w3 ⟨v3, rfl, hb3, hm3⟩
  have H3 := Lib.hid (below_later hb3 H2.out)
  have H23 := Lib.hid hb3
  obtain ⟨A3, c3, rfl⟩ := hm3.form
  have HM3 := Lib.hid hm3
  clear hb3 hm3
  go_wp2_with fail
  refine (Written_any oneL _ w3 HM3.out (HS.out.later H3.out) (by show (1 : Nat) ≤ _; omega) one_sz).mono ?_
  rintro E w4 ⟨v4, rfl, hb4, ho4⟩
  rw [toldW_one] at ho4
  rw [one_mods]
  have H4 := Lib.hid (below_later hb4 H3.out)
  have H24 := Lib.hid (below_later hb4 H23.out)
  obtain ⟨g4, k4, rfl, hg4, hc4⟩ := own_at ho4 (by decide)
  have HC4 : Hid (∀ W, Below w4.heap.size w4 W → W.cell? ⟨g4, 1, none⟩ = some (.int .i64 3)) := Lib.hid fun W hW => cell_later hW (hc4 1 _ rfl)
  clear hb4 ho4 hc4 HM3 H23 hg2 hg4
  go_wp2_with fail
  refine (one_any _).mono ?_
  rintro E w5 ⟨v5, rfl, hb5, hm5⟩
  have H5 := Lib.hid (below_later hb5 H4.out)
  have H25 := Lib.hid (below_later hb5 H24.out)
  have H45 := Lib.hid hb5
  obtain ⟨A5, c5, rfl⟩ := hm5.form
  have HM5 := Lib.hid hm5
  clear hb5 hm5 H24
  go_wp2_with fail
  have HBL := Lib.hid (bools_lit w5 [true, false] 2 rfl 4 w5.heap.size rfl)
  have hba : Below w5.heap.size w5 (w5.alloc (.cells #[.bool true, .bool false] 4)) := (Below.refl _ _).alloc (Nat.le_refl _) _
  have HBA := Lib.hid hba
  clear hba
  refine (Keep_any oneL _ _ [true, false] _ (HM5.out.later HBA.out) HBL.out (by decide) (HS.out.later (below_later HBA.out H5.out)) (lens_of one_mods) one_sz).mono ?_
  rintro E w6 ⟨hb6, ⟨hz, -⟩ | ⟨-, hz, -⟩ | ⟨-, -, v6, rfl, ho6⟩⟩
  · exact absurd one_mods hz
  · exact absurd one_count hz
  have hm6 : Mods w6 v6 (modL (bt [63]) (bt [])) := by
    have := ho6.mods
    have e : lay (keepAt [true, false] (slots oneL) (note oneL) (slots oneL).length).2 oneL = modL (bt [63]) (bt []) := one_kept
    rwa [e] at this
  have H6 := Lib.hid (below_later hb6 (below_later HBA.out H5.out))
  have H26 := Lib.hid (below_later hb6 (below_later HBA.out H25.out))
  have H46 := Lib.hid (below_later hb6 (below_later HBA.out H45.out))
  obtain ⟨b6, o6, c6, bd6, od6, cd6, bt6, ot6, ct6, rfl, HR6⟩ := mod_read hm6
  have HM6 := Lib.hid hm6
  clear hb6 ho6 hm6 HBA HBL HM5 H25 H45
  go_wp2_with fail
  refine (one_any _).mono ?_
  rintro E w7 ⟨v7, rfl, hb7, hm7⟩
  have H7 := Lib.hid (below_later hb7 H6.out)
  have H27 := Lib.hid (below_later hb7 H26.out)
  have H47 := Lib.hid (below_later hb7 H46.out)
  have H67 := Lib.hid hb7
  obtain ⟨A7, c7, rfl⟩ := hm7.form
  have HM7 := Lib.hid hm7
  clear hb7 hm7 H26 H46
  go_wp2_with fail
  refine (Lay_any oneL _ 2 (bt [116]) w7 HM7.out (HS.out.later H7.out) (lens_of one_mods) one_sz).mono ?_
  rintro E w8 ⟨hb8, ⟨hz, -⟩ | ⟨-, hz, -⟩ | ⟨-, -, v8, rfl, ho8⟩⟩
  · exact absurd one_mods hz
  · exact absurd ⟨by decide, by rw [one_slots]; decide, .inr one_ty⟩ hz
  have hm8 : Mods w8 v8 (modL (bt [105]) (bt [116])) := by
    have := ho8.mods
    rwa [one_laid] at this
  have H8 := Lib.hid (below_later hb8 H7.out)
  have H28 := Lib.hid (below_later hb8 H27.out)
  have H48 := Lib.hid (below_later hb8 H47.out)
  have H68 := Lib.hid (below_later hb8 H67.out)
  obtain ⟨b8, o8, c8, bd8, od8, cd8, bt8, ot8, ct8, rfl, HR8⟩ := mod_read hm8
  clear hb8 ho8 hm8 HM7 H27 H47 H67
  obtain ⟨a0, a1, a2, a3, a4, a5⟩ := HC2.out w8 H28.out
  have a6 := HC4.out w8 H48.out
  obtain ⟨d0, d1, d2, -⟩ := HR6.out w8 H68.out
  obtain ⟨f0, f1, -, f3⟩ := HR8.out w8 (Below.refl _ _)
  replace d2 : w8.cell? ⟨bt6, ot6 + 8 + 4, none⟩ = some (.string { data := #[63] }) := d2
  replace f3 : w8.cell? ⟨bt8, ot8 + 5, none⟩ = some (.string { data := #[116] }) := f3
  go_wp2_with fail
  refine (one_any _).mono ?_
  rintro E w9 ⟨v9, rfl, hb9, hm9⟩
  have H9 := Lib.hid (below_later hb9 H8.out)
  have H69 := Lib.hid (below_later hb9 H68.out)
  obtain ⟨A9, c9, rfl⟩ := hm9.form
  have HM9 := Lib.hid hm9
  clear hb9 hm9 a0 a1 a2 a3 a4 a5 a6 d0 d1 d2 f0 f1 f3 HC2 HC4 HR6 HR8
  go_wp2_with fail
  refine (Less_any oneL (modL (bt [63]) (bt [])) _ _ w9 HM9.out (HM6.out.later H69.out) (HS.out.later H9.out) (lens_of one_mods) (mod_lens _ _) one_sz (mod_sz _ _ (by decide) (by decide))).mono ?_
  rintro E w10 ⟨⟨z, rfl, hz⟩, hb10⟩
  obtain rfl := hz.2 one_less
  have H10 := Lib.hid (below_later hb10 H9.out)
  have H610 := Lib.hid (below_later hb10 H69.out)
  clear hb10 hz HM9 H69
  go_wp2_with fail
  refine (one_any _).mono ?_
  rintro E w11 ⟨v11, rfl, hb11, hm11⟩
  have H11 := Lib.hid (below_later hb11 H10.out)
  have H611 := Lib.hid (below_later hb11 H610.out)
  obtain ⟨A11, c11, rfl⟩ := hm11.form
  have HM11 := Lib.hid hm11
  clear hb11 hm11 H610
  go_wp2_with fail
  refine (Less_any (modL (bt [63]) (bt [])) oneL _ _ w11 (HM6.out.later H611.out) HM11.out (HS.out.later H11.out) (mod_lens _ _) (lens_of one_mods) (mod_sz _ _ (by decide) (by decide)) one_sz).mono ?_
  rintro E w12 ⟨⟨z, rfl, hz⟩, hb12⟩
  have hzf : z = false := by
    cases z with
    | false => rfl
    | true => exact absurd (hz.1 rfl) one_more
  subst hzf
  have H12 := Lib.hid (below_later hb12 H11.out)
  clear hb12 hz HM11 HM6 H611
  go_wp2_with fail
  refine (one_any _).mono ?_
  rintro E w13 ⟨v13, rfl, hb13, hm13⟩
  have H13 := Lib.hid (below_later hb13 H12.out)
  obtain ⟨A13, c13, rfl⟩ := hm13.form
  have HM13 := Lib.hid hm13
  clear hb13 hm13
  go_wp2_with fail
  refine (Static_any oneL _ w13 HM13.out (HS.out.later H13.out) (by show (1 : Nat) ≤ _; omega) one_sz).mono ?_
  rintro E w14 ⟨rfl, hb14⟩
  rw [one_static]
  have H14 := Lib.hid (below_later hb14 H13.out)
  clear hb14
  go_wp2_with fail
  go_ret
  exact Makes.mk rfl H14.out
end Go.Proofs.YtidholghbjljaaaGreatDoor

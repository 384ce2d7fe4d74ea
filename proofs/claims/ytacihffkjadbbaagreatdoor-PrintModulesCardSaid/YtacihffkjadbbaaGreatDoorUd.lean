
/- Walks of types.Words: types with parts. -/
import Derived.Test.YtacihffkjadbbaaGreatDoorUc
namespace Go.Proofs.YtacihffkjadbbaaGreatDoor
set_option linter.unusedSimpArgs false
set_option linter.unusedVariables false
open Go.RowKit Culp
theorem read_parts {B : Nat} {w : World} {pv : Value} {ks : List Ty} (h : w.ownsRow B 9 1 pv ks.length (strs ks)) (hk : 0 < ks.length) : ∃ g c, pv = .slice (some ⟨g, 0, none⟩) ks.length c ∧ B ≤ g ∧ ∀ (j : Nat) (k : Ty), ks[j]? = some k → w.cell? ⟨g, j, none⟩ = some (.string k.str) := by
  rcases h.2 with ⟨_, hz⟩ | ⟨g, cap, cur, rfl, hb, r⟩
  · omega
  · refine ⟨g, cap, rfl, hb, fun j k hj => ?_⟩
    have := h.cells (g := g) rfl j (.string k.str) (by simp [strs, hj])
    have ha : (⟨g, 0, none⟩ : Addr).add j = ⟨g, j, none⟩ := by
      unfold Addr.add
      split
      · rename_i h0
        simp [h0]
      · simp
    rw [ha] at this
    exact this
/-- So far. -/
structure St (B b : Nat) (bs : List Value) (o : Option Nat) (w1 : World) (L : List UInt8) (p v : Value) (w : World) : Prop where
  pen : PenV 128 [] B b p v (bs ++ Lib.byteCells L) w
  self : Self b p
  keep : KeepN b o w1 w
  own : v.ownBlock = o ∨ ∃ g, v.ownBlock = some g ∧ w1.heap.size ≤ g
theorem St.step {B b : Nat} {bs : List Value} {o : Option Nat} {w1 w w2 : World} {L l : List UInt8} {p v v2 : Value} (h : St B b bs o w1 L p v w) (h2 : PenV 128 [] B b (.pointer (some ⟨b, 0, none⟩)) v2 ((bs ++ Lib.byteCells L) ++ Lib.byteCells l) w2) (k : KeepN b v.ownBlock w w2) (ho : v2.ownBlock = v.ownBlock ∨ ∃ g, v2.ownBlock = some g ∧ w.heap.size ≤ g) : St B b bs o w1 (L ++ l) (.pointer (some ⟨b, 0, none⟩)) v2 w2 := by
  refine ⟨?_, .inr rfl, h.keep.trans k h.own, ?_⟩
  · have e : bs ++ Lib.byteCells (L ++ l) = bs ++ Lib.byteCells L ++ Lib.byteCells l := by simp [Lib.byteCells]
    rw [e]; exact h2
  · have hs := h.keep.size
    rcases ho with e | ⟨g, e, hg⟩
    · rw [e]; exact h.own
    · exact .inr ⟨g, e, by omega⟩
theorem St.cell {B b : Nat} {bs : List Value} {o : Option Nat} {w1 w : World} {L : List UInt8} {p v u : Value} {g j : Nat} (h : St B b bs o w1 L p v w) (hc : w1.cell? ⟨g, j, none⟩ = some u) (hb : g ≠ b) (ho : o ≠ some g) : w.cell? ⟨g, j, none⟩ = some u := h.keep.cell hc hb ho
/-- What arm does with a type. -/
def arms (t : Ty) : List UInt8 := if Pt.isFn t then [40] ++ Pt.wr t ++ [41] else Pt.wr t
def AP (t : Ty) : Prop := ∀ (B b : Nat) (p v : Value) (bs : List Value) (w : World), PenV 128 [] B b p v bs w → Self b p → B ≤ w.heap.size → bs.length + (arms t).length ≤ 140737488355328 → Calls Tryz.prog 124 #[.pointer (some ⟨b, 0, none⟩), .string t.str] w (Wrote 128 [] B b bs v.ownBlock (arms t) w)
theorem isFn_hd (t : Ty) : ((t.hd.toNat : Int) == 62) = Pt.isFn t := by cases t <;> rfl
set_option maxRecDepth 100000 in
set_option maxHeartbeats 3200000 in
theorem arm_any (t : Ty) (ha : WP t) : AP t := by
  intro B b p v bs w h hp hB hl
  have hz : 0 < t.str.size := by rw [str_size]; exact t.enc_pos
  have hc : ((t.str[0].toNat : Int) == 62) = Pt.isFn t := by rw [str_get _ hz]; exact isFn_hd t
  have HA := Lib.hid ha
  have HS1 : Hid (St B b bs v.ownBlock w [] p v w) := Lib.hid ⟨by simpa [Lib.byteCells] using h, hp, KeepN.refl _ _ _, .inl rfl⟩
  clear ha h
  unfold arms at hl ⊢
  by_cases hF : Pt.isFn t = true
  · rw [hF] at hc
    rw [if_pos hF] at hl ⊢
    simp only [List.length_append, List.length_cons, List.length_nil] at hl
    go_enter Tryz.func124, Tryz.ntmps124
    go_wp2_with fail
    refine (WriteString_pen (s := ⟨#[40]⟩) lies_pen (by decide) HS1.out.pen HS1.out.self (by simp [Lib.byteCells, ByteArray.size]; omega) (by omega)).mono ?_
    rintro e w2 ⟨rfl, v2, h2, k2, o2⟩
    have HS2 := Lib.hid (HS1.out.step (l := [40]) h2 k2 o2)
    have hs2 := k2.size
    clear h2 k2 o2 HS1
    go_wp2_with fail
    refine (HA.out _ _ _ _ _ _ HS2.out.pen HS2.out.self (by omega) (by simp [Lib.byteCells]; omega)).mono ?_
    rintro e w3 ⟨rfl, v3, h3, k3, o3⟩
    have HS3 := Lib.hid (HS2.out.step h3 k3 o3)
    have hs3 := k3.size
    clear h3 k3 o3 HS2
    go_wp2_with fail
    refine (WriteString_pen (s := ⟨#[41]⟩) lies_pen (by decide) HS3.out.pen HS3.out.self (by simp [Lib.byteCells, ByteArray.size]; omega) (by omega)).mono ?_
    rintro e w4 ⟨rfl, v4, h4, k4, o4⟩
    have HS4 := Lib.hid (HS3.out.step (l := [41]) h4 k4 o4)
    have hs4 := k4.size
    clear h4 k4 o4 HS3
    go_wp2_with fail
    go_end0
    exact ⟨rfl, v4, by simpa [Lib.byteCells] using HS4.out.pen, HS4.out.keep, HS4.out.own⟩
  · simp only [Bool.not_eq_true] at hF
    rw [hF] at hc
    rw [if_neg (by rw [hF]; decide)] at hl ⊢
    go_enter Tryz.func124, Tryz.ntmps124
    go_wp2_with fail
    refine (HA.out _ _ _ _ _ _ HS1.out.pen HS1.out.self (by omega) (by simpa [Lib.byteCells] using hl)).mono ?_
    rintro e w2 ⟨rfl, v2, h2, k2, o2⟩
    go_wp2_with fail
    go_end0
    exact ⟨rfl, v2, by simpa [Lib.byteCells] using h2, k2, o2⟩
set_option maxRecDepth 100000 in
set_option maxHeartbeats 3200000 in
theorem write_list (a : Ty) (ha : WP a) (hf : (Ty.list a).fits) : WP (Ty.list a) := by
  intro B b p v bs w h hp hB hl
  have hw : Pt.wr (Ty.list a) = [91] ++ Pt.wr a ++ [93] := rfl
  have hwl := congrArg List.length hw
  simp only [List.length_append, List.length_cons, List.length_nil] at hwl
  have hz : 0 < (Ty.str (Ty.list a)).size := by rw [str_size]; exact (Ty.list a).enc_pos
  have hc : ((Ty.str (Ty.list a))[0].toNat : Int) = 108 := by rw [str_get _ hz]; rfl
  have HPA := Lib.hid (parts_any (Ty.list a) hf w)
  generalize hst : Ty.str (Ty.list a) = st at *
  have HV := Lib.hid h
  have HA := Lib.hid ha
  have hbl : b < w.heap.size := (Array.getElem?_eq_some_iff.1 h.2.1).1
  have hvo : ∀ g, v.ownBlock = some g → g < w.heap.size := fun g hg => (h.2.2.1.lt g hg).2
  clear ha
  go_enter Tryz.func111, Tryz.ntmps111
  go_wp2_with fail
  refine HPA.out.mono ?_
  rintro e w1 ⟨pv, rfl, hown, hb1⟩
  obtain ⟨g, c, rfl, hg, hcs⟩ := read_parts hown (by simp [Ty.kids])
  rw [show (Ty.list a).kids.length = 1 from rfl]
  have c1 := hcs 0 a rfl
  have hgb : g ≠ b := by omega
  have hgo : v.ownBlock ≠ some g := fun e => by have := hvo g e; omega
  have HS1 : Hid (St B b bs v.ownBlock w1 [] p v w1) := Lib.hid ⟨by simpa [Lib.byteCells] using pen_later HV.out hb1, hp, KeepN.refl _ _ _, .inl rfl⟩
  have hsz := hb1.size
  have HK0 := Lib.hid (KeepN.of b v.ownBlock hb1)
  clear hown hcs
  go_wp2_with fail
  refine (WriteString_pen (s := ⟨#[91]⟩) lies_pen (by decide) HS1.out.pen HS1.out.self (by simp [Lib.byteCells, ByteArray.size]; omega) (by omega)).mono ?_
  rintro e w2 ⟨rfl, v2, h2, k2, o2⟩
  have HS2 := Lib.hid (HS1.out.step (l := [91]) h2 k2 o2)
  have hs2 := k2.size
  have c2 := HS2.out.cell c1 hgb hgo
  clear h2 k2 o2 HS1
  go_wp2_with fail
  refine (HA.out _ _ _ _ _ _ HS2.out.pen HS2.out.self (by omega) (by simp [Lib.byteCells]; omega)).mono ?_
  rintro e w3 ⟨rfl, v3, h3, k3, o3⟩
  have HS3 := Lib.hid (HS2.out.step h3 k3 o3)
  have hs3 := k3.size
  have c3 := HS3.out.cell c1 hgb hgo
  clear h3 k3 o3 HS2 c2
  go_wp2_with fail
  refine (WriteString_pen (s := ⟨#[93]⟩) lies_pen (by decide) HS3.out.pen HS3.out.self (by simp [Lib.byteCells, ByteArray.size]; omega) (by omega)).mono ?_
  rintro e w4 ⟨rfl, v4, h4, k4, o4⟩
  have HS4 := Lib.hid (HS3.out.step (l := [93]) h4 k4 o4)
  have hs4 := k4.size
  have c4 := HS4.out.cell c1 hgb hgo
  clear h4 k4 o4 HS3 c3
  go_wp2_with fail
  go_end0
  refine Wrote.after (l1 := []) (l2 := Pt.wr (Ty.list a)) HK0.out (.inl rfl) ?_ rfl
  simp only [Lib.byteCells, List.map_nil, List.append_nil]
  exact ⟨rfl, v4, by rw [hw]; simpa [Lib.byteCells] using HS4.out.pen, HS4.out.keep, HS4.out.own⟩
set_option maxRecDepth 100000 in
set_option maxHeartbeats 3200000 in
theorem write_box (a : Ty) (ha : AP a) (hf : (Ty.box a).fits) : WP (Ty.box a) := by
  intro B b p v bs w h hp hB hl
  have hw : Pt.wr (Ty.box a) = [98, 111, 120, 32] ++ arms a := rfl
  have hwl := congrArg List.length hw
  simp only [List.length_append, List.length_cons, List.length_nil] at hwl
  have hz : 0 < (Ty.str (Ty.box a)).size := by rw [str_size]; exact (Ty.box a).enc_pos
  have hc : ((Ty.str (Ty.box a))[0].toNat : Int) = 120 := by rw [str_get _ hz]; rfl
  have HPA := Lib.hid (parts_any (Ty.box a) hf w)
  generalize hst : Ty.str (Ty.box a) = st at *
  have HV := Lib.hid h
  have HA := Lib.hid ha
  have hbl : b < w.heap.size := (Array.getElem?_eq_some_iff.1 h.2.1).1
  have hvo : ∀ g, v.ownBlock = some g → g < w.heap.size := fun g hg => (h.2.2.1.lt g hg).2
  clear ha
  go_enter Tryz.func111, Tryz.ntmps111
  go_wp2_with fail
  refine HPA.out.mono ?_
  rintro e w1 ⟨pv, rfl, hown, hb1⟩
  obtain ⟨g, c, rfl, hg, hcs⟩ := read_parts hown (by simp [Ty.kids])
  rw [show (Ty.box a).kids.length = 1 from rfl]
  have c1 := hcs 0 a rfl
  have hgb : g ≠ b := by omega
  have hgo : v.ownBlock ≠ some g := fun e => by have := hvo g e; omega
  have HS1 : Hid (St B b bs v.ownBlock w1 [] p v w1) := Lib.hid ⟨by simpa [Lib.byteCells] using pen_later HV.out hb1, hp, KeepN.refl _ _ _, .inl rfl⟩
  have hsz := hb1.size
  have HK0 := Lib.hid (KeepN.of b v.ownBlock hb1)
  clear hown hcs
  go_wp2_with fail
  refine (WriteString_pen (s := ⟨#[98, 111, 120, 32]⟩) lies_pen (by decide) HS1.out.pen HS1.out.self (by simp [Lib.byteCells, ByteArray.size]; omega) (by omega)).mono ?_
  rintro e w2 ⟨rfl, v2, h2, k2, o2⟩
  have HS2 := Lib.hid (HS1.out.step (l := [98, 111, 120, 32]) h2 k2 o2)
  have hs2 := k2.size
  have c2 := HS2.out.cell c1 hgb hgo
  clear h2 k2 o2 HS1
  go_wp2_with fail
  refine (HA.out _ _ _ _ _ _ HS2.out.pen HS2.out.self (by omega) (by simp [Lib.byteCells]; omega)).mono ?_
  rintro e w3 ⟨rfl, v3, h3, k3, o3⟩
  have HS3 := Lib.hid (HS2.out.step h3 k3 o3)
  have hs3 := k3.size
  have c3 := HS3.out.cell c1 hgb hgo
  clear h3 k3 o3 HS2 c2
  go_wp2_with fail
  go_end0
  refine Wrote.after (l1 := []) (l2 := Pt.wr (Ty.box a)) HK0.out (.inl rfl) ?_ rfl
  simp only [Lib.byteCells, List.map_nil, List.append_nil]
  exact ⟨rfl, v3, by rw [hw]; simpa [Lib.byteCells] using HS3.out.pen, HS3.out.keep, HS3.out.own⟩
set_option maxRecDepth 100000 in
set_option maxHeartbeats 3200000 in
theorem write_pair (a b2 : Ty) (ha : WP a) (hb : WP b2) (hf : (Ty.pair a b2).fits) : WP (Ty.pair a b2) := by
  intro B b p v bs w h hp hB hl
  have hw : Pt.wr (Ty.pair a b2) = [40] ++ Pt.wr a ++ [44, 32] ++ Pt.wr b2 ++ [41] := rfl
  have hwl := congrArg List.length hw
  simp only [List.length_append, List.length_cons, List.length_nil] at hwl
  have hz : 0 < (Ty.str (Ty.pair a b2)).size := by rw [str_size]; exact (Ty.pair a b2).enc_pos
  have hc : ((Ty.str (Ty.pair a b2))[0].toNat : Int) = 44 := by rw [str_get _ hz]; rfl
  have HPA := Lib.hid (parts_any (Ty.pair a b2) hf w)
  generalize hst : Ty.str (Ty.pair a b2) = st at *
  have HV := Lib.hid h
  have HA := Lib.hid ha
  have HB := Lib.hid hb
  have hbl : b < w.heap.size := (Array.getElem?_eq_some_iff.1 h.2.1).1
  have hvo : ∀ g, v.ownBlock = some g → g < w.heap.size := fun g hg => (h.2.2.1.lt g hg).2
  clear ha hb
  go_enter Tryz.func111, Tryz.ntmps111
  go_wp2_with fail
  refine HPA.out.mono ?_
  rintro e w1 ⟨pv, rfl, hown, hb1⟩
  obtain ⟨g, c, rfl, hg, hcs⟩ := read_parts hown (by simp [Ty.kids])
  rw [show (Ty.pair a b2).kids.length = 2 from rfl]
  have c1 := hcs 0 a rfl
  have d1 := hcs 1 b2 rfl
  have hgb : g ≠ b := by omega
  have hgo : v.ownBlock ≠ some g := fun e => by have := hvo g e; omega
  have HS1 : Hid (St B b bs v.ownBlock w1 [] p v w1) := Lib.hid ⟨by simpa [Lib.byteCells] using pen_later HV.out hb1, hp, KeepN.refl _ _ _, .inl rfl⟩
  have hsz := hb1.size
  have HK0 := Lib.hid (KeepN.of b v.ownBlock hb1)
  clear hown hcs
  go_wp2_with fail
  refine (WriteString_pen (s := ⟨#[40]⟩) lies_pen (by decide) HS1.out.pen HS1.out.self (by simp [Lib.byteCells, ByteArray.size]; omega) (by omega)).mono ?_
  rintro e w2 ⟨rfl, v2, h2, k2, o2⟩
  have HS2 := Lib.hid (HS1.out.step (l := [40]) h2 k2 o2)
  have hs2 := k2.size
  have c2 := HS2.out.cell c1 hgb hgo
  have d2 := HS2.out.cell d1 hgb hgo
  clear h2 k2 o2 HS1
  go_wp2_with fail
  refine (HA.out _ _ _ _ _ _ HS2.out.pen HS2.out.self (by omega) (by simp [Lib.byteCells]; omega)).mono ?_
  rintro e w3 ⟨rfl, v3, h3, k3, o3⟩
  have HS3 := Lib.hid (HS2.out.step h3 k3 o3)
  have hs3 := k3.size
  have c3 := HS3.out.cell c1 hgb hgo
  have d3 := HS3.out.cell d1 hgb hgo
  clear h3 k3 o3 HS2 c2 d2
  go_wp2_with fail
  refine (WriteString_pen (s := ⟨#[44, 32]⟩) lies_pen (by decide) HS3.out.pen HS3.out.self (by simp [Lib.byteCells, ByteArray.size]; omega) (by omega)).mono ?_
  rintro e w4 ⟨rfl, v4, h4, k4, o4⟩
  have HS4 := Lib.hid (HS3.out.step (l := [44, 32]) h4 k4 o4)
  have hs4 := k4.size
  have c4 := HS4.out.cell c1 hgb hgo
  have d4 := HS4.out.cell d1 hgb hgo
  clear h4 k4 o4 HS3 c3 d3
  go_wp2_with fail
  refine (HB.out _ _ _ _ _ _ HS4.out.pen HS4.out.self (by omega) (by simp [Lib.byteCells]; omega)).mono ?_
  rintro e w5 ⟨rfl, v5, h5, k5, o5⟩
  have HS5 := Lib.hid (HS4.out.step h5 k5 o5)
  have hs5 := k5.size
  have c5 := HS5.out.cell c1 hgb hgo
  have d5 := HS5.out.cell d1 hgb hgo
  clear h5 k5 o5 HS4 c4 d4
  go_wp2_with fail
  refine (WriteString_pen (s := ⟨#[41]⟩) lies_pen (by decide) HS5.out.pen HS5.out.self (by simp [Lib.byteCells, ByteArray.size]; omega) (by omega)).mono ?_
  rintro e w6 ⟨rfl, v6, h6, k6, o6⟩
  have HS6 := Lib.hid (HS5.out.step (l := [41]) h6 k6 o6)
  have hs6 := k6.size
  have c6 := HS6.out.cell c1 hgb hgo
  have d6 := HS6.out.cell d1 hgb hgo
  clear h6 k6 o6 HS5 c5 d5
  go_wp2_with fail
  go_end0
  refine Wrote.after (l1 := []) (l2 := Pt.wr (Ty.pair a b2)) HK0.out (.inl rfl) ?_ rfl
  simp only [Lib.byteCells, List.map_nil, List.append_nil]
  exact ⟨rfl, v6, by rw [hw]; simpa [Lib.byteCells] using HS6.out.pen, HS6.out.keep, HS6.out.own⟩
set_option maxRecDepth 100000 in
set_option maxHeartbeats 3200000 in
theorem write_fn (a b2 : Ty) (ha : AP a) (hb : WP b2) (hf : (Ty.fn a b2).fits) : WP (Ty.fn a b2) := by
  intro B b p v bs w h hp hB hl
  have hw : Pt.wr (Ty.fn a b2) = arms a ++ [32, 45, 62, 32] ++ Pt.wr b2 := rfl
  have hwl := congrArg List.length hw
  simp only [List.length_append, List.length_cons, List.length_nil] at hwl
  have hz : 0 < (Ty.str (Ty.fn a b2)).size := by rw [str_size]; exact (Ty.fn a b2).enc_pos
  have hc : ((Ty.str (Ty.fn a b2))[0].toNat : Int) = 62 := by rw [str_get _ hz]; rfl
  have HPA := Lib.hid (parts_any (Ty.fn a b2) hf w)
  generalize hst : Ty.str (Ty.fn a b2) = st at *
  have HV := Lib.hid h
  have HA := Lib.hid ha
  have HB := Lib.hid hb
  have hbl : b < w.heap.size := (Array.getElem?_eq_some_iff.1 h.2.1).1
  have hvo : ∀ g, v.ownBlock = some g → g < w.heap.size := fun g hg => (h.2.2.1.lt g hg).2
  clear ha hb
  go_enter Tryz.func111, Tryz.ntmps111
  go_wp2_with fail
  refine HPA.out.mono ?_
  rintro e w1 ⟨pv, rfl, hown, hb1⟩
  obtain ⟨g, c, rfl, hg, hcs⟩ := read_parts hown (by simp [Ty.kids])
  rw [show (Ty.fn a b2).kids.length = 2 from rfl]
  have c1 := hcs 0 a rfl
  have d1 := hcs 1 b2 rfl
  have hgb : g ≠ b := by omega
  have hgo : v.ownBlock ≠ some g := fun e => by have := hvo g e; omega
  have HS1 : Hid (St B b bs v.ownBlock w1 [] p v w1) := Lib.hid ⟨by simpa [Lib.byteCells] using pen_later HV.out hb1, hp, KeepN.refl _ _ _, .inl rfl⟩
  have hsz := hb1.size
  have HK0 := Lib.hid (KeepN.of b v.ownBlock hb1)
  clear hown hcs
  go_wp2_with fail
  refine (HA.out _ _ _ _ _ _ HS1.out.pen HS1.out.self (by omega) (by simp [Lib.byteCells]; omega)).mono ?_
  rintro e w2 ⟨rfl, v2, h2, k2, o2⟩
  have HS2 := Lib.hid (HS1.out.step h2 k2 o2)
  have hs2 := k2.size
  have c2 := HS2.out.cell c1 hgb hgo
  have d2 := HS2.out.cell d1 hgb hgo
  clear h2 k2 o2 HS1
  go_wp2_with fail
  refine (WriteString_pen (s := ⟨#[32, 45, 62, 32]⟩) lies_pen (by decide) HS2.out.pen HS2.out.self (by simp [Lib.byteCells, ByteArray.size]; omega) (by omega)).mono ?_
  rintro e w3 ⟨rfl, v3, h3, k3, o3⟩
  have HS3 := Lib.hid (HS2.out.step (l := [32, 45, 62, 32]) h3 k3 o3)
  have hs3 := k3.size
  have c3 := HS3.out.cell c1 hgb hgo
  have d3 := HS3.out.cell d1 hgb hgo
  clear h3 k3 o3 HS2 c2 d2
  go_wp2_with fail
  refine (HB.out _ _ _ _ _ _ HS3.out.pen HS3.out.self (by omega) (by simp [Lib.byteCells]; omega)).mono ?_
  rintro e w4 ⟨rfl, v4, h4, k4, o4⟩
  have HS4 := Lib.hid (HS3.out.step h4 k4 o4)
  have hs4 := k4.size
  have c4 := HS4.out.cell c1 hgb hgo
  have d4 := HS4.out.cell d1 hgb hgo
  clear h4 k4 o4 HS3 c3 d3
  go_wp2_with fail
  go_end0
  refine Wrote.after (l1 := []) (l2 := Pt.wr (Ty.fn a b2)) HK0.out (.inl rfl) ?_ rfl
  simp only [Lib.byteCells, List.map_nil, List.append_nil]
  exact ⟨rfl, v4, by rw [hw]; simpa [Lib.byteCells] using HS4.out.pen, HS4.out.keep, HS4.out.own⟩
theorem write_any (t : Ty) : t.fits → WP t := by
  induction t with
  | int => exact fun _ => write_int
  | bool => exact fun _ => write_bool
  | text => exact fun _ => write_text
  | dyn => exact fun _ => write_dyn
  | fn a b iha ihb => exact fun h => write_fn a b (arm_any a (iha (fits_sub h (by simp [Ty.kids])))) (ihb (fits_sub h (by simp [Ty.kids]))) h
  | pair a b iha ihb => exact fun h => write_pair a b (iha (fits_sub h (by simp [Ty.kids]))) (ihb (fits_sub h (by simp [Ty.kids]))) h
  | list a iha => exact fun h => write_list a (iha (fits_sub h (by simp [Ty.kids]))) h
  | box a iha => exact fun h => write_box a (arm_any a (iha (fits_sub h (by simp [Ty.kids])))) h
end Go.Proofs.YtacihffkjadbbaaGreatDoor

/- The walk of the statement CoreCasts. -/
import Derived.Test.YtnmhiddahfnkoaaHlpF
import Derived.Test.YtnmhiddahfnkoaaCkL
namespace Go.Proofs.Ytnmhiddahfnkoaa
set_option linter.unusedSimpArgs false
set_option linter.unusedVariables false
open Go.RowKit Culp

theorem lflat_len (L : List Nd) : (lflat L).length = L.length * 3 := by
  induction L with
  | nil => rfl
  | cons x L ih => simp only [lflat, List.flatMap_cons, List.length_append, List.length_cons, laidCells, List.length_nil] at *; omega
theorem lflat_at : ∀ (L : List Nd) (i : Nat) (x : Nd) (j : Nat) (u : Value), L[i]? = some x → (laidCells x)[j]? = some u → (lflat L)[i * 3 + j]? = some u := by
  intro L
  induction L with
  | nil => intro i x j u h; simp at h
  | cons y L ih =>
    intro i x j u h hu
    have hj : j < 3 := by have := (List.getElem?_eq_some_iff.1 hu).1; simpa [laidCells] using this
    have hl : (laidCells y).length = 3 := rfl
    have hc : lflat (y :: L) = laidCells y ++ lflat L := rfl
    cases i with
    | zero =>
      simp at h
      subst h
      rw [hc, List.getElem?_append_left (by omega)]
      simpa using hu
    | succ i =>
      rw [hc, List.getElem?_append_right (by omega), hl, show (i + 1) * 3 + j - 3 = i * 3 + j by omega]
      exact ih i x j u (by simpa using h) hu
/-- Casts lie from a block's head on. -/
def LaidAt (w : World) (g : Nat) (L : List Nd) : Prop := ∀ i x, L[i]? = some x → w.cell? ⟨g, i * 3, none⟩ = some (.int .i64 x.n) ∧ w.cell? ⟨g, i * 3 + 1, none⟩ = some (.string x.t) ∧ w.cell? ⟨g, i * 3 + 2, none⟩ = some (.string x.u)
theorem LaidAt.later {w w' : World} {g : Nat} {L : List Nd} (h : LaidAt w g L) (hb : Below w.heap.size w w') : LaidAt w' g L := fun i x hx => ⟨cell_later hb (h i x hx).1, cell_later hb (h i x hx).2.1, cell_later hb (h i x hx).2.2⟩
theorem own_laid {w : World} {base : Nat} {e : TypeId} {v : Value} {L : List Nd} (h : w.ownsRow base e 3 v L.length (lflat L)) (h0 : 0 < L.length) : ∃ g cap, v = .slice (some ⟨g, 0, none⟩) L.length cap ∧ base ≤ g ∧ L.length ≤ cap ∧ LaidAt w g L := by
  rcases h.2 with ⟨_, h1⟩ | ⟨g, cap, cur, rfl, hb, hh, hc, _⟩
  · omega
  · refine ⟨g, cap, rfl, hb, hc, fun i x hx => ?_⟩
    have hi := (List.getElem?_eq_some_iff.1 hx).1
    have k0 := lflat_at L i x 0 _ hx rfl
    have k1 := lflat_at L i x 1 _ hx rfl
    have k2 := lflat_at L i x 2 _ hx rfl
    have a0 := h.cellAt (i * 3) (by omega)
    have a1 := h.cellAt (i * 3 + 1) (by omega)
    have a2 := h.cellAt (i * 3 + 2) (by omega)
    rw [Nat.add_zero] at k0
    exact ⟨a0.trans k0, a1.trans k1, a2.trans k2⟩
theorem checkM_ne {T : List Nd} {tv : Value} {w : World} (hn : Nodes w tv T) (hT : T.length ≤ 100000000) (hsz : ∀ x ∈ T, szOk x) {e : Int} {p : Nat} (h : checkM T = .error (e, p)) : e ≠ 0 := by
  obtain ⟨en, w', _, ⟨_, hr⟩, _⟩ := rTypes_any T tv w hn hT hsz []
  rw [h] at hr
  exact hr.1

set_option maxRecDepth 100000 in
set_option maxHeartbeats 1600000 in
theorem CoreCasts_bad (T : List Nd) (tv : Value) (w : World) (hn : Nodes w tv T) (hT : T.length ≤ 32768) (hsz : ∀ x ∈ T, szOk x) (e0 : Int) (p0 : Nat) (hc : checkM T = .error (e0, p0)) : Calls Try.prog 4 #[tv] w (Makes (.bool true) w) := by
  have HN := Lib.hid hn
  have HSZ := Lib.hid hsz
  have HL := Lib.hid (long_any T tv w hn (by omega) hsz)
  have hne := checkM_ne hn (by omega) hsz hc
  have HNE := Lib.hid hne
  have X := Lib.hid hc
  have e1 : (e0 != 0) = true := by simpa [bne] using hne
  clear hn hsz hc hne
  go_enter Try.func4, Try.ntmps4
  go_wp2_with fail
  refine HL.out.mono ?_
  rintro e w1 ⟨b, rfl, _, hb1⟩
  have HB1 := Lib.hid hb1
  clear hb1
  cases b with
  | true =>
    go_wp2_with fail
    refine (works_any _).mono ?_
    rintro e w2 ⟨rfl, hb2⟩
    have HB2 := Lib.hid (below_later hb2 HB1.out)
    clear hb2
    go_wp2_with fail
    go_ret
    exact ⟨rfl, HB2.out⟩
  | false =>
    have HN1 := Lib.hid (HN.out.later HB1.out)
    go_wp2_with fail
    refine (rCheck_any T tv _ HN1.out (by omega) HSZ.out).mono ?_
    rw [X.out]
    unfold checkV
    rintro e w2 ⟨rfl, hb2⟩
    have HB2 := Lib.hid (below_later hb2 HB1.out)
    have HN2 := Lib.hid (HN1.out.later hb2)
    clear hb2
    go_wp2_with fail
    refine (CopyNodes_any T tv _ HN2.out (by omega)).mono ?_
    rintro e w3 ⟨v3, rfl, hn3, hb3⟩
    have HB3 := Lib.hid (below_later hb3 HB2.out)
    have HN3 := Lib.hid hn3
    clear hb3 hn3
    go_wp2_with fail
    refine (Casts_bad T v3 _ HN3.out (by omega) e0 p0 X.out HNE.out).mono ?_
    unfold CastsRes
    rw [X.out]
    rintro e w4 ⟨hb4, rfl⟩
    have HB4 := Lib.hid (below_later hb4 HB3.out)
    clear hb4
    go_wp2_with fail
    refine (works_any _).mono ?_
    rintro e w5 ⟨rfl, hb5⟩
    have HB5 := Lib.hid (below_later hb5 HB4.out)
    clear hb5
    go_wp2_with fail
    go_ret
    exact ⟨rfl, HB5.out⟩
end Go.Proofs.Ytnmhiddahfnkoaa

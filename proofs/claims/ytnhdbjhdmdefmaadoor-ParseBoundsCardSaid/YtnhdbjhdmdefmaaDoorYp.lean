
/- Plain: the limits: two defs of which the second is one node too many. No program in sight. -/
import Derived.Test.YtnhdbjhdmdefmaaDoorYo
namespace Culp.Gr
set_option linter.unusedSimpArgs false
set_option linter.unusedVariables false
open Culp Culp.Tr
theorem list_at {L : List Tok} {n c i : Nat} {lg : List Nat} {p : Nat × Nat} (hs : ∀ k t, (wd c n)[k]? = some t → L[i + k]? = some t) (he : L[i + 2 * n + 3]? = some (⟨5, 0, [59]⟩, p)) (hl : 2 * n + 3 ≤ L.length) : expr L i lg = .ok (mk 21 (1, c) (nums (c + 1) (n + 1)) 0 [] [] [], i + 2 * n + 3, lg) := by
  have e0 : L[i]? = some (⟨5, 0, [91]⟩, (1, c)) := hs 0 _ rfl
  unfold expr fuel
  obtain ⟨m, hm⟩ : ∃ m, 8 * L.length + 16 = m + n + 9 + 7 := ⟨8 * L.length - n, by omega⟩
  rw [hm]
  exact expr_atom (by rw [isK_at e0]; rfl) (by rw [isM_at e0]; rfl) (by rw [isM_at e0]; rfl) (wd_atom n c i m hs) (by rw [isM_at he]; rfl) (by rw [isM_at he]; rfl) (.inr (by rw [txt_at he]; rfl))
theorem name_at {L : List Tok} {i : Nat} {s : List UInt8} {p : Nat × Nat} (h : L[i]? = some (⟨2, 0, s⟩, p)) : name L i = .ok (i + 1) := by
  unfold name
  rw [isK_at h, if_pos (by simp)]
theorem word_at {L : List Tok} {i : Nat} {s : List UInt8} {p : Nat × Nat} (h : L[i]? = some (⟨1, 0, s⟩, p)) : want L s i = .ok (i + 1) := by
  unfold want
  rw [isM_at h, if_pos (by simp)]
theorem note_eq {L : List Tok} {i : Nat} {lg : List Nat} {p : Nat × Nat} (h : L[i]? = some (⟨5, 0, [61]⟩, p)) : note L i lg = .ok ([], i, lg) := by
  unfold note
  rw [isM_at h, if_neg (by decide)]
set_option maxHeartbeats 1600000 in
theorem two_defs {l : List UInt8} {L : List Tok} {n c : Nat} {p0 p1 p2 p3 p4 p5 q0 q1 q3 q4 q5 q6 : Nat × Nat} {y x : Nat} (ht : Tx.toks l = .ok L) (hn : n + 2 = 4096) (hl : L.length = 2 * n + 16)
    (e0 : L[0]? = some (⟨1, 0, sModule⟩, p0)) (e1 : L[0 + 1]? = some (⟨2, 0, [109]⟩, p1)) (e2 : L[0 + 1 + 1]? = some (⟨5, 0, [123]⟩, p2)) (e3 : L[0 + 1 + 1 + 1]? = some (⟨1, 0, sLet⟩, p3)) (e4 : L[0 + 1 + 1 + 1 + 1]? = some (⟨2, 0, [120]⟩, p4)) (e5 : L[0 + 1 + 1 + 1 + 1 + 1]? = some (⟨5, 0, [61]⟩, p5))
    (hs : ∀ k t, (wd c n)[k]? = some t → L[0 + 1 + 1 + 1 + 1 + 1 + 1 + k]? = some t)
    (d0 : L[0 + 1 + 1 + 1 + 1 + 1 + 1 + 2 * n + 3]? = some (⟨5, 0, [59]⟩, q0)) (d1 : L[0 + 1 + 1 + 1 + 1 + 1 + 1 + 2 * n + 3 + 1]? = some (⟨1, 0, sLet⟩, q1)) (d2 : L[0 + 1 + 1 + 1 + 1 + 1 + 1 + 2 * n + 3 + 1 + 1]? = some (⟨2, 0, [121]⟩, (y, x))) (d3 : L[0 + 1 + 1 + 1 + 1 + 1 + 1 + 2 * n + 3 + 1 + 1 + 1]? = some (⟨5, 0, [61]⟩, q3)) (d4 : L[0 + 1 + 1 + 1 + 1 + 1 + 1 + 2 * n + 3 + 1 + 1 + 1 + 1]? = some (⟨3, 1, []⟩, q4)) (d5 : L[0 + 1 + 1 + 1 + 1 + 1 + 1 + 2 * n + 3 + 1 + 1 + 1 + 1 + 1]? = some (⟨5, 0, [59]⟩, q5)) (d6 : L[0 + 1 + 1 + 1 + 1 + 1 + 1 + 2 * n + 3 + 1 + 1 + 1 + 1 + 1 + 1]? = some (⟨5, 0, [125]⟩, q6)) :
    outM l = (17, ((y : Int), (x : Int))) := by
  have x1 := list_at (lg := []) hs d0 (by omega)
  have x2 : expr L (0 + 1 + 1 + 1 + 1 + 1 + 1 + 2 * n + 3 + 1 + 1 + 1 + 1) [] = .ok (mk 1 q4 .nil 1 [] [] [], 0 + 1 + 1 + 1 + 1 + 1 + 1 + 2 * n + 3 + 1 + 1 + 1 + 1 + 1, []) := by
    unfold expr fuel
    rw [show 8 * L.length + 16 = (8 * L.length + 9) + 7 by omega]
    exact num_expr _ d4 d5 (by simp)
  have i3 : isM L sImport (0 + 1 + 1 + 1) = false := by rw [isM_at e3]; decide
  have g3 : isM L sExport (0 + 1 + 1 + 1) = false := by rw [isM_at e3]; decide
  have c3 : isM L [125] (0 + 1 + 1 + 1) = false := by rw [isM_at e3]; decide
  have g7 : isM L sExport (0 + 1 + 1 + 1 + 1 + 1 + 1 + 2 * n + 3 + 1) = false := by rw [isM_at d1]; decide
  have c7 : isM L [125] (0 + 1 + 1 + 1 + 1 + 1 + 1 + 2 * n + 3 + 1) = false := by rw [isM_at d1]; decide
  have c9 : isM L [125] (0 + 1 + 1 + 1 + 1 + 1 + 1 + 2 * n + 3 + 1 + 1 + 1 + 1 + 1 + 1) = true := by rw [isM_at d6]; decide
  have hdf : defs L (L.length + 1) (0 + 1 + 1 + 1) [] [] = .ok ([⟨by_ (txt L (0 + 1 + 1 + 1 + 1)), false, by_ [], (mk 21 (1, c) (nums (c + 1) (n + 1)) 0 [] [] []).flat, (pl L (0 + 1 + 1 + 1 + 1)).1, (pl L (0 + 1 + 1 + 1 + 1)).2⟩, ⟨by_ (txt L (0 + 1 + 1 + 1 + 1 + 1 + 1 + 2 * n + 3 + 1 + 1)), false, by_ [], (mk 1 q4 .nil 1 [] [] []).flat, y, x⟩], L.length, []) := by
    rw [defs, if_neg (by rw [c3]; decide), g3, if_neg (by decide), word_at e3, bnd_ok, name_at e4, bnd_ok, note_eq e5, bnd_ok]
    simp only
    rw [want_at e5, bnd_ok, x1, bnd_ok]
    simp only
    rw [want_at d0, bnd_ok, show L.length = 2 * n + 15 + 1 by omega, defs, if_neg (by rw [c7]; decide), g7, if_neg (by decide), word_at d1, bnd_ok, name_at d2, bnd_ok, note_eq d3, bnd_ok]
    simp only
    rw [want_at d3, bnd_ok, x2, bnd_ok]
    simp only
    rw [want_at d5, bnd_ok, defs, if_pos c9, pl_at d2]
    show Except.ok (_, 0 + 1 + 1 + 1 + 1 + 1 + 1 + 2 * n + 3 + 1 + 1 + 1 + 1 + 1 + 1 + 1, []) = _
    rw [show 0 + 1 + 1 + 1 + 1 + 1 + 1 + 2 * n + 3 + 1 + 1 + 1 + 1 + 1 + 1 + 1 = 2 * n + 15 + 1 by omega]
    rfl
  have hmd : ∃ dd, module L 0 [] = .ok (dd, L.length, []) ∧ dd.imps = [] ∧ ∃ a b, dd.defs = [a, b] ∧ a.tree.length = n + 2 ∧ b.tree.length = 1 ∧ b.line = y ∧ b.col = x := by
    unfold module
    rw [word_at e0, bnd_ok, name_at e1, bnd_ok, want_at e2, bnd_ok, imps, if_neg (by rw [i3]; decide), bnd_ok]
    simp only
    rw [hdf, bnd_ok]
    exact ⟨_, rfl, rfl, _, _, rfl, wide_size _ _ _, rfl, rfl, rfl⟩
  obtain ⟨dd, hmd, hi, a, b, hd, ha, hb, hby, hbx⟩ := hmd
  have hms : mods L (L.length + 1) 0 [] [] = .ok ([dd], L.length, []) := by
    rw [mods, if_pos (by omega), hmd, bnd_ok]
    simp only
    have hend := fun acc => mods_end (L := L) (i := L.length) (n := 2 * n + 15) (lg := []) (acc := acc) (Nat.lt_irrefl _)
    rw [show 2 * n + 15 + 1 = L.length by omega] at hend
    exact hend _
  have hlim : limV [dd] = (17, ((y : Int), (x : Int))) := by
    have h1 : tooMany [dd] = none := by
      rw [many_go (by rw [hi]; decide) (by rw [hi, hd]; simp)]
      rfl
    have h2 : tooLarge 0 (allDefs [dd]) = some ((y : Int), (x : Int)) := by
      have hall : allDefs [dd] = [a, b] := by show dd.defs ++ [] = _; rw [hd]; rfl
      rw [hall, large_go (by omega), large_hit (by omega), hby, hbx]
    exact limL (by simp) h1 h2
  unfold outM modsOf
  rw [readAll_ok ht hms]
  simp only
  rw [hlim, if_neg (by simp)]
theorem bound11 : outM (letB ++ (wideB ++ [59, 108, 101, 116, 32, 121, 61, 49, 59, 125])) = (17, (1, 8213)) := by
  obtain ⟨r0, r1, r3, r4, r5, r6, hr⟩ : ∃ r0 r1 r3 r4 r5 r6, Tx.toksAt (1, 17 + 2 + 2 * 4094 + 1) [59, 108, 101, 116, 32, 121, 61, 49, 59, 125] = .ok [(⟨5, 0, [59]⟩, r0), (⟨1, 0, sLet⟩, r1), (⟨2, 0, [121]⟩, (1, 8213)), (⟨5, 0, [61]⟩, r3), (⟨3, 1, []⟩, r4), (⟨5, 0, [59]⟩, r5), (⟨5, 0, [125]⟩, r6)] := ⟨(1, 8208), (1, 8209), (1, 8214), (1, 8215), (1, 8216), (1, 8217), by kernel_rfl⟩
  have h1 := wd_toks 4094 17 _ _ hr
  obtain ⟨X, hX⟩ : ∃ X, X = 91 :: 48 :: (repB [44, 48] 4094 ++ 93 :: [59, 108, 101, 116, 32, 121, 61, 49, 59, 125]) := ⟨_, rfl⟩
  have hX2 : wideB ++ [59, 108, 101, 116, 32, 121, 61, 49, 59, 125] = X := by rw [hX]; unfold wideB; simp
  have hXl : X.length = 8201 := by rw [← hX2, List.length_append, wide_len]; rfl
  rw [← hX] at h1
  rw [hX2, show letB ++ X = 109 :: 111 :: 100 :: 117 :: 108 :: 101 :: 32 :: 109 :: 32 :: 123 :: 108 :: 101 :: 116 :: 32 :: 120 :: 61 :: X from rfl]
  generalize hq1 : Tx.further (1, 1) [109, 111, 100, 117, 108, 101] = q1
  generalize hq2 : Tx.further q1 [32, 109] = q2
  generalize hq3 : Tx.further q2 [32, 123] = q3
  generalize hq4 : Tx.further q3 [108, 101, 116] = q4
  generalize hq5 : Tx.further q4 [32, 120] = q5
  have hq6 : Tx.further q5 [61] = (1, 17) := by rw [← hq5, ← hq4, ← hq3, ← hq2, ← hq1]; rfl
  obtain ⟨z, hz⟩ : ∃ z, X = 91 :: z := ⟨_, hX⟩
  have z6 := Tx.toksAt_at (p := q5) (l := 61 :: X) (t := ⟨5, 0, [61]⟩) (k := 0) (n := 1) rfl (by rw [hz]; rfl) rfl (by simp) hq6 h1
  have z5 := Tx.toksAt_at (p := q4) (l := 32 :: 120 :: 61 :: X) (t := ⟨2, 0, [120]⟩) (k := 1) (n := 1) rfl rfl rfl (by simp) hq5 z6
  have z4 := Tx.toksAt_at (p := q3) (l := 108 :: 101 :: 116 :: 32 :: 120 :: 61 :: X) (t := ⟨1, 0, sLet⟩) (k := 0) (n := 3) rfl rfl rfl (by simp) hq4 z5
  have z3 := Tx.toksAt_at (p := q2) (l := 32 :: 123 :: 108 :: 101 :: 116 :: 32 :: 120 :: 61 :: X) (t := ⟨5, 0, [123]⟩) (k := 1) (n := 1) rfl rfl rfl (by simp) hq3 z4
  have z2 := Tx.toksAt_at (p := q1) (l := 32 :: 109 :: 32 :: 123 :: 108 :: 101 :: 116 :: 32 :: 120 :: 61 :: X) (t := ⟨2, 0, [109]⟩) (k := 1) (n := 1) rfl rfl rfl (by simp) hq2 z3
  have z1 := Tx.toksAt_at (p := (1, 1)) (l := 109 :: 111 :: 100 :: 117 :: 108 :: 101 :: 32 :: 109 :: 32 :: 123 :: 108 :: 101 :: 116 :: 32 :: 120 :: 61 :: X) (t := ⟨1, 0, sModule⟩) (k := 0) (n := 6) rfl rfl rfl (by simp) hq1 z2
  have h4 := Tx.toks_mk (by simp only [List.length_cons, hXl]; decide) z1
  clear z1 z2 z3 z4 z5 z6
  obtain ⟨p0, p1, p2, p3, p4, p5, ht⟩ : ∃ p0 p1 p2 p3 p4 p5, Tx.toks (109 :: 111 :: 100 :: 117 :: 108 :: 101 :: 32 :: 109 :: 32 :: 123 :: 108 :: 101 :: 116 :: 32 :: 120 :: 61 :: X) = .ok ((⟨1, 0, sModule⟩, p0) :: (⟨2, 0, [109]⟩, p1) :: (⟨5, 0, [123]⟩, p2) :: (⟨1, 0, sLet⟩, p3) :: (⟨2, 0, [120]⟩, p4) :: (⟨5, 0, [61]⟩, p5) :: (wd 17 4094 ++ [(⟨5, 0, [59]⟩, r0), (⟨1, 0, sLet⟩, r1), (⟨2, 0, [121]⟩, (1, 8213)), (⟨5, 0, [61]⟩, r3), (⟨3, 1, []⟩, r4), (⟨5, 0, [59]⟩, r5), (⟨5, 0, [125]⟩, r6)])) := ⟨_, _, _, _, _, _, h4⟩
  obtain ⟨L, hLd⟩ : ∃ L, L = ((⟨1, 0, sModule⟩, p0) :: (⟨2, 0, [109]⟩, p1) :: (⟨5, 0, [123]⟩, p2) :: (⟨1, 0, sLet⟩, p3) :: (⟨2, 0, [120]⟩, p4) :: (⟨5, 0, [61]⟩, p5) :: (wd 17 4094 ++ [(⟨5, 0, [59]⟩, r0), (⟨1, 0, sLet⟩, r1), (⟨2, 0, [121]⟩, (1, 8213)), (⟨5, 0, [61]⟩, r3), (⟨3, 1, []⟩, r4), (⟨5, 0, [59]⟩, r5), (⟨5, 0, [125]⟩, r6)]) : List Tok) := ⟨_, rfl⟩
  rw [← hLd] at ht
  have hw := wd_len 17 4094
  have hpost : ∀ j, L[0 + 1 + 1 + 1 + 1 + 1 + 1 + 2 * 4094 + 3 + j]? = ([(⟨5, 0, [59]⟩, r0), (⟨1, 0, sLet⟩, r1), (⟨2, 0, [121]⟩, (1, 8213)), (⟨5, 0, [61]⟩, r3), (⟨3, 1, []⟩, r4), (⟨5, 0, [59]⟩, r5), (⟨5, 0, [125]⟩, r6)] : List Tok)[j]? := fun j => by
    rw [hLd, show 0 + 1 + 1 + 1 + 1 + 1 + 1 + 2 * 4094 + 3 + j = 2 * 4094 + 3 + j + 1 + 1 + 1 + 1 + 1 + 1 by omega]
    simp only [List.getElem?_cons_succ]
    rw [List.getElem?_append_right (by omega), show 2 * 4094 + 3 + j - (wd 17 4094).length = j by omega]
  exact two_defs (n := 4094) (c := 17) (y := 1) (x := 8213) ht rfl (by rw [hLd]; simp only [List.length_cons, List.length_append, hw, List.length_nil]) (by rw [hLd]; rfl) (by rw [hLd]; rfl) (by rw [hLd]; rfl) (by rw [hLd]; rfl) (by rw [hLd]; rfl) (by rw [hLd]; rfl)
    (fun k t h => by
      have hk := (List.getElem?_eq_some_iff.1 h).1
      rw [hLd, show 0 + 1 + 1 + 1 + 1 + 1 + 1 + k = k + 1 + 1 + 1 + 1 + 1 + 1 by omega]
      simp only [List.getElem?_cons_succ]
      rw [List.getElem?_append_left hk]; exact h)
    ((hpost 0).trans rfl) ((hpost 1).trans rfl) ((hpost 2).trans rfl) ((hpost 3).trans rfl) ((hpost 4).trans rfl) ((hpost 5).trans rfl) ((hpost 6).trans rfl)
end Culp.Gr

/- What the statements of layer 10 ask first: a function under a cast, called. -/
import Derived.Test.YtnmhiddahfnkoaaHlpD
namespace Go.Proofs.Ytnmhiddahfnkoaa
set_option linter.unusedSimpArgs false
set_option linter.unusedVariables false
open Go.RowKit Culp

theorem nodes_form {w : World} {v : Value} {L : List Nd} (h : Nodes w v L) (h0 : 0 < L.length) : ∃ b off c, v = .slice (some ⟨b, off, none⟩) L.length c ∧ NodesAt w b off L := by
  obtain ⟨A, c, rfl, _, hN⟩ := h
  obtain ⟨b, off, rfl, hM⟩ := hN h0
  exact ⟨b, off, c, rfl, hM⟩
theorem nodes_lit (w : World) (k kd n : Int) (s t u : ByteArray) (l c : Int) : Nodes (w.alloc (.cells #[.int .i8 k, .int .i64 kd, .int .i64 n, .string s, .string t, .string u, .int .i64 l, .int .i64 c] 44)) (.slice (some ⟨w.heap.size, 0, none⟩) 1 1) [⟨k, kd, n, s, t, u, l, c⟩] := by
  refine ⟨_, 1, rfl, by simp, fun _ => ⟨_, 0, rfl, fun i x hx j y hy => ?_⟩⟩
  have hi : i = 0 := by have := (List.getElem?_eq_some_iff.1 hx).1; simp at this; omega
  subst hi
  simp at hx
  subst hx
  rw [World.cell?_alloc_at _ _ _ _ rfl]
  simpa [Nd.cells] using hy
theorem kids1 (w : World) (v : Value) (L : List Nd) (h : Nodes w v L) (h0 : 0 < L.length) (g : Nat) (hg : w.heap.size = g) : KidsAt (w.alloc (.cells #[v] 22)) (.slice (some ⟨g, 0, none⟩) 1 1) [L] := by
  subst hg
  have hb : Below w.heap.size w (w.alloc (.cells #[v] 22)) := (Below.refl _ _).alloc (Nat.le_refl _) _
  obtain ⟨b, off, c, rfl, hN⟩ := nodes_form h h0
  refine ⟨_, 1, rfl, fun i l hl => ?_⟩
  have hi : i = 0 := by have := (List.getElem?_eq_some_iff.1 hl).1; simp at this; omega
  subst hi
  simp at hl
  subst hl
  exact ⟨h0, b, off, c, by rw [World.cell?_alloc_at _ _ _ _ rfl]; rfl, hN.later hb⟩
theorem kids2 (w : World) (v u : Value) (L M : List Nd) (h : Nodes w v L) (h0 : 0 < L.length) (hu : Nodes w u M) (h1 : 0 < M.length) (g : Nat) (hg : w.heap.size = g) : KidsAt (w.alloc (.cells #[v, u] 22)) (.slice (some ⟨g, 0, none⟩) 2 2) [L, M] := by
  subst hg
  have hb : Below w.heap.size w (w.alloc (.cells #[v, u] 22)) := (Below.refl _ _).alloc (Nat.le_refl _) _
  obtain ⟨b, off, c, rfl, hN⟩ := nodes_form h h0
  obtain ⟨b2, off2, c2, rfl, hN2⟩ := nodes_form hu h1
  refine ⟨_, 2, rfl, fun i l hl => ?_⟩
  match i, hl with
  | 0, hl => cases hl; exact ⟨h0, b, off, c, by rw [World.cell?_alloc_at _ _ _ _ rfl]; rfl, hN.later hb⟩
  | 1, hl => cases hl; exact ⟨h1, b2, off2, c2, by rw [World.cell?_alloc_at _ _ _ _ rfl]; rfl, hN2.later hb⟩
  | i + 2, hl => simp at hl

set_option maxHeartbeats 400000 in
theorem lnum_any (n : Int) (w : World) : Calls Try.prog 22 #[.int .i64 n] w (NodeRes [⟨1, 0, n, ⟨#[]⟩, ⟨#[]⟩, ⟨#[]⟩, 0, 0⟩] w) := by
  have HL := Lib.hid (nodes_lit w 1 0 n ⟨#[]⟩ ⟨#[]⟩ ⟨#[]⟩ 0 0)
  go_enter Try.func22, Try.ntmps22
  go_wp2_with fail
  go_ret
  exact ⟨_, rfl, HL.out, (Below.refl _ _).alloc (Nat.le_refl _) _⟩

abbrev e0 : ByteArray := ⟨#[]⟩
abbrev sI : ByteArray := ⟨#[105]⟩
abbrev sD : ByteArray := ⟨#[63]⟩
abbrev sII : ByteArray := ⟨#[62, 105, 105]⟩
abbrev sDI : ByteArray := ⟨#[62, 63, 105]⟩
def wF : List Nd := [⟨5, 1, 0, e0, sI, sI, 0, 0⟩, ⟨4, 0, 0, e0, e0, e0, 0, 0⟩]
def wC : List Nd := ⟨30, 1, 3, e0, sII, sDI, 0, 0⟩ :: wF
def wX : List Nd := [⟨30, 1, 4, e0, sI, sD, 0, 0⟩, ⟨1, 0, 5, e0, e0, e0, 0, 0⟩]
def wN : List Nd := [⟨1, 0, 5, e0, e0, e0, 0, 0⟩]
def wA : List Nd := ⟨7, 2, 0, e0, e0, e0, 0, 0⟩ :: (wC ++ wX)
def wB : List Nd := ⟨7, 2, 0, e0, e0, e0, 0, 0⟩ :: (wC ++ wN)
theorem check_wA : checkM wA = .ok .int := by kernel_rfl
theorem check_wB : checkM wB = .error (23, 0) := by kernel_rfl
theorem casts_wA : castsM wA = [⟨30, 1, 3, e0, sII, sDI, 0, 0⟩, ⟨30, 1, 4, e0, sI, sD, 0, 0⟩] := by kernel_rfl

set_option maxHeartbeats 1600000 in
theorem works_any (w : World) : Calls Try.prog 7 #[] w (Makes (.bool true) w) := by
  go_enter Try.func7, Try.ntmps7
  go_wp2_with fail
  have h1 := nodes_lit w 4 0 0 e0 e0 e0 0 0
  refine (show Calls Try.prog 17 #[(Nd.mk 5 0 0 e0 sI sI 0 0).val, .slice (some ⟨w.heap.size + 1, 0, none⟩) 1 1] _ _ from node_any ⟨5, 0, 0, e0, sI, sI, 0, 0⟩ [[⟨4, 0, 0, e0, e0, e0, 0, 0⟩]] _ _ (kids1 _ _ _ h1 (by simp) _ (by simp)) (by simp) (by simp)).mono ?_
  rintro e w1 ⟨v1, rfl, hn1, hb1⟩
  have HB1 : Hid (Below w.heap.size w w1) := (((Below.refl _ _).alloc (Nat.le_refl _) _).alloc (by simp) _).trans (hb1.mono (by simp; omega))
  obtain ⟨p1, o1, c1, rfl, _⟩ := nodes_form hn1 (by simp)
  have HF := Lib.hid (show Nodes w1 (.slice (some ⟨p1, o1, none⟩) 2 c1) wF from hn1)
  clear hn1 hb1 h1
  go_wp2_with fail
  refine (show Calls Try.prog 17 #[(Nd.mk 30 0 3 e0 sII sDI 0 0).val, .slice (some ⟨w1.heap.size, 0, none⟩) 1 1] _ _ from node_any ⟨30, 0, 3, e0, sII, sDI, 0, 0⟩ [wF] _ _ (kids1 _ _ _ HF.out (by decide) _ rfl) (by decide) (by decide)).mono ?_
  rintro e w2 ⟨v2, rfl, hn2, hb2⟩
  have hb2' : Below w1.heap.size w1 w2 := ((Below.refl _ _).alloc (Nat.le_refl _) _).trans (hb2.mono (by simp))
  have HB2 := Lib.hid (below_later hb2' HB1.out)
  obtain ⟨p2, o2, c2, rfl, _⟩ := nodes_form hn2 (by simp)
  have HC := Lib.hid (show Nodes w2 (.slice (some ⟨p2, o2, none⟩) 3 c2) wC from hn2)
  clear hn2 hb2 hb2'
  go_wp2_with fail
  refine (lnum_any 5 _).mono ?_
  rintro e w3 ⟨v3, rfl, hn3, hb3⟩
  have HB3 := Lib.hid (below_later hb3 HB2.out)
  have HC3 := Lib.hid (HC.out.later hb3)
  obtain ⟨p3, o3, c3, rfl, _⟩ := nodes_form hn3 (by simp)
  have HN3 := Lib.hid (show Nodes w3 (.slice (some ⟨p3, o3, none⟩) 1 c3) wN from hn3)
  clear hn3 hb3
  go_wp2_with fail
  refine (show Calls Try.prog 17 #[(Nd.mk 30 0 4 e0 sI sD 0 0).val, .slice (some ⟨w3.heap.size, 0, none⟩) 1 1] _ _ from node_any ⟨30, 0, 4, e0, sI, sD, 0, 0⟩ [wN] _ _ (kids1 _ _ _ HN3.out (by decide) _ rfl) (by decide) (by decide)).mono ?_
  rintro e w4 ⟨v4, rfl, hn4, hb4⟩
  have hb4' : Below w3.heap.size w3 w4 := ((Below.refl _ _).alloc (Nat.le_refl _) _).trans (hb4.mono (by simp))
  have HB4 := Lib.hid (below_later hb4' HB3.out)
  have HC4 := Lib.hid (HC3.out.later hb4')
  obtain ⟨p4, o4, c4, rfl, _⟩ := nodes_form hn4 (by simp)
  have HX4 := Lib.hid (show Nodes w4 (.slice (some ⟨p4, o4, none⟩) 2 c4) wX from hn4)
  clear hn4 hb4 hb4'
  go_wp2_with fail
  refine (show Calls Try.prog 17 #[(Nd.mk 7 0 0 e0 e0 e0 0 0).val, .slice (some ⟨w4.heap.size, 0, none⟩) 2 2] _ _ from node_any ⟨7, 0, 0, e0, e0, e0, 0, 0⟩ [wC, wX] _ _ (kids2 _ _ _ _ _ HC4.out (by decide) HX4.out (by decide) _ rfl) (by decide) (by decide)).mono ?_
  rintro e w5 ⟨v5, rfl, hn5, hb5⟩
  have hb5' : Below w4.heap.size w4 w5 := ((Below.refl _ _).alloc (Nat.le_refl _) _).trans (hb5.mono (by simp))
  have HB5 := Lib.hid (below_later hb5' HB4.out)
  have HC5 := Lib.hid (HC4.out.later hb5')
  have HX5 := Lib.hid (HX4.out.later hb5')
  have HA5 := Lib.hid (show Nodes w5 v5 wA from hn5)
  clear hn5 hb5 hb5'
  go_wp2_with fail
  refine (coreCheck_any wA v5 _ HA5.out (by decide)).mono ?_
  rw [check_wA]
  unfold checkV
  rintro e w6 ⟨rfl, hb6⟩
  have HB6 := Lib.hid (below_later hb6 HB5.out)
  have HC6 := Lib.hid (HC5.out.later hb6)
  have HX6 := Lib.hid (HX5.out.later hb6)
  clear hb6
  go_wp2_with fail
  refine (lnum_any 5 _).mono ?_
  rintro e w7 ⟨v7, rfl, hn7, hb7⟩
  have HB7 := Lib.hid (below_later hb7 HB6.out)
  have HC7 := Lib.hid (HC6.out.later hb7)
  have HX7 := Lib.hid (HX6.out.later hb7)
  obtain ⟨p7, o7, c7, rfl, _⟩ := nodes_form hn7 (by simp)
  have HN7 := Lib.hid (show Nodes w7 (.slice (some ⟨p7, o7, none⟩) 1 c7) wN from hn7)
  clear hn7 hb7
  go_wp2_with fail
  refine (show Calls Try.prog 17 #[(Nd.mk 7 0 0 e0 e0 e0 0 0).val, .slice (some ⟨w7.heap.size, 0, none⟩) 2 2] _ _ from node_any ⟨7, 0, 0, e0, e0, e0, 0, 0⟩ [wC, wN] _ _ (kids2 _ _ _ _ _ HC7.out (by decide) HN7.out (by decide) _ rfl) (by decide) (by decide)).mono ?_
  rintro e w8 ⟨v8, rfl, hn8, hb8⟩
  have hb8' : Below w7.heap.size w7 w8 := ((Below.refl _ _).alloc (Nat.le_refl _) _).trans (hb8.mono (by simp))
  have HB8 := Lib.hid (below_later hb8' HB7.out)
  have HC8 := Lib.hid (HC7.out.later hb8')
  have HX8 := Lib.hid (HX7.out.later hb8')
  have HA8 := Lib.hid (show Nodes w8 v8 wB from hn8)
  clear hn8 hb8 hb8'
  go_wp2_with fail
  refine (coreCheck_any wB v8 _ HA8.out (by decide)).mono ?_
  rw [check_wB]
  unfold checkV
  rintro e w9 ⟨rfl, hb9⟩
  have HB9 := Lib.hid (below_later hb9 HB8.out)
  have HC9 := Lib.hid (HC8.out.later hb9)
  have HX9 := Lib.hid (HX8.out.later hb9)
  clear hb9
  go_wp2_with fail
  refine (show Calls Try.prog 17 #[(Nd.mk 7 0 0 e0 e0 e0 0 0).val, .slice (some ⟨w9.heap.size, 0, none⟩) 2 2] _ _ from node_any ⟨7, 0, 0, e0, e0, e0, 0, 0⟩ [wC, wX] _ _ (kids2 _ _ _ _ _ HC9.out (by decide) HX9.out (by decide) _ rfl) (by decide) (by decide)).mono ?_
  rintro e w10 ⟨v10, rfl, hn10, hb10⟩
  have hb10' : Below w9.heap.size w9 w10 := ((Below.refl _ _).alloc (Nat.le_refl _) _).trans (hb10.mono (by simp))
  have HB10 := Lib.hid (below_later hb10' HB9.out)
  have HA10 := Lib.hid (show Nodes w10 v10 wA from hn10)
  clear hn10 hb10 hb10'
  go_wp2_with fail
  refine (Casts_good wA v10 _ HA10.out (by decide) .int check_wA).mono ?_
  unfold CastsRes
  rw [check_wA]
  rintro e w11 ⟨hb11, v11, rfl, hown⟩
  have HB11 := Lib.hid (below_later hb11 HB10.out)
  rw [casts_wA] at hown
  have hform : ∃ g cap, v11 = .slice (some ⟨g, 0, none⟩) 2 cap ∧ w11.cell? ⟨g, 0, none⟩ = some (.int .i64 3) ∧ w11.cell? ⟨g, 1, none⟩ = some (.string sII) ∧ w11.cell? ⟨g, 2, none⟩ = some (.string sDI) := by
    rcases hown.2 with ⟨_, h0⟩ | ⟨g, cap, cur, rfl, hb, hh, hc, _⟩
    · cases h0
    · refine ⟨g, cap, rfl, ?_, ?_, ?_⟩
      · rw [hown.cellAt 0 (by decide)]; rfl
      · rw [hown.cellAt 1 (by decide)]; rfl
      · rw [hown.cellAt 2 (by decide)]; rfl
  obtain ⟨g, cap, rfl, k0, k1, k2⟩ := hform
  have he : (Ty.int.str.toList == [105]) = true := by rw [toL]; rfl
  clear hb11 hown
  go_wp2_with fail
  go_ret
  exact ⟨rfl, HB11.out⟩
end Go.Proofs.Ytnmhiddahfnkoaa

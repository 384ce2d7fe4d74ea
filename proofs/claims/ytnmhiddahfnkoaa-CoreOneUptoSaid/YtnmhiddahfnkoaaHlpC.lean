/- Walks of what statements lean on: lists of nodes that a statement makes. -/
import Derived.Test.YtnmhiddahfnkoaaHlpB
import Derived.Test.YtnmhiddahfnkoaaCoreH
namespace Go.Proofs.Ytnmhiddahfnkoaa
set_option linter.unusedSimpArgs false
set_option linter.unusedVariables false
open Go.RowKit Culp

/-- The cells of a list of nodes, one behind the other. -/
def flat (L : List Nd) : List Value := L.flatMap Nd.cells
theorem cells_len (x : Nd) : x.cells.length = 8 := rfl
theorem flat_len (L : List Nd) : (flat L).length = L.length * 8 := by
  induction L with
  | nil => rfl
  | cons x L ih => simp only [flat, List.flatMap_cons, List.length_append, List.length_cons, cells_len] at *; omega
theorem flat_cons (x : Nd) (L : List Nd) : flat (x :: L) = x.cells ++ flat L := rfl
theorem flat_append (K L : List Nd) : flat (K ++ L) = flat K ++ flat L := by simp [flat]
theorem flat_at : ∀ (L : List Nd) (i : Nat) (x : Nd) (j : Nat) (u : Value), L[i]? = some x → x.cells[j]? = some u → (flat L)[i * 8 + j]? = some u := by
  intro L
  induction L with
  | nil => intro i x j u h; simp at h
  | cons y L ih =>
    intro i x j u h hu
    have hj : j < 8 := by have := (List.getElem?_eq_some_iff.1 hu).1; simpa [cells_len] using this
    cases i with
    | zero =>
      simp at h
      subst h
      rw [flat_cons, List.getElem?_append_left (by rw [cells_len]; omega)]
      simpa using hu
    | succ i =>
      rw [flat_cons, List.getElem?_append_right (by rw [cells_len]; omega), cells_len, show (i + 1) * 8 + j - 8 = i * 8 + j by omega]
      exact ih i x j u (by simpa using h) hu
theorem flat_of : ∀ (L : List Nd) (m : Nat) (u : Value), (flat L)[m]? = some u → ∃ x, L[m / 8]? = some x ∧ x.cells[m % 8]? = some u := by
  intro L
  induction L with
  | nil => intro m u h; simp [flat] at h
  | cons y L ih =>
    intro m u h
    rw [flat_cons] at h
    rcases Nat.lt_or_ge m 8 with hlt | hge
    · rw [List.getElem?_append_left (by rw [cells_len]; omega)] at h
      refine ⟨y, by rw [show m / 8 = 0 by omega]; rfl, by rw [show m % 8 = m by omega]; exact h⟩
    · rw [List.getElem?_append_right (by rw [cells_len]; omega), cells_len] at h
      obtain ⟨x, h1, h2⟩ := ih (m - 8) u h
      refine ⟨x, ?_, by rw [show m % 8 = (m - 8) % 8 by omega]; exact h2⟩
      rw [show m / 8 = (m - 8) / 8 + 1 by omega]
      simpa using h1
theorem flat_cell (L : List Nd) : ∀ u ∈ flat L, u.oneCell' = true := by
  intro u hu
  obtain ⟨x, _, hx⟩ := List.mem_flatMap.1 hu
  simp [Nd.cells] at hx
  rcases hx with rfl | rfl | rfl | rfl | rfl | rfl | rfl | rfl <;> rfl
theorem own_nodes {w : World} {base : Nat} {v : Value} {L : List Nd} (h : w.ownsRow base 44 8 v L.length (flat L)) : Nodes w v L := by
  rcases h.2 with ⟨rfl, h0⟩ | ⟨g, cap, cur, rfl, hb, hh, hc, hcm, hsz, htk⟩
  · have : L = [] := List.eq_nil_of_length_eq_zero h0
    subst this
    exact ⟨none, 0, rfl, by simp, fun h => by simp at h⟩
  · refine ⟨_, cap, rfl, hc, fun h0 => ⟨g, 0, rfl, fun i x hx j u hu => ?_⟩⟩
    have hf := flat_at L i x j u hx hu
    have hlt := (List.getElem?_eq_some_iff.1 hf).1
    rw [flat_len] at hlt
    rw [Nat.zero_add, h.cellAt (i * 8 + j) (by omega)]
    exact hf

/-- Some lists of nodes, in a row. -/
def KidsAt (w : World) (v : Value) (K : List (List Nd)) : Prop := ∃ g c, v = .slice (some ⟨g, 0, none⟩) K.length c ∧ ∀ i l, K[i]? = some l → 0 < l.length ∧ ∃ b off cl, w.cell? ⟨g, i, none⟩ = some (.slice (some ⟨b, off, none⟩) l.length cl) ∧ NodesAt w b off l
theorem KidsAt.later {w w' : World} {v : Value} {K : List (List Nd)} (h : KidsAt w v K) (hb : Below w.heap.size w w') : KidsAt w' v K := by
  obtain ⟨g, c, rfl, h⟩ := h
  refine ⟨g, c, rfl, fun i l hl => ?_⟩
  obtain ⟨h0, b, off, cl, h1, h2⟩ := h i l hl
  exact ⟨h0, b, off, cl, cell_later hb h1, h2.later hb⟩
def NodeRes (L : List Nd) (w : World) (e : Ending) (w' : World) : Prop := ∃ v, e = .returned v ∧ Nodes w' v L ∧ Below w.heap.size w w'
theorem flatten_take (K : List (List Nd)) (k : Nat) (l : List Nd) (h : K[k]? = some l) : (K.take (k + 1)).flatten = (K.take k).flatten ++ l := by
  have hk := (List.getElem?_eq_some_iff.1 h).1
  have e : K[k] = l := by rw [List.getElem?_eq_getElem hk] at h; exact Option.some.inj h
  rw [List.take_succ_eq_append_getElem hk, List.flatten_append, e]
  simp
theorem flatten_le (K : List (List Nd)) (k : Nat) : (K.take k).flatten.length ≤ K.flatten.length := by
  conv => rhs; rw [← List.take_append_drop k K, List.flatten_append, List.length_append]
  omega

set_option maxHeartbeats 1600000 in
theorem node_any (x : Nd) (K : List (List Nd)) (kv : Value) (w : World) (hK : KidsAt w kv K) (hlen : K.flatten.length ≤ 100000) (hKl : K.length ≤ 1000) :
    Calls Try.prog 17 #[x.val, kv] w (NodeRes ({ x with kids := K.length } :: K.flatten) w) := by
  have HK := Lib.hid hK
  obtain ⟨gk, ck, rfl, hc⟩ := hK
  clear hc
  obtain ⟨i0, hi, hz0, hz1, hz2⟩ := info_parts node_info
  unfold Nd.val Nd.cells
  go_enter Try.func17, Try.ntmps17
  go_wp2_with fail
  have hl0 := World.ownsRow_lit (base := w.heap.size) (e := 44) (size := 8) (w.alloc (.cells #[.int .i8 x.kind, .int .i64 K.length, .int .i64 x.n, .string x.s, .string x.t, .string x.u, .int .i64 x.line, .int .i64 x.col] 44))
    #[.int .i8 x.kind, .int .i64 K.length, .int .i64 x.n, .string x.s, .string x.t, .string x.u, .int .i64 x.line, .int .i64 x.col] 1 (by simp) (by unfold maxLen; omega) rfl
  rw [World.size_alloc] at hl0
  have HL0 := Lib.hid hl0
  clear hl0
  go_loopw [5, 6] (fun v i wr => ∃ k : Nat, k ≤ K.length ∧ i = .int .i64 k ∧ Hid (wr.ownsRow w.heap.size 44 8 v ((K.take k).flatten.length + 1) (flat ({ x with kids := K.length } :: (K.take k).flatten))) ∧ Hid (Below w.heap.size w wr)) (fun _ i _ => K.length - (intOf i).toNat)
  case atStart => exact ⟨0, by omega, rfl, HL0, Lib.hid (((Below.refl _ _).alloc (Nat.le_refl _) _).alloc (by simp) _)⟩
  case round =>
    obtain ⟨k, hk, rfl, HO, HB⟩ := hrel
    by_cases hlt : k < K.length
    · obtain ⟨g2, c2, e2, hc⟩ := (HK.out.later HB.out)
      simp only [Value.slice.injEq, Option.some.injEq, Addr.mk.injEq] at e2
      obtain ⟨⟨rfl, _⟩, _, rfl⟩ := e2
      have hx : K[k]? = some K[k] := List.getElem?_eq_getElem hlt
      obtain ⟨hl0, b, off, cl, hcell, hN⟩ := hc k K[k] hx
      have hft := flatten_take K k _ hx
      have hle := flatten_le K (k + 1)
      rw [hft, List.length_append] at hle
      generalize K[k] = l at *
      have HN := Lib.hid hN
      have HX := Lib.hid hx
      have HFT := Lib.hid hft
      generalize hP : (K.take k).flatten = P at *
      have HPP := Lib.hid hP
      have hown := HO.out
      clear hc hN hx hft hP
      go_wp2_with (at_builtin; refine wpList_append_own _ rfl (.tmp 18) (.tmp 22) 22 rfl w.heap.size 44 i0 _ 8 88 Try.underlying22 hi hz0 hz1 hz2 rfl (by decide) _ _ _ rfl hown ⟨b, off, none⟩ l.length cl (flat l) rfl (flat_len l) ?_ (flat_cell l) (by unfold maxLen; omega) (by omega) HB.out.size ?_)
      · intro j u hu
        obtain ⟨y, hy, hyu⟩ := flat_of l j u hu
        have := HN.out _ _ hy _ _ hyu
        rw [show off + j / 8 * 8 + j % 8 = off + j by omega] at this
        exact this
      · intro v' w' hown' hg _
        have HO2 : Hid (w'.ownsRow w.heap.size 44 8 v' ((K.take (k + 1)).flatten.length + 1) (flat ({ x with kids := K.length } :: (K.take (k + 1)).flatten))) := by
          rw [Hid, HFT.out, List.length_append, ← List.cons_append, flat_append, show P.length + l.length + 1 = P.length + 1 + l.length by omega]
          exact hown'
        have hb' : Below w.heap.size wr w' := (Below.refl _ _).grown hg HB.out.size fun k hk => (hown.lt k hk).1
        have HB2 := Lib.hid (HB.out.trans hb')
        clear hown' hg hb' hown
        go_wp2
        go_roundw
        case rel => exact ⟨k + 1, by omega, by go_num, HO2, HB2⟩
        case measure => simp [intOf]; omega
    · obtain rfl : k = K.length := by omega
      have hf : (K.take K.length).flatten = K.flatten := by rw [List.take_length]
      have HN : Hid (Nodes wr _ ({ x with kids := K.length } :: K.flatten)) := Lib.hid (own_nodes (by have := HO.out; rw [hf] at this; exact this))
      clear hf
      go_wp2_with fail
      go_ret
      exact ⟨_, rfl, HN.out, HB.out⟩
end Go.Proofs.Ytnmhiddahfnkoaa

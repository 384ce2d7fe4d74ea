
/- Arguments: a tree with an environment that came in. -/
import Derived.Test.YtdobaililmkkcaaDoorOpen
import Derived.Test.YtdobaililmkkcaaDoorKz
import Derived.SliceStrings
import Derived.Lib.SmallJoins
namespace Go.Proofs.YtdobaililmkkcaaDoor
set_option linter.unusedSimpArgs false
set_option linter.unusedVariables false
open Go.RowKit Culp Go.ChangeShapes Go.WideShapes Go.Deep
/-- A text's datum. -/
def txtD {H : Type} (s : ByteArray) : DataW H := .lit (.string s.data.toList)
section
variable {H : Type} {enc : TypeId × Value → H} {w : World} {base : Nat} {spare : Nat → Bool} {held : Bool} {n : Nat} {v : Value} {y : DataW H × List MemPlace}
set_option maxRecDepth 100000 in
theorem open_nodes1 (h : DataW.trod enc Tryd.prog w base spare held n 26 [v] = some y) : ∃ T : List Nd, Nodes w v T ∧ ((y.1 = .nil ∧ T = []) ∨ ∃ more : List (DataW H), y.1 = .slice (T.map nodeD) more) ∧ ∀ x ∈ T, x.kids ≤ 9223372036854775807 := by
  have hv : ∃ A len cap, v = .slice A len cap := by
    rcases open_slice Tryd.underlying26 h with ⟨h0, _⟩ | ⟨a, len', cap', m, n, D, Pl, hcs, _⟩
    · exact ⟨none, 0, 0, by simpa using h0⟩
    · exact ⟨_, _, _, by simpa using hcs⟩
  obtain ⟨A, len, cap, rfl⟩ := hv
  obtain ⟨T, h1, _, h3, _, h5⟩ := open_nodes0 rfl (d := y.1) (p := y.2) ⟨n, h⟩
  exact ⟨T, h1, h3, h5⟩
set_option maxRecDepth 100000 in
theorem open_texts1 (h : DataW.trod enc Tryd.prog w base spare held n 22 [v] = some y) : ∃ L : List ByteArray, Txts w v L ∧ ((y.1 = .nil ∧ L = []) ∨ ∃ more : List (DataW H), y.1 = .slice (L.map txtD) more) := by
  rcases open_strings Tryd.underlying22 Tryd.underlying9 (by kernel_rfl) h with ⟨hcs, hx⟩ | ⟨a, len, cap, ss, hcs, _, hl, hm, hz, hx, hcell, _⟩
  · simp only [List.cons.injEq, and_true] at hcs
    subst hcs
    exact ⟨[], Txts.nil _, .inl ⟨by rw [hx], rfl⟩⟩
  · simp only [List.cons.injEq, and_true] at hcs
    subst hcs
    have hlz : len ≤ ss.length := by rw [hz]; split <;> omega
    have hln : (ss.take len).length = len := by rw [List.length_take]; omega
    refine ⟨ss.take len, ⟨some a, cap, by rw [hln], by rw [hln]; exact hl, fun h0 => ?_⟩, .inr ⟨_, by rw [hx]; rfl⟩⟩
    rw [hln] at h0
    have hsp : a.spot = none := by
      have := hcell 0 (by omega)
      simpa [Addr.add] using World.cell?_spot this
    obtain ⟨b, off, sp⟩ := a
    simp only at hsp
    subst hsp
    refine ⟨b, off, rfl, fun j s hj => ?_⟩
    have hjl : j < len := by have := (List.getElem?_eq_some_iff.1 hj).1; omega
    have hc := hcell j (by omega)
    have hadd : (⟨b, off, none⟩ : Addr).add j = ⟨b, off + j, none⟩ := by
      unfold Addr.add; split
      · rename_i h0; subst h0; rfl
      · simp
    rw [hadd] at hc
    rw [hc]
    have he : (ss.take len)[j]? = ss[j]? := by rw [List.getElem?_take, if_pos hjl]
    rw [he] at hj
    rw [List.getD_eq_getElem?_getD, hj]; rfl
end
section
variable {H : Type} {enc : TypeId × Value → H} {w : World} {base : Nat} {spare : Nat → Bool} {held : Bool}
set_option maxRecDepth 100000 in
/-- A case that came in. -/
theorem open_case {r : Reach} {b0 : Nat} {v : Value} {d : DataW H} {p : List MemPlace} (hv : Value.okWide Tryd.prog w r b0 35 v) (h : DataW.Trod enc Tryd.prog w base spare held 35 v d p) :
    ∃ (T : List Nd) (N S : List ByteArray) (tv nv sv : Value) (dT dN dS : DataW H), v = .agg #[tv, nv, sv] ∧ d = .agg [dT, dN, dS] ∧ Nodes w tv T ∧ Txts w nv N ∧ Txts w sv S ∧ ((dT = .nil ∧ T = []) ∨ ∃ more : List (DataW H), dT = .slice (T.map nodeD) more) ∧ ((dN = .nil ∧ N = []) ∨ ∃ more : List (DataW H), dN = .slice (N.map txtD) more) ∧ ((dS = .nil ∧ S = []) ∨ ∃ more : List (DataW H), dS = .slice (S.map txtD) more) ∧ ∀ x ∈ T, x.kids ≤ 9223372036854775807 := by
  obtain ⟨v0, v1, v2, y0, y1, y2, n, rfl, rfl, rfl, h0, h1, h2⟩ := Go.Joins.open_agg3 Tryd.underlying35 (by kernel_rfl) (by kernel_rfl) hv h
  obtain ⟨T, a1, a2, a3⟩ := open_nodes1 h0
  obtain ⟨N, b1, b2⟩ := open_texts1 h1
  obtain ⟨S, c1, c2⟩ := open_texts1 h2
  exact ⟨T, N, S, _, _, _, _, _, _, rfl, rfl, a1, b1, c1, a2, b2, c2, a3⟩
end
theorem sized_case {H : Type} {ts : List TypeId} {ds : List (DataW H)} (h : (DataW.weightsEach Tryd.prog ts ds).all (· ≤ reachBytes) = true) {j : Nat} {dT dN dS : DataW H} (ht : ts[j]? = some 35) (hd : ds[j]? = some (.agg [dT, dN, dS])) :
    (DataW.weightsEach Tryd.prog [26, 22, 22] [dT, dN, dS]).all (· ≤ reachBytes) = true := by
  rw [List.all_eq_true] at h ⊢
  intro n hn
  refine h n (DataW.weights_mem_each ht hd n ?_)
  simp only [DataW.weights, Tryd.underlying35]
  exact hn
theorem sized_texts {H : Type} {ts : List TypeId} {ds : List (DataW H)} (h : (DataW.weightsEach Tryd.prog ts ds).all (· ≤ reachBytes) = true) {j : Nat} {L : List ByteArray} {more : List (DataW H)} (ht : ts[j]? = some 22) (hd : ds[j]? = some (.slice (L.map txtD) more)) :
    L.length ≤ 1000000000000000 ∧ ∀ s ∈ L, s.size ≤ 140737488351232 := by
  have hr : reachBytes = 140737488351232 := rfl
  constructor
  · have := sized_slice h ht hd Tryd.underlying22
    have hb : Tryd.prog.bytesOf 9 = 16 := by kernel_rfl
    rw [hb] at this
    simp at this
    omega
  · intro s hs
    have hm : s.data.toList.length ∈ (DataW.slice (L.map txtD) more : DataW H).weights Tryd.prog 22 := by
      simp only [DataW.weights, Tryd.underlying22, List.mem_cons, List.mem_append]
      exact .inr (.inl (weightsAll_mem (List.mem_map_of_mem hs) (by simp [txtD, DataW.weights])))
    have := List.all_eq_true.1 h _ (DataW.weights_mem_each ht hd _ hm)
    simp at this
    omega
end Go.Proofs.YtdobaililmkkcaaDoor


/- Arguments: truths that came in. -/
import Derived.Test.YtidholghbjljaaaGreatDoorXe
import Derived.Deep.Grids
namespace Go.Proofs.YtidholghbjljaaaGreatDoor
set_option linter.unusedSimpArgs false
set_option linter.unusedVariables false
open Go.RowKit Culp Culp.Er Go.ChangeShapes Go.WideShapes Go.Deep
section
variable {H : Type} {enc : TypeId × Value → H} {w : World} {base : Nat}
set_option maxRecDepth 100000 in
theorem open_boolV {r : Reach} {b0 : Nat} {v : Value} {d : DataW H} {p : List MemPlace} (hv : Value.okWide Tryz.prog w r b0 67 v) (h : DataW.Trod enc Tryz.prog w base (fun _ => true) true 67 v d p) : ∃ l : List Bool, Bools w v l ∧ (l = [] ∨ ∃ ds more : List (DataW H), d = .slice ds more ∧ ds.length = l.length) := by
  obtain ⟨A, len, cap, rfl⟩ := okWide_slice Tryz.underlying67 hv
  obtain ⟨fuel, hf⟩ := h
  rcases open_bools Tryz.underlying67 Tryz.underlying4 (by kernel_rfl) hf with ⟨h0, h1⟩ | ⟨a, len', cap', B, hcs, hb, hl, hm, hx, hi⟩
  · simp [Value.cells] at h0
    obtain ⟨rfl, rfl, rfl⟩ := h0
    exact ⟨[], ⟨none, 0, 0, 0, rfl, fun h => absurd h (Nat.lt_irrefl _), fun j x h => by simp at h⟩, .inl rfl⟩
  · simp [Value.cells] at hcs
    obtain ⟨rfl, rfl, rfl⟩ := hcs
    have hlen : ((List.range len).map B).length = len := by simp
    refine ⟨(List.range len).map B, ?_, .inr ⟨_, _, (Prod.mk.injEq .. ▸ hx).1, by simp⟩⟩
    rcases Nat.eq_zero_or_pos len with h0 | h0
    · subst h0
      exact ⟨some a, cap, 0, 0, rfl, fun h => absurd h (Nat.lt_irrefl _), fun j x h => by simp at h⟩
    · have hsp : a.spot = none := by
        have := hi 0 (by omega)
        simpa [Addr.add] using World.cell?_spot this
      obtain ⟨b, off, sp⟩ := a
      simp only at hsp
      subst hsp
      have hadd : ∀ i, (⟨b, off, none⟩ : Addr).add i = ⟨b, off + i, none⟩ := fun i => by
        unfold Addr.add; split
        · rename_i h0; subst h0; rfl
        · simp
      refine ⟨some ⟨b, off, none⟩, cap, b, off, by rw [hlen], fun _ => ⟨rfl, ?_⟩, fun j x hj => ?_⟩
      · have := hi 0 (by omega)
        exact World.block_lt_of_cell? w _ this
      · rw [List.getElem?_map, Option.map_eq_some_iff] at hj
        obtain ⟨i, hj, rfl⟩ := hj
        obtain ⟨h1, h2⟩ := List.getElem?_eq_some_iff.1 hj
        rw [List.getElem_range] at h2
        rw [List.length_range] at h1
        subst h2
        rw [← hadd]
        exact hi j (by omega)
end
set_option maxRecDepth 100000 in
theorem sized_bools2 {H : Type} {ts : List TypeId} {ds : List (DataW H)} (h : (DataW.weightsEach Tryz.prog ts ds).all (· ≤ reachBytes) = true) {j : Nat} {l : List Bool} {d : DataW H} (ht : ts[j]? = some 67) (hd : ds[j]? = some d) (hl : l = [] ∨ ∃ ds more : List (DataW H), d = .slice ds more ∧ ds.length = l.length) : l.length ≤ 140737488351232 := by
  have hr : reachBytes = 140737488351232 := rfl
  rcases hl with rfl | ⟨dl, more, rfl, hlen⟩
  · exact Nat.zero_le _
  · have := (fit_slice Tryz.underlying67 (fit_of h ht hd)).1
    have hb : Tryz.prog.bytesOf 4 = 1 := by kernel_rfl
    rw [hb] at this
    omega
end Go.Proofs.YtidholghbjljaaaGreatDoor

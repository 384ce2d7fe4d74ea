
/- Walks of erase: the known modules; no idle program. -/
import Derived.Test.YtidholghbjljaaaGreatDoorXb
import Derived.Test.YtidholghbjljaaaGreatDoorXa
namespace Culp.Er
set_option linter.unusedSimpArgs false
set_option linter.unusedVariables false
open Culp Culp.Tr Culp.Mo
def bt (l : List UInt8) : ByteArray := ⟨l.toArray⟩
def nodeL (a : ByteArray) (u : ByteArray) : List Nd := [⟨5, 1, 0, bt [121], bt [105], u, 0, 0⟩, ⟨29, 1, 0, bt [], a, bt [], 0, 0⟩, ⟨4, 0, 0, bt [121], bt [], bt [], 0, 0⟩]
/-- A module with four slots. -/
def modL (a u : ByteArray) : List Md := [⟨bt [109], [], [⟨bt [102], false, bt [63], nodeL a u, 0, 0⟩], 0, 0⟩]
def oneL : List Md := modL (bt [105]) (bt [])
theorem one_mods : mods oneL = 0 := by kernel_rfl
theorem one_slots : slots oneL = [⟨(1, 0, 0, 0), bt [109], false, 0, -1, false, true⟩, ⟨(2, 0, 0, 0), bt [109], false, 0, 0, false, true⟩, ⟨(3, 0, 0, 0), bt [109], false, 0, 0, true, true⟩, ⟨(2, 0, 0, 1), bt [109], false, 0, 1, false, false⟩] := by kernel_rfl
theorem one_written : idxW (slots oneL) (note oneL) (slots oneL).length = [1, 3] := by kernel_rfl
theorem one_kept : lay (kept [true, false] oneL) oneL = modL (bt [63]) (bt []) := by kernel_rfl
theorem one_count : (keepAt [true, false] (slots oneL) (note oneL) (slots oneL).length).1 = 2 := by kernel_rfl
theorem one_laid : lay (layTo (slots oneL) (note oneL) 2 (bt [116]) (slots oneL).length) oneL = modL (bt [105]) (bt [116]) := by kernel_rfl
theorem one_static : staticL oneL = false := by kernel_rfl
theorem one_ty : isTy (bt [116]).data.toList = true := by kernel_rfl
theorem one_less : lessP oneL (modL (bt [63]) (bt [])) := by rw [← one_kept]; exact less_kept one_mods
theorem one_more : ¬ lessP (modL (bt [63]) (bt [])) oneL := fun h => by
  have h1 : (slots (modL (bt [63]) (bt [])))[3]? = some ⟨(2, 0, 0, 1), bt [109], false, 0, 1, false, false⟩ := by kernel_rfl
  have h2 : (slots oneL)[3]? = some ⟨(2, 0, 0, 1), bt [109], false, 0, 1, false, false⟩ := by kernel_rfl
  have := h.2.2.2 3 _ _ h1 h2 .dyn .int (by kernel_rfl) (by kernel_rfl)
  cases this
theorem mod_lens (a u : ByteArray) : Lens (modL a u) := ⟨by show (1 : Nat) ≤ _; omega, fun md h => by
  rw [modL, List.mem_singleton] at h
  subst h
  show (0 : Nat) ≤ _; omega, fun md h => by
  rw [modL, List.mem_singleton] at h
  subst h
  show (1 : Nat) ≤ _; omega, fun md h d hd => by
  rw [modL, List.mem_singleton] at h
  subst h
  simp only [List.mem_singleton] at hd
  subst hd
  show (3 : Nat) ≤ _; omega⟩
end Culp.Er
namespace Go.Proofs.YtidholghbjljaaaGreatDoor
open Go.RowKit Go.Maps Culp Culp.Er
theorem mod_sz (a u : ByteArray) (ha : a.size ≤ 1000) (hu : u.size ≤ 1000) : ∀ m ∈ modL a u, MdSz m := fun m h => by
  rw [modL, List.mem_singleton] at h
  subst h
  refine ⟨by show (1 : Nat) ≤ _; omega, ⟨by show (0 : Nat) ≤ _; omega, fun i hi => by simp at hi⟩, by show (1 : Nat) ≤ _; omega, fun d hd => ?_⟩
  simp only [List.mem_singleton] at hd
  subst hd
  refine ⟨by show (1 : Nat) ≤ _; omega, by show (1 : Nat) ≤ _; omega, by show (3 : Nat) ≤ _; omega, fun y hy => ?_, fun y hy => ?_⟩
  · simp only [nodeL, List.mem_cons, List.not_mem_nil, or_false] at hy
    rcases hy with rfl | rfl | rfl
    · exact ⟨by show (1 : Nat) ≤ _; omega, by show (1 : Nat) ≤ _; omega, by show u.size ≤ _; omega, by show (0 : Int) ≤ _; omega⟩
    · exact ⟨by show (0 : Nat) ≤ _; omega, by show a.size ≤ _; omega, by show (0 : Nat) ≤ _; omega, by show (0 : Int) ≤ _; omega⟩
    · exact ⟨by show (1 : Nat) ≤ _; omega, by show (0 : Nat) ≤ _; omega, by show (0 : Nat) ≤ _; omega, by show (0 : Int) ≤ _; omega⟩
  · simp only [nodeL, List.mem_cons, List.not_mem_nil, or_false] at hy
    rcases hy with rfl | rfl | rfl
    · show (1 : Int) ≤ _; omega
    · show (1 : Int) ≤ _; omega
    · show (0 : Int) ≤ _; omega
theorem one_sz : ∀ m ∈ oneL, MdSz m := mod_sz _ _ (by decide) (by decide)
theorem lit_cells {w : World} {b : Nat} {cs : Array Value} {t : TypeId} (h : w.heap[b]? = some (.cells cs t (0, 0))) (j : Nat) : w.cell? ⟨b, j, none⟩ = cs[j]? := by simp [World.cell?, h]
theorem one_mem (W : World) (n : Nat) (t0 t1 t2 : TypeId) (h0 : W.heap[n]? = some (.cells ((nodeL (bt [105]) (bt [])).flatMap Nd.cells).toArray t0 (0, 0))) (h1 : W.heap[n + 1]? = some (.cells #[.string (bt [102]), .bool false, .string (bt [63]), .slice (some ⟨n, 0, none⟩) 3 3, .int .i64 0, .int .i64 0] t1 (0, 0)))
    (h2 : W.heap[n + 1 + 1]? = some (.cells #[.string (bt [109]), .slice none 0 0, .slice (some ⟨n + 1, 0, none⟩) 1 1, .int .i64 0, .int .i64 0] t2 (0, 0))) : Mods W (.slice (some ⟨n + 1 + 1, 0, none⟩) 1 1) oneL := by
  refine ⟨_, 1, rfl, Nat.le_refl _, fun _ => ⟨n + 1 + 1, 0, rfl, fun i x hx => ?_⟩⟩
  match i, hx with
  | 0, hx =>
    cases hx
    refine ⟨_, ⟨.slice none 0 0, .slice (some ⟨n + 1, 0, none⟩) 1 1, rfl, RowsV.nil, ⟨_, 1, rfl, Nat.le_refl _, fun _ => ⟨n + 1, 0, rfl, fun i x hx => ?_⟩⟩⟩, rfl, fun j u hu => ?_⟩
    · match i, hx with
      | 0, hx =>
        cases hx
        refine ⟨_, ⟨.slice (some ⟨n, 0, none⟩) 3 3, rfl, ⟨_, 3, rfl, Nat.le_refl _, fun _ => ⟨n, 0, rfl, fun i x hx j u hu => ?_⟩⟩⟩, rfl, fun j u hu => ?_⟩
        · rw [lit_cells h0]
          match i, hx with
          | 0, hx =>
            cases hx
            match j, hu with
            | 0, hu => exact hu
            | 1, hu => exact hu
            | 2, hu => exact hu
            | 3, hu => exact hu
            | 4, hu => exact hu
            | 5, hu => exact hu
            | 6, hu => exact hu
            | 7, hu => exact hu
            | j + 8, hu => simp [Nd.cells] at hu
          | 1, hx =>
            cases hx
            match j, hu with
            | 0, hu => exact hu
            | 1, hu => exact hu
            | 2, hu => exact hu
            | 3, hu => exact hu
            | 4, hu => exact hu
            | 5, hu => exact hu
            | 6, hu => exact hu
            | 7, hu => exact hu
            | j + 8, hu => simp [Nd.cells] at hu
          | 2, hx =>
            cases hx
            match j, hu with
            | 0, hu => exact hu
            | 1, hu => exact hu
            | 2, hu => exact hu
            | 3, hu => exact hu
            | 4, hu => exact hu
            | 5, hu => exact hu
            | 6, hu => exact hu
            | 7, hu => exact hu
            | j + 8, hu => simp [Nd.cells] at hu
          | i + 3, hx => simp [nodeL] at hx
        · rw [lit_cells h1, show 0 + 0 * 6 + j = j by omega]
          match j, hu with
          | 0, hu => exact hu
          | 1, hu => exact hu
          | 2, hu => exact hu
          | 3, hu => exact hu
          | 4, hu => exact hu
          | 5, hu => exact hu
          | j + 6, hu => simp [Df.cells] at hu
      | i + 1, hx => simp at hx
    · rw [lit_cells h2, show 0 + 0 * 5 + j = j by omega]
      match j, hu with
      | 0, hu => exact hu
      | 1, hu => exact hu
      | 2, hu => exact hu
      | 3, hu => exact hu
      | 4, hu => exact hu
      | j + 5, hu => simp [Md.cells] at hu
  | i + 1, hx => simp [oneL, modL] at hx
def OneRes (w : World) (E : Ending) (w' : World) : Prop := ∃ v, E = .returned v ∧ Below w.heap.size w w' ∧ Mods w' v oneL
theorem one_any (w : World) : Calls Tryz.prog 32 #[] w (OneRes w) := by
  have key : ∀ a b c : Obj, (((w.alloc a).alloc b).alloc c).heap[w.heap.size]? = some a ∧ (((w.alloc a).alloc b).alloc c).heap[w.heap.size + 1]? = some b ∧ (((w.alloc a).alloc b).alloc c).heap[w.heap.size + 1 + 1]? = some c ∧ Below w.heap.size w (((w.alloc a).alloc b).alloc c) := fun a b c => by
    refine ⟨?_, ?_, ?_, ((Below.refl _ _).alloc (Nat.le_refl _) _).alloc (by simp) _ |>.alloc (by simp; omega) _⟩
    · rw [Below.heap_alloc _ _ _ (by simp; omega), Below.heap_alloc _ _ _ (by simp)]; exact World.alloc_heap_new _ _
    · rw [Below.heap_alloc _ _ _ (by simp)]
      have := World.alloc_heap_new (w.alloc a) b
      rwa [World.size_alloc] at this
    · have := World.alloc_heap_new ((w.alloc a).alloc b) c
      rwa [World.size_alloc, World.size_alloc] at this
  have HK := Lib.hid key
  clear key
  go_enter Tryz.func32, Tryz.ntmps32
  go_wp2_with fail
  go_ret
  obtain ⟨k0, k1, k2, k3⟩ := HK.out _ _ _
  exact ⟨_, rfl, k3, one_mem _ _ _ _ _ k0 k1 k2⟩
end Go.Proofs.YtidholghbjljaaaGreatDoor

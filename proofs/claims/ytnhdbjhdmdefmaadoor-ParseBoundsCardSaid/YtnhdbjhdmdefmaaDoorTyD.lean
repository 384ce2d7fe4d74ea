
/- What the statements on text lean on: lists of tokens in memory; a known source. -/
import Derived.Test.YtnhdbjhdmdefmaaDoorTxX
import Derived.Lib.SlBytesConst
import Derived.Lib.ConvBytes
namespace Culp
set_option linter.unusedSimpArgs false
set_option linter.unusedVariables false
open Go Go.RowKit
/-- Structs of so many cells, laid one behind the other. -/
theorem flat_get {α : Type} (f : α → List Value) (n : Nat) (hf : ∀ x, (f x).length = n) : ∀ (L : List α) (i : Nat) (x : α) (j : Nat) (u : Value), L[i]? = some x → (f x)[j]? = some u → (L.flatMap f)[i * n + j]? = some u
  | [], i, x, j, u, h, _ => by simp at h
  | y :: L, 0, x, j, u, h, hu => by
    simp at h; subst h
    have hj := (List.getElem?_eq_some_iff.1 hu).1
    rw [List.flatMap_cons, Nat.zero_mul, Nat.zero_add, List.getElem?_append_left hj]
    exact hu
  | y :: L, i + 1, x, j, u, h, hu => by
    have := flat_get f n hf L i x j u (by simpa using h) hu
    rw [List.flatMap_cons, List.getElem?_append_right (by rw [hf]; rw [Nat.succ_mul]; omega), hf, show (i + 1) * n + j - n = i * n + j by rw [Nat.succ_mul]; omega]
    exact this
theorem flat_length {α : Type} (f : α → List Value) (n : Nat) (hf : ∀ x, (f x).length = n) : ∀ (L : List α), (L.flatMap f).length = L.length * n
  | [] => by simp
  | y :: L => by rw [List.flatMap_cons, List.length_append, flat_length f n hf L, hf, List.length_cons, Nat.succ_mul]; omega
/-- A slice of structs, as it is read. -/
def Structs {α : Type} (f : α → List Value) (n : Nat) (w : World) (v : Value) (L : List α) : Prop := ∃ A c, v = .slice A L.length c ∧ (0 < L.length → ∃ g o, A = some ⟨g, o, none⟩ ∧ ∀ i x, L[i]? = some x → ∀ j u, (f x)[j]? = some u → w.cell? ⟨g, o + i * n + j, none⟩ = some u)
theorem Structs.later {α : Type} {f : α → List Value} {n : Nat} {w w' : World} {v : Value} {L : List α} (h : Structs f n w v L) (hb : Below w.heap.size w w') : Structs f n w' v L := by
  obtain ⟨A, c, rfl, h⟩ := h
  refine ⟨A, c, rfl, fun h0 => ?_⟩
  obtain ⟨g, o, rfl, hc⟩ := h h0
  exact ⟨g, o, rfl, fun i x hx j u hu => cell_later hb (hc i x hx j u hu)⟩
theorem own_structs {α : Type} {f : α → List Value} {n : Nat} (hf : ∀ x, (f x).length = n) {w : World} {base : Nat} {e : TypeId} {v : Value} {L : List α} (h : w.ownsRow base e n v L.length (L.flatMap f)) : Structs f n w v L := by
  rcases h.2 with ⟨rfl, h0⟩ | ⟨g, cap, cur, rfl, hb, hh, hc, hm, hsz, htk⟩
  · exact ⟨none, 0, by rw [h0], fun h => by omega⟩
  · refine ⟨some ⟨g, 0, none⟩, cap, rfl, fun h0 => ⟨g, 0, rfl, fun i x hx j u hu => ?_⟩⟩
    rw [Nat.zero_add]
    have hi := (List.getElem?_eq_some_iff.1 hx).1
    have hj := (List.getElem?_eq_some_iff.1 hu).1
    rw [hf] at hj
    have hlt : i * n + j < L.length * n := by
      have : (i + 1) * n ≤ L.length * n := Nat.mul_le_mul_right n (by omega)
      rw [Nat.succ_mul] at this; omega
    rw [h.cellAt _ hlt]
    exact flat_get f n hf L i x j u hx hu
end Culp
namespace Go.Proofs.YtnhdbjhdmdefmaaDoor
open Go.RowKit Go.Maps Culp

theorem tcells_len (x : Tx.Tk × (Nat × Nat)) : (tcells x).length = 5 := rfl
/-- A list of tokens, as it is read. -/
abbrev Toks := Structs tcells 5
def workL : List UInt8 := [108, 101, 116, 32, 120, 32, 61, 32, 34, 97, 34, 32, 35, 32, 121]
theorem work_toks : Tx.toks workL = .ok [(⟨1, 0, [108, 101, 116]⟩, (1, 1)), (⟨2, 0, [120]⟩, (1, 5)), (⟨5, 0, [61]⟩, (1, 7)), (⟨4, 0, [97]⟩, (1, 9))] := by rfl
theorem lit_bytes (w : World) (l : List UInt8) (_ : 0 < l.length) (z : Nat × Nat) : BytesV (w.alloc (.cells (l.map byteV).toArray 5 z)) (.slice (some ⟨w.heap.size, 0, none⟩) l.length l.length) (bs l) := by
  refine ⟨_, l.length, by rw [bs_size], by rw [bs_size]; exact Nat.le_refl _, fun _ => ⟨w.heap.size, 0, rfl, fun i hi => ?_⟩⟩
  have hh := (MapKept.heap_alloc w (.cells (l.map byteV).toArray 5 z)).1
  have hi' : i < l.length := by rw [← bs_size]; exact hi
  rw [Nat.zero_add]
  simp only [World.cell?, hh]
  simp [hi', byteV]
  rfl
/-- The bytes of a text: a slice of its own. -/
theorem bytes_of (w : World) (s : ByteArray) : BytesV (Lib.bytesWorld w 5 s) (.slice (some ⟨w.heap.size, 0, none⟩) s.size (grownCap w s.size 0 5)) s ∧ Below w.heap.size w (Lib.bytesWorld w 5 s) := by
  constructor
  · refine ⟨_, _, rfl, grownCap_ge w s.size 0 _, fun _ => ⟨w.heap.size, 0, rfl, fun i hi => ?_⟩⟩
    rw [Nat.zero_add, Lib.bytesWorld_cell w _ s i hi]
    simp [List.getD, hi]
    rfl
  · refine ⟨?_, ?_, ?_, by rw [Lib.bytesWorld_size]; omega, fun j hj => Lib.bytesWorld_at_old w _ s j hj⟩
    all_goals (unfold Lib.bytesWorld World.freeze; split <;> rfl)
theorem conv_bytes (w : World) (s : ByteArray) : (convert 9 31 (.string s)).run Tryd.prog w = .ok (.slice (some ⟨w.heap.size, 0, none⟩) s.size (grownCap w s.size 0 5)) (Lib.bytesWorld w 5 s) :=
  Lib.run_convert_string_bytes w _ _ _ s Tryd.underlying9 Tryd.underlying31 Tryd.underlying5
end Go.Proofs.YtnhdbjhdmdefmaaDoor

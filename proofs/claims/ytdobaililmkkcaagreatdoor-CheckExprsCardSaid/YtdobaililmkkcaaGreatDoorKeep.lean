
/- Memory: what a call may change beside what it makes. No program in sight. -/
import Derived.Test.YtdobaililmkkcaaGreatDoorMem
namespace Culp
set_option linter.unusedSimpArgs false
set_option linter.unusedVariables false
open Go Go.RowKit

/-- All that was there stays, but for one block. -/
structure Keep (g : Nat) (w w' : World) : Prop where
  os : w'.os = w.os
  tape : w'.tape = w.tape
  output : w'.output = w.output
  size : w.heap.size ≤ w'.heap.size
  block : ∀ k, k < w.heap.size → k ≠ g → w'.heap[k]? = w.heap[k]?
theorem Keep.refl (g : Nat) (w : World) : Keep g w w := ⟨rfl, rfl, rfl, Nat.le_refl _, fun _ _ _ => rfl⟩
theorem Keep.trans {g : Nat} {a b c : World} (h : Keep g a b) (k : Keep g b c) : Keep g a c :=
  ⟨k.os.trans h.os, k.tape.trans h.tape, k.output.trans h.output, Nat.le_trans h.size k.size, fun i hi hg => (k.block i (Nat.lt_of_lt_of_le hi h.size) hg).trans (h.block i hi hg)⟩
theorem Keep.of {g : Nat} {w w' : World} (h : Below w.heap.size w w') : Keep g w w' := ⟨h.os, h.tape, h.output, h.size, fun k hk _ => h.block k hk⟩
theorem Keep.cell {g : Nat} {w w' : World} (h : Keep g w w') {a : Addr} {v : Value} (hv : w.cell? a = some v) (hg : a.block ≠ g) : w'.cell? a = some v := by
  have hlt := World.block_lt_of_cell? w a hv
  rw [World.cell?_of_block (w := w) (h.block a.block hlt hg)]
  exact hv
theorem Keep.drew {g : Nat} {a w : World} (h : Keep g a w) : Keep g a w.drew := ⟨h.os, h.tape, h.output, h.size, h.block⟩
theorem Keep.setCell {g : Nat} {a w : World} (h : Keep g a w) (i : Nat) (u : Value) : Keep g a (w.setCell ⟨g, i, none⟩ u) :=
  ⟨h.os, h.tape, h.output, by have := h.size; simpa [World.setCell] using this, fun k hk hg => by rw [Below.heap_setCell _ _ _ _ hg]; exact h.block k hk hg⟩
theorem Keep.alloc {g : Nat} {a w : World} (h : Keep g a w) (o : Obj) : Keep g a (w.alloc o) :=
  ⟨h.os, h.tape, h.output, by have := h.size; simp; omega, fun k hk hg => by rw [Below.heap_alloc _ _ _ (Nat.lt_of_lt_of_le hk h.size)]; exact h.block k hk hg⟩
/-- What was made since may be what has changed. -/
theorem Keep.below {g : Nat} {w w' : World} (h : Keep g w w') (hg : w.heap.size ≤ g) : Below w.heap.size w w' := ⟨h.os, h.tape, h.output, h.size, fun k hk => h.block k hk (by omega)⟩

end Culp

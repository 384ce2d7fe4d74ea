
/- What a call answers: small words that all walks of this seat use. -/
import Derived.Test.YtdobaililmkkcaaGreatDoorRows
import Derived.Test.YtdobaililmkkcaaGreatDoorMem
import Derived.Test.YtdobaililmkkcaaGreatDoorKeep
import Derived.Test.YtdobaililmkkcaaGreatDoorPlan
import Derived.Lib.SlBytesRow
namespace Go.Proofs.YtdobaililmkkcaaGreatDoor
set_option linter.unusedSimpArgs false
set_option linter.unusedVariables false
open Go.RowKit Culp

/-- A call that only computes. -/
def Gives (v : Value) (w : World) (e : Ending) (w' : World) : Prop := e = .returned v ∧ w = w'
theorem Gives.mk {v u : Value} {w : World} (h : u = v) : Gives v w (.returned u) w := ⟨by rw [h], rfl⟩

/-- A call that answers a value and leaves what was there as it was. -/
def Makes (v : Value) (w : World) (e : Ending) (w' : World) : Prop := e = .returned v ∧ Below w.heap.size w w'
theorem Makes.mk {v u : Value} {w w' : World} (h : u = v) (hb : Below w.heap.size w w') : Makes v w (.returned u) w' := ⟨by rw [h], hb⟩
theorem Gives.makes {v : Value} {w w' : World} {e : Ending} (h : Gives v w e w') : Makes v w e w' := ⟨h.1, by rw [← h.2]; exact Below.refl _ _⟩

/-- Some truth, and nothing done. -/
def SomeBool (w : World) (e : Ending) (w' : World) : Prop := ∃ b : Bool, e = .returned (.bool b) ∧ w = w'
theorem int_congr {k : IntKind} {a b : Int} (h : a = b) : Value.int k a = Value.int k b := by rw [h]
theorem bool_congr {a b : Bool} (h : a = b) : Value.bool a = Value.bool b := by rw [h]
theorem str_congr {a b : ByteArray} (h : a = b) : Value.string a = Value.string b := by rw [h]
theorem ne_lit {n : Nat} {z : Int} (h : (n : Int) ≠ z) : (((n : Nat) : Int) == z) = false := beq_eq_false_iff_ne.2 h
theorem eq_lit {n : Nat} {z : Int} (h : (n : Int) = z) : (((n : Nat) : Int) == z) = true := by rw [h]; exact beq_self_eq_true z
theorem neq_lit {n : Nat} {z : Int} (h : (n : Int) ≠ z) : (((n : Nat) : Int) != z) = true := by rw [bne, ne_lit h]; rfl
theorem neq_lit0 {n : Nat} {z : Int} (h : (n : Int) = z) : (((n : Nat) : Int) != z) = false := by rw [bne, eq_lit h]; rfl
theorem toL' (s : ByteArray) : s.toList = s.data.toList := ByteArray.toList_eq s
theorem str_inj' {s t : ByteArray} (h : s.data.toList = t.data.toList) : s = t := ByteArray.ext (Array.toList_inj.1 h)

/-- A slice of bytes as it lies in memory. -/
def BytesV (w : World) (v : Value) (s : ByteArray) : Prop := ∃ A c, v = .slice A s.size c ∧ s.size ≤ c ∧ (0 < s.size → ∃ b o, A = some ⟨b, o, none⟩ ∧ Lib.Bytes w b o s)
theorem bytes_later {w w' : World} {b o : Nat} {s : ByteArray} (h : Lib.Bytes w b o s) (hb : Below w.heap.size w w') : Lib.Bytes w' b o s := fun i hi => cell_later hb (h i hi)
theorem BytesV.later {w w' : World} {v : Value} {s : ByteArray} (h : BytesV w v s) (hb : Below w.heap.size w w') : BytesV w' v s := by
  obtain ⟨A, c, rfl, hc, hA⟩ := h
  refine ⟨A, c, rfl, hc, fun h0 => ?_⟩
  obtain ⟨b, o, rfl, hB⟩ := hA h0
  exact ⟨b, o, rfl, bytes_later hB hb⟩
end Go.Proofs.YtdobaililmkkcaaGreatDoor

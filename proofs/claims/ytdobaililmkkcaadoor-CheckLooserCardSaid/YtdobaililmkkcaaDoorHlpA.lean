
/- Walks of what statements lean on: sizes, marks. -/
import Derived.Test.YtdobaililmkkcaaDoorR4W
import Derived.Test.YtdobaililmkkcaaDoorNode
import Derived.Test.YtdobaililmkkcaaDoorPlan
import Derived.Test.YtdobaililmkkcaaDoorTr
import Derived.OwnWalk
namespace Go.Proofs.YtdobaililmkkcaaDoor
set_option linter.unusedSimpArgs false
set_option linter.unusedVariables false
open Go.RowKit Culp

def szOk (x : Nd) : Prop := x.s.size ≤ 1000000000000000 ∧ x.t.size ≤ 1000000000000000 ∧ x.u.size ≤ 1000000000000000
/-- Some number that is not too large. -/
def SomeInt (n : Int) (w : World) (e : Ending) (w' : World) : Prop := ∃ v : Int, 0 ≤ v ∧ v ≤ n ∧ e = .returned (.int .i64 v) ∧ w = w'
/-- Some number, and new memory perhaps. -/
def SomeSize (w : World) (e : Ending) (w' : World) : Prop := ∃ v : Int, e = .returned (.int .i64 v) ∧ Below w.heap.size w w'
/-- Some number, no less than the nodes are and what each says, and new memory perhaps. -/
def SizeGe (T : List Nd) (w : World) (e : Ending) (w' : World) : Prop := ∃ v : Int, (T.length : Int) ≤ v ∧ (v ≤ 2147483647 → ∀ x ∈ T, (x.s.size : Int) ≤ v) ∧ e = .returned (.int .i64 v) ∧ Below w.heap.size w w'
/-- A law's bound on sizes lets a list of nodes by. -/
def LongRes (T : List Nd) (w : World) (e : Ending) (w' : World) : Prop := ∃ b : Bool, e = .returned (.bool b) ∧ (b = false → T.length ≤ 32768) ∧ Below w.heap.size w w'
theorem nd_eq (x y : Nd) : x.val = y.val ↔ x = y := by
  obtain ⟨a1, a2, a3, a4, a5, a6, a7, a8⟩ := x
  obtain ⟨b1, b2, b3, b4, b5, b6, b7, b8⟩ := y
  simp [Nd.val, Nd.cells]

/-- The marks behind a list. -/
def markN (i : Nat) : Nd := ⟨0, 9437184 + (i : Int) + 1, 0, ⟨#[]⟩, ⟨#[]⟩, ⟨#[]⟩, 0, 0⟩
def marks (n : Nat) : List Nd := (List.range 64).map fun k => markN (n + k)
theorem marks_at {T : List Nd} {i : Nat} (h1 : T.length ≤ i) (h2 : i < T.length + 64) : (T ++ marks T.length)[i]? = some (markN i) := by
  rw [List.getElem?_append_right h1]
  unfold marks
  rw [List.getElem?_map, List.getElem?_range (by omega)]
  simp only [Option.map_some, Option.some.injEq]
  congr 1
  omega
/-- A list of its own, with marks behind it. -/
def WideRes (T : List Nd) (w : World) (e : Ending) (w' : World) : Prop := ∃ g, e = .returned (.slice (some ⟨g, 0, none⟩) T.length (T.length + 64 : Nat)) ∧ NodesAt w' g 0 (T ++ marks T.length) ∧ Below w.heap.size w w'
theorem node_info : (Tryd.prog.info? 32).map (fun i => (i.zero, i.size, i.bytes)) = some (some (.agg #[.int .i8 0, .int .i64 0, .int .i64 0, .string ByteArray.empty, .string ByteArray.empty, .string ByteArray.empty, .int .i64 0, .int .i64 0]), 8, 88) := by kernel_rfl
end Go.Proofs.YtdobaililmkkcaaDoor

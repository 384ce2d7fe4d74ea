
/- The walks of the statements TreeArities and TreeChecks. -/
import Derived.Test.YtdobaililmkkcaaDoorTrR
import Derived.Test.YtdobaililmkkcaaDoorHlpB
namespace Go.Proofs.YtdobaililmkkcaaDoor
set_option linter.unusedSimpArgs false
set_option linter.unusedVariables false
open Go.RowKit Go.Maps Culp

theorem wide_nodes {T : List Nd} {g : Nat} {w : World} (h : NodesAt w g 0 (T ++ marks T.length)) : Nodes w (.slice (some ⟨g, 0, none⟩) T.length (T.length + 64 : Nat)) T :=
  ⟨_, _, rfl, by omega, fun _ => ⟨g, 0, rfl, fun i x hx j u hu => h i x (by rw [List.getElem?_append_left (List.getElem?_eq_some_iff.1 hx).1]; exact hx) j u hu⟩⟩
theorem arV_is (k : Int) : arV k = .tuple #[.int .i64 (max (Tr.arit k) 0), .bool (decide (0 ≤ Tr.arit k))] := by
  unfold arV
  split
  · rename_i h
    rw [Int.max_eq_left h, decide_eq_true h]
  · rename_i h
    rw [Int.max_eq_right (by omega), decide_eq_false h]
end Go.Proofs.YtdobaililmkkcaaDoor


/- Walks of trees: likeness of a list and itself. -/
import Derived.Test.YtdobaililmkkcaaGreatDoorTrO
namespace Go.Proofs.YtdobaililmkkcaaGreatDoor
set_option linter.unusedSimpArgs false
set_option linter.unusedVariables false
open Go.RowKit Go.Maps Culp

end Go.Proofs.YtdobaililmkkcaaGreatDoor

/- Walks of trees: the free names of a known list. -/
namespace Culp.Tr
/-- A sum of a number and a name. -/
def l3 : List Nd := [⟨10, 2, 0, ⟨#[]⟩, ⟨#[]⟩, ⟨#[]⟩, 0, 0⟩, ⟨1, 0, 1, ⟨#[]⟩, ⟨#[]⟩, ⟨#[]⟩, 0, 0⟩, ⟨4, 0, 0, ⟨#[120]⟩, ⟨#[]⟩, ⟨#[]⟩, 0, 0⟩]
theorem kids0 : kidsOf l3 0 = [1, 2] := by rfl
theorem kids1 : kidsOf l3 1 = [] := by rfl
theorem kids2 : kidsOf l3 2 = [] := by rfl
theorem check3 : check l3 = (0, 0) := by rfl
end Culp.Tr
namespace Go.Proofs.YtdobaililmkkcaaGreatDoor
open Go.RowKit Go.Maps Culp

theorem strings_info : (Tryz.prog.info? 9).map (fun i => (i.zero, i.size, i.bytes)) = some (some (.string ByteArray.empty), 1, 16) := by kernel_rfl
theorem One.later {a : Nat} {t : TypeId} {v : Value} {w w' : World} (h : One a t v w) (hb : Below w.heap.size w w') : One a t v w' := (hb.block a (Array.getElem?_eq_some_iff.1 h).1).trans h
/-- What the closure leaves: the one name. -/
def FreeRes (a : Nat) (w : World) (e : Ending) (w' : World) : Prop := e = .returned (.tuple #[]) ∧ Keep a w w' ∧ ∃ g cap, One a 23 (.slice (some ⟨g, 0, none⟩) 1 cap) w' ∧ w'.cell? ⟨g, 0, none⟩ = some (.string ⟨#[120]⟩)
/-- What Free answers there. -/
def NameRes (w : World) (e : Ending) (w' : World) : Prop := ∃ g cap, e = .returned (.slice (some ⟨g, 0, none⟩) 1 cap) ∧ w'.cell? ⟨g, 0, none⟩ = some (.string ⟨#[120]⟩) ∧ Below w.heap.size w w'
end Go.Proofs.YtdobaililmkkcaaGreatDoor

/- Walks of trees: no idle program. -/
namespace Culp.Tr
/-- A sign before a number that may not be. -/
def l2 : List Nd := [⟨16, 1, 0, ⟨#[]⟩, ⟨#[]⟩, ⟨#[]⟩, 0, 0⟩, ⟨1, 0, -1, ⟨#[]⟩, ⟨#[]⟩, ⟨#[]⟩, 0, 0⟩]
theorem check2 : check l2 = (18, 1) := by rfl
theorem behind3 : behind l3 0 = 3 := by rfl
theorem deep3 : deepOf l3 = 2 := by rfl
end Culp.Tr
namespace Go.Proofs.YtdobaililmkkcaaGreatDoor
open Go.RowKit Go.Maps Culp

/-- Nodes that were just laid. -/
theorem lit_nodes (w : World) (T : List Nd) (cs : Array Value) (t : TypeId) (h : cs = (T.flatMap Nd.cells).toArray) : Nodes (w.alloc (.cells cs t)) (.slice (some ⟨w.heap.size, 0, none⟩) T.length T.length) T := by
  subst h
  refine ⟨_, _, rfl, Nat.le_refl _, fun _ => ⟨w.heap.size, 0, rfl, fun i x hx j u hu => ?_⟩⟩
  rw [Nat.zero_add, World.cell?_alloc_at _ _ _ _ rfl]
  have : ∀ (T : List Nd) (i : Nat), T[i]? = some x → (T.flatMap Nd.cells)[i * 8 + j]? = some u := by
    intro T
    induction T with
    | nil => intro i h; simp at h
    | cons y T ih =>
      intro i h
      have hj : j < 8 := by have := (List.getElem?_eq_some_iff.1 hu).1; simpa [Nd.cells] using this
      cases i with
      | zero =>
        simp at h; subst h
        rw [List.flatMap_cons, Nat.zero_mul, Nat.zero_add, List.getElem?_append_left (by simpa [Nd.cells] using hj)]
        exact hu
      | succ i =>
        have h8 : y.cells.length = 8 := rfl
        rw [List.flatMap_cons, List.getElem?_append_right (by rw [h8]; omega), h8, show (i + 1) * 8 + j - 8 = i * 8 + j by omega]
        exact ih i (by simpa using h)
  simpa using this T i hx
end Go.Proofs.YtdobaililmkkcaaGreatDoor

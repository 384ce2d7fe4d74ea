
/- Walks of trees, the document's: the depths of the nodes. -/
import Derived.Test.YtdobaililmkkcaaDoorTrH
import Derived.Test.YtdobaililmkkcaaDoorTrM
import Derived.Maps.AppendAt
namespace Culp
set_option linter.unusedSimpArgs false
set_option linter.unusedVariables false
open Go Go.RowKit
/-- One more struct onto a row of the call's own, and where the row lies then. -/
theorem append_agg_at {P : Program} {w : World} {ops : Array Oper} {rest : List Oper} {o : Oper} {a : Act} {Q : Exit → Act → World → Prop} (hgd : o.guard = none) (s x : Operand) (t e : TypeId)
    (ho : o.op = .call { callee := .builtin .append, args := #[s, x], argTypes := #[t, t] })
    (base : Nat) (z : Value) (size bytes : Nat) (ht : P.underlying t = some (.slice e)) (hi : (P.info? e).map (fun i => (i.zero, i.size, i.bytes)) = some (some z, size, bytes))
    (hzs : z.cells.size = size) (h0 : 0 < size)
    (v : Value) (n : Nat) (xs : List Value) (hs : a.eval s = v) (hown : w.ownsRow base e size v n xs) (us : List Value) (hus : us.length = size)
    (g : Nat) (hx : a.eval x = .slice (some ⟨g, 0, none⟩) 1 1) (hgg : w.heap.size = g) (h1 : ∀ u ∈ us, u.oneCell' = true)
    (h63 : n + 1 ≤ 1000000000000000) (hbytes : (n + 1) * bytes ≤ 140737488355328) (hbase : base ≤ w.heap.size)
    (h : ∀ v' w', w'.ownsRow base e size v' (n + 1) (xs ++ us) → w.grownBy w' v.ownBlock → Below base w w' → (v'.ownBlock = v.ownBlock ∨ v'.ownBlock = some (w.heap.size + 1)) → wpList P ops Q rest (a.put o.dst v') w') :
    wpList P ops Q (o :: rest) a (w.alloc (.cells us.toArray e)) := by
  subst hgg
  obtain ⟨i, hi, hz, hz1, hz2⟩ := info_parts hi
  refine wpList_append_own_at _ hgd s x t ho base e i z size bytes ht hi hz hz1 hz2 hzs h0 v n xs hs (hown.alloc _) ⟨w.heap.size, 0, none⟩ 1 1 us hx (by omega) ?_ h1 (by unfold maxLen; omega) hbytes (by simp; omega) ?_
  · intro j u hj
    have e1 : (⟨w.heap.size, 0, none⟩ : Addr).add j = ⟨w.heap.size, j, none⟩ := by
      unfold Addr.add
      split
      · rename_i h0; subst h0; rfl
      · simp
    rw [e1, World.cell?_alloc_at _ _ _ _ rfl]
    simpa using hj
  · intro v' w' hown' hg _ hat
    have hg' : w.grownBy w' v.ownBlock :=
      { os := hg.os, tape := hg.tape, output := hg.output,
        size := by have := hg.size; simp at this; omega,
        block := fun k hk hne => by
          rw [hg.block k (by simp; omega) hne]
          exact Below.heap_alloc _ _ _ hk }
    refine h v' w' hown' hg' ((Below.refl base w).grown hg' hbase fun k hk => ?_) (by simpa using hat)
    have := hown.lt k hk
    omega
/-- Two slices that lie in no row in common. -/
def Apart (a b : Value) : Prop := ∀ k, a.ownBlock = some k → b.ownBlock ≠ some k
section
variable {w w' : World} {base base2 size size2 n m : Nat} {e e2 : TypeId} {a a' b : Value} {xs ys : List Value}
theorem Apart.symm (h : Apart a b) : Apart b a := fun k hb ha => h k ha hb
theorem own_apart_grown (h : w.ownsRow base e size b n xs) (hg : w.grownBy w' a.ownBlock) (hA : Apart a b) : w'.ownsRow base e size b n xs := by
  refine ⟨h.1, ?_⟩
  rcases h.2 with h2 | ⟨g, cap, cur, rfl, hb, hh, h3⟩
  · exact .inl h2
  · refine .inr ⟨g, cap, cur, rfl, hb, ?_, h3⟩
    rw [hg.block g (h.lt g rfl).2 (fun e => hA g e.symm rfl)]; exact hh
theorem own_apart_keep {g : Nat} (h : w.ownsRow base e size b n xs) (hk : Keep g w w') (hA : b.ownBlock ≠ some g) : w'.ownsRow base e size b n xs := by
  refine ⟨h.1, ?_⟩
  rcases h.2 with h2 | ⟨g', cap, cur, rfl, hb, hh, h3⟩
  · exact .inl h2
  · refine .inr ⟨g', cap, cur, rfl, hb, ?_, h3⟩
    rw [hk.block g' (h.lt g' rfl).2 (fun e => hA (by rw [e]; rfl))]; exact hh
theorem Apart.grow (hA : Apart a b) (h : w.ownsRow base e size b n xs) (hat : a'.ownBlock = a.ownBlock ∨ a'.ownBlock = some (w.heap.size + 1)) : Apart a' b := by
  intro k hk hb
  rcases hat with h1 | h1
  · exact hA k (h1 ▸ hk) hb
  · rw [h1] at hk
    have := (h.lt k hb).2
    injection hk with hk
    omega
end
end Culp
namespace Culp.Tr
theorem deps_nil (S : List Int) : deps [] S = [] := rfl
theorem deps_stop {x : Nd} {l : List Nd} {S : List Int} (h : pop S = []) : deps (x :: l) S = [] := by rw [deps, h]
theorem deps_more {x : Nd} {l : List Nd} {S : List Int} {c : Int} {r : List Int} (h : pop S = c :: r) : deps (x :: l) S = (r.length + 1) :: deps l (max x.kids 0 :: (c - 1) :: r) := by rw [deps, h]
end Culp.Tr
namespace Go.Proofs.YtdobaililmkkcaaDoor
open Go.RowKit Go.Maps Culp

def natV (n : Nat) : Value := .int .i64 (n : Int)
/-- What Depths answers. -/
def DepRes (T : List Nd) (w : World) (e : Ending) (w' : World) : Prop := ∃ v, e = .returned (.tuple #[v, .int .i64 ((Tr.deps T [1]).length : Nat)]) ∧ w'.ownsRow w.heap.size 3 1 v (Tr.deps T [1]).length ((Tr.deps T [1]).map natV) ∧ Below w.heap.size w w'
end Go.Proofs.YtdobaililmkkcaaDoor

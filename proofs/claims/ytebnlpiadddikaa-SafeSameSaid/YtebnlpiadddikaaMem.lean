/- Memory: small laws for what a call makes. No program in sight. -/
import Derived.WalkKit
import Derived.WalkSpells
import Derived.WalkLawsBesides
import Derived.Lib.Hide
namespace Culp
set_option linter.unusedSimpArgs false
set_option linter.unusedVariables false
open Go Go.RowKit

/-- One more element onto a row of the call's own; the element lies in a block that was just made for it. -/
theorem append_one {P : Program} {w : World} {ops : Array Oper} {rest : List Oper} {o : Oper} {a : Act} {Q : Exit → Act → World → Prop} (hgd : o.guard = none) (s x : Operand) (t e : TypeId)
    (ho : o.op = .call { callee := .builtin .append, args := #[s, x], argTypes := #[t, t] })
    (base : Nat) (z : Value) (bytes : Nat) (ht : P.underlying t = some (.slice e)) (hi : (P.info? e).map (fun i => (i.zero, i.size, i.bytes)) = some (some z, 1, bytes))
    (hzs : z.cells.size = 1)
    (v : Value) (n : Nat) (xs : List Value) (hs : a.eval s = v) (hown : w.ownsRow base e 1 v n xs) (u : Value)
    (hx : a.eval x = .slice (some ⟨w.heap.size, 0, none⟩) 1 1) (h1 : u.oneCell' = true)
    (h63 : n + 1 ≤ 1000000000000000) (hbytes : (n + 1) * bytes ≤ 140737488355328) (hbase : base ≤ w.heap.size)
    (h : ∀ v' w', w'.ownsRow base e 1 v' (n + 1) (xs ++ [u]) → w.grownBy w' v.ownBlock → Below base w w' → wpList P ops Q rest (a.put o.dst v') w') :
    wpList P ops Q (o :: rest) a (w.alloc (.cells #[u] e)) := by
  obtain ⟨i, hi, hz, hz1, hz2⟩ := info_parts hi
  refine wpList_append_own _ hgd s x t ho base e i z 1 bytes ht hi hz hz1 hz2 hzs (by decide) v n xs hs (hown.alloc _) ⟨w.heap.size, 0, none⟩ 1 1 [u] hx rfl ?_ ?_ (by unfold maxLen; omega) hbytes (by simp; omega) ?_
  · intro j u' hj
    match j, hj with
    | 0, hj => simp at hj; subst hj; simp [Addr.add]
  · intro u' hu; simp at hu; subst hu; exact h1
  · intro v' w' hown' hg _
    have hg' : w.grownBy w' v.ownBlock :=
      { os := hg.os, tape := hg.tape, output := hg.output,
        size := by have := hg.size; simp at this; omega,
        block := fun k hk hne => by
          rw [hg.block k (by simp; omega) hne]
          exact Below.heap_alloc _ _ _ hk }
    refine h v' w' hown' hg' ((Below.refl base w).grown hg' hbase fun k hk => ?_)
    have := hown.lt k hk
    omega

/-- A slice of one-cell elements that reads as a list: its address (if it has elements), and its cells. -/
theorem own_read {w : World} {base : Nat} {e : TypeId} {v : Value} {n : Nat} {xs : List Value} (h : w.ownsRow base e 1 v n xs) (hn : 0 < n) :
    ∃ g cap, v = .slice (some ⟨g, 0, none⟩) n cap ∧ base ≤ g ∧ g < w.heap.size ∧ n ≤ cap ∧ xs.length = n ∧ ∀ j u, xs[j]? = some u → w.cell? ⟨g, j, none⟩ = some u := by
  have hl : xs.length = n := by have := h.1; omega
  rcases h.2 with ⟨_, rfl⟩ | ⟨g, cap, cur, rfl, hb, hh, hc, _, hsz, htk⟩
  · omega
  · refine ⟨g, cap, rfl, hb, ?_, hc, hl, fun j u hj => ?_⟩
    · exact (h.lt g rfl).2
    · have hjl : j < n := by
        have := (List.getElem?_eq_some_iff.1 hj).1
        omega
      rw [h.cellAt j (by omega)]; exact hj
/-- The slice itself, and its cells where it has any. -/
theorem own_form {w : World} {base : Nat} {e : TypeId} {v : Value} {n : Nat} {xs : List Value} (h : w.ownsRow base e 1 v n xs) :
    ∃ A c, v = .slice A n c ∧ xs.length = n ∧ (0 < n → ∃ g, A = some ⟨g, 0, none⟩ ∧ base ≤ g ∧ ∀ j u, xs[j]? = some u → w.cell? ⟨g, j, none⟩ = some u) := by
  rcases Nat.eq_zero_or_pos n with h0 | h0
  · subst h0
    have hl : xs.length = 0 := by have := h.1; omega
    rcases h.2 with ⟨rfl, _⟩ | ⟨g, cap, cur, rfl, _⟩
    · exact ⟨none, 0, rfl, hl, fun h => by omega⟩
    · exact ⟨_, cap, rfl, hl, fun h => by omega⟩
  · obtain ⟨g, cap, rfl, hb, _, _, hl, hc⟩ := own_read h h0
    exact ⟨_, cap, rfl, hl, fun _ => ⟨g, rfl, hb, hc⟩⟩
end Culp

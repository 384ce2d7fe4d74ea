
/- A range over a function whose rounds are counted: the k-th round is handed the k-th arguments, and what holds between two rounds may change from one to the next. No program in sight. -/
import Derived.RangeFuncNested
import Derived.RangeFuncBound
import Derived.RangeFuncCalls
import Derived.RangeFuncLeaves
namespace Culp.Er
set_option linter.unusedSimpArgs false
set_option linter.unusedVariables false
open Go Go.RowKit
variable {F : Fence} {n : Nat} {P : Program}
/-- What holds abides new blocks and draws. -/
def Calm (J : Nat → World → Prop) : Prop := ∀ k W W', J k W → W.grownBy W' none → J k W'
/-- An iterator that makes N rounds, the k-th with args k, as long as M, which it reads, holds between them. -/
def Counted (F : Fence) (n : Nat) (P : Program) (g : Nat) (lb : Array Value) (args : Nat → Array Value) (M : Nat → World → Prop) (N : Nat) : Prop :=
  ∀ (l : Nat) (J : Nat → World → Prop) (W : World), Calm J → (∀ k W1, J k W1 → M k W1) →
    (∀ k W1, k < N → J k W1 → YieldAt F (n - 1) P l (args k) W1 fun e W' => e = .returned (.bool true) ∧ J (k + 1) W') → J 0 W →
    CallsIn F n P g (#[.func (.yield l) #[] #[]] ++ lb) W fun e W' => (∃ v, e = .returned v) ∧ J N W'
/-- A round's body goes on. -/
def countPost (B : Nat) (I : Nat → World → Prop) (k : Nat) (W : World) : Exit → Act → World → Prop
  | .normal, _, W' => KeepsFrom B W W' ∧ I k W'
  | _, _, _ => False
theorem wpIn_counted {g : Operand} {ps : Array Tmp} {assign body : Code} {Q : Exit → Act → World → Prop} {a : Act} {w : World}
    (hro : F.round = none) (h1 : 1 ≤ n) {gf : Nat} {lb : Array Value} (hg : a.eval g = .func (.func gf) #[] lb) (hFg : F.fn gf) (eg : ∀ args w, (callFunc gf args).run P w = .ok (.enter gf args) w)
    {args : Nat → Array Value} {M : Nat → World → Prop} {N : Nat} (hseq : Counted F (n - 1) P gf lb args M N) (hps : ∀ k, (args k).size = ps.size)
    (I : Nat → World → Prop) (hI : OwnFrom w.heap.size I) (hM : ∀ k W, I k W → M k W) (h0 : I 0 w)
    (hround : ∀ (l k : Nat) (W : World), k < N → I k W → w.heap.size ≤ l → l < W.heap.size → (∃ ob : Obj, W.heap[l]? = some ob ∧ ob.isCells = false) →
      assign.wpIn (F.inRound l) (n - 1 - 1) P (Exit.then (fun a₁ W1 => KeepsFrom w.heap.size W W1 ∧ ∀ o, body.wpIn (F.inRound l) (n - 1 - 1) P (countPost w.heap.size I (k + 1) (W1.putObj l o)) a₁ (W1.putObj l o)) (fun _ _ _ => False))
        { tmps := (ps.zip (args k)).foldl (fun t (p, v) => t.setIfInBounds p v) a.tmps, defers := [] } W)
    (hdone : ∀ (D : Nat) (W : World), I N W → w.heap.size ≤ D → W.heap[D]? = some (.deferred (some [])) → Q .normal { a with defers := { target := .collected D, args := #[] } :: a.defers } W) :
    (Code.rangeFunc g ps assign body).wpIn F n P Q a w := by
  refine wpIn_rangeFunc fun fn hfn => ?_
  rw [hro]
  let R : LoopState → Loop := fun st => { state := st, pending := none, fn, tmps := a.tmps, params := ps, assign, body, defers := w.heap.size }
  let W0 : World := (w.alloc (.deferred (some []))).alloc (.loop (R .ready))
  have hs0 : W0.heap.size = w.heap.size + 1 + 1 := by simp [W0]
  have hrec : W0.heap[w.heap.size + 1]? = some (.loop (R .ready)) := by
    have := World.alloc_heap_new (w.alloc (.deferred (some []))) (.loop (R .ready))
    rwa [World.size_alloc] at this
  have hdef : W0.heap[w.heap.size]? = some (.deferred (some [])) := (Below.heap_alloc _ _ _ (by simp)).trans (World.alloc_heap_new w _)
  have hI0 : I 0 W0 := hI.alloc _ (hI.alloc _ h0)
  refine ⟨w.heap.size + 1, [{ target := .collected w.heap.size, args := #[] }], W0, { target := .fn (.func gf) lb, args := #[.func (.yield (w.heap.size + 1)) #[] #[]] }, W0, gf,
    #[.func (.yield (w.heap.size + 1)) #[] #[]] ++ lb, W0, run_enterLoop_outer _ _ _ _ _, ?_, ?_, ?_, fun _ => h1, ?_⟩
  · simp only [resolve, hg]
    simp [go_sem]
  · intro f' hf'
    simp [Target.leads] at hf'
    subst hf'
    exact hFg
  · simp [invoke, go_sem, eg]
  refine (hseq (w.heap.size + 1) (fun k W => I k W ∧ W.heap[w.heap.size + 1]? = some (.loop (R .ready)) ∧ W.heap[w.heap.size]? = some (.deferred (some []))) W0 ?_ (fun k W h => hM k W h.1) ?_ ⟨hI0, hrec, hdef⟩).mono ?_
  · rintro k W W' ⟨hi, hl, hd⟩ hgr
    exact ⟨hI k W W' none hi hgr (fun r e => by cases e), (hgr.block _ (Array.getElem?_eq_some_iff.1 hl).1 (by simp)).trans hl, (hgr.block _ (Array.getElem?_eq_some_iff.1 hd).1 (by simp)).trans hd⟩
  · rintro k W hkN ⟨hi, hl, hd⟩
    have hlt : w.heap.size + 1 < W.heap.size := (Array.getElem?_eq_some_iff.1 hl).1
    refine ⟨fn, _, assign, body, run_yield (P := P) (args := args k) hl (hps k), roundIn_of_wpIn hfn (wpIn_mono (hround (w.heap.size + 1) k W hkN hi (Nat.le_succ _) hlt ⟨_, hl, rfl⟩) ?_)⟩
    rintro e a1 W1 h
    cases e with
    | normal =>
      obtain ⟨hkf, hb⟩ := h
      have hl1 := hkf.same _ _ (Nat.le_succ _) hl rfl
      have hd1 := hkf.same _ _ (Nat.le_refl _) hd rfl
      have hlt1 : w.heap.size + 1 < W1.heap.size := (Array.getElem?_eq_some_iff.1 hl1).1
      refine ⟨_, run_beginRound hl1 rfl, ?_⟩
      refine wpIn_mono (hb _) ?_
      rintro e a2 W2 h2
      cases e with
      | normal =>
        obtain ⟨hkf2, hi2⟩ := h2
        have hl2 := hkf2.same _ _ (Nat.le_succ _) (World.putObj_heap_same hlt1) rfl
        have hd2 := hkf2.same _ _ (Nat.le_refl _) ((World.putObj_heap_other (by omega)).trans hd1) rfl
        exact ⟨_, _, run_endRound (P := P) none hl2, rfl, hI.putObj _ hi2 (Nat.le_succ _) hl2 rfl, World.putObj_heap_same (Array.getElem?_eq_some_iff.1 hl2).1, (World.putObj_heap_other (by omega)).trans hd2⟩
      | ret => exact h2.elim
      | exit id => exact h2.elim
      | goto t => exact h2.elim
      | panic ch => exact h2.elim
      | outgrown => exact h2.elim
    | ret => exact h.elim
    | exit id => exact h.elim
    | goto t => exact h.elim
    | panic ch => exact h.elim
    | outgrown => exact h.elim
  · rintro e W2 ⟨⟨v, rfl⟩, hi, hl, hd⟩
    exact ⟨none, _, run_endLoop (P := P) hl (by simp [R]), hdone _ _ (hI.putObj _ hi (Nat.le_succ _) hl rfl) (Nat.le_refl _) ((World.putObj_heap_other (by omega)).trans hd)⟩
end Culp.Er

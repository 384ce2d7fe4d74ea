
/- A range over a function whose rounds are counted: the k-th round is handed the k-th arguments, and what holds between two rounds may change from one to the next. No program in sight. -/
import Derived.RangeFuncNested
import Derived.RangeFuncBound
import Derived.RangeFuncCalls
import Derived.RangeFuncLeaves
import Derived.Test.YtidholghbjljaaaGreatDoorR4W
import Derived.OrdersIn
import Derived.TacticsIn
namespace Culp.Er
set_option linter.unusedSimpArgs false
set_option linter.unusedVariables false
open Go Go.RowKit
variable {F : Fence} {n : Nat} {P : Program}
/-- What holds abides new blocks and draws. -/
def Calm (J : Nat → World → Prop) : Prop := ∀ k W W', J k W → W.grownBy W' none → J k W'
/-- An iterator that makes N rounds, the k-th with args k, as long as M, which it reads, holds between them. -/
def Counted (F : Fence) (n : Nat) (P : Program) (g : Nat) (lb : Array Value) (args : Nat → Array Value) (M : Nat → World → Prop) (N : Nat) : Prop :=
  ∀ (l : Nat) (J : Nat → World → Prop) (W : World), Calm J → (∀ k W1, J k W1 → M k W1) →
    (∀ k W1, k < N → J k W1 → YieldAt F (n - 1) P l (args k) W1 fun e W' => e = .returned (.bool true) ∧ J (k + 1) W') → J 0 W →
    CallsIn F n P g (#[.func (.yield l) #[] #[]] ++ lb) W fun e W' => (∃ v, e = .returned v) ∧ J N W'
/-- A round's body goes on. -/
def countPost (B : Nat) (I : Nat → World → Prop) (k : Nat) (W : World) : Exit → Act → World → Prop
  | .normal, _, W' => KeepsFrom B W W' ∧ I k W'
  | _, _, _ => False
theorem wpIn_counted {g : Operand} {ps : Array Tmp} {assign body : Code} {Q : Exit → Act → World → Prop} {a : Act} {w : World}
    (hro : F.round = none) (h1 : 1 ≤ n) {gf : Nat} {lb : Array Value} (hg : a.eval g = .func (.func gf) #[] lb) (hFg : F.fn gf) (eg : ∀ args w, (callFunc gf args).run P w = .ok (.enter gf args) w)
    {args : Nat → Array Value} {M : Nat → World → Prop} {N : Nat} (hseq : Counted F (n - 1) P gf lb args M N) (hps : ∀ k, (args k).size = ps.size)
    (I : Nat → World → Prop) (hI : OwnFrom w.heap.size I) (hM : ∀ k W, I k W → M k W) (h0 : I 0 w)
    (hround : ∀ (l k : Nat) (W : World), k < N → I k W → w.heap.size ≤ l → l < W.heap.size → (∃ ob : Obj, W.heap[l]? = some ob ∧ ob.isCells = false) →
      assign.wpIn (F.inRound l) (n - 1 - 1) P (Exit.then (fun a₁ W1 => KeepsFrom w.heap.size W W1 ∧ ∀ o, body.wpIn (F.inRound l) (n - 1 - 1) P (countPost w.heap.size I (k + 1) (W1.putObj l o)) a₁ (W1.putObj l o)) (fun _ _ _ => False))
        { tmps := (ps.zip (args k)).foldl (fun t (p, v) => t.setIfInBounds p v) a.tmps, defers := [] } W)
    (hdone : ∀ (D : Nat) (W : World), I N W → w.heap.size ≤ D → W.heap[D]? = some (.deferred (some [])) → Q .normal { a with defers := { target := .collected D, args := #[] } :: a.defers } W) :
    (Code.rangeFunc g ps assign body).wpIn F n P Q a w := by
  refine wpIn_rangeFunc fun fn hfn => ?_
  rw [hro]
  let R : LoopState → Loop := fun st => { state := st, pending := none, fn, tmps := a.tmps, params := ps, assign, body, defers := w.heap.size }
  let W0 : World := (w.alloc (.deferred (some []))).alloc (.loop (R .ready))
  have hs0 : W0.heap.size = w.heap.size + 1 + 1 := by simp [W0]
  have hrec : W0.heap[w.heap.size + 1]? = some (.loop (R .ready)) := by
    have := World.alloc_heap_new (w.alloc (.deferred (some []))) (.loop (R .ready))
    rwa [World.size_alloc] at this
  have hdef : W0.heap[w.heap.size]? = some (.deferred (some [])) := (Below.heap_alloc _ _ _ (by simp)).trans (World.alloc_heap_new w _)
  have hI0 : I 0 W0 := hI.alloc _ (hI.alloc _ h0)
  refine ⟨w.heap.size + 1, [{ target := .collected w.heap.size, args := #[] }], W0, { target := .fn (.func gf) lb, args := #[.func (.yield (w.heap.size + 1)) #[] #[]] }, W0, gf,
    #[.func (.yield (w.heap.size + 1)) #[] #[]] ++ lb, W0, run_enterLoop_outer _ _ _ _ _, ?_, ?_, ?_, fun _ => h1, ?_⟩
  · simp only [resolve, hg]
    simp [go_sem]
  · intro f' hf'
    simp [Target.leads] at hf'
    subst hf'
    exact hFg
  · simp [invoke, go_sem, eg]
  refine (hseq (w.heap.size + 1) (fun k W => I k W ∧ W.heap[w.heap.size + 1]? = some (.loop (R .ready)) ∧ W.heap[w.heap.size]? = some (.deferred (some []))) W0 ?_ (fun k W h => hM k W h.1) ?_ ⟨hI0, hrec, hdef⟩).mono ?_
  · rintro k W W' ⟨hi, hl, hd⟩ hgr
    exact ⟨hI k W W' none hi hgr (fun r e => by cases e), (hgr.block _ (Array.getElem?_eq_some_iff.1 hl).1 (by simp)).trans hl, (hgr.block _ (Array.getElem?_eq_some_iff.1 hd).1 (by simp)).trans hd⟩
  · rintro k W hkN ⟨hi, hl, hd⟩
    have hlt : w.heap.size + 1 < W.heap.size := (Array.getElem?_eq_some_iff.1 hl).1
    refine ⟨fn, _, assign, body, run_yield (P := P) (args := args k) hl (hps k), roundIn_of_wpIn hfn (wpIn_mono (hround (w.heap.size + 1) k W hkN hi (Nat.le_succ _) hlt ⟨_, hl, rfl⟩) ?_)⟩
    rintro e a1 W1 h
    cases e with
    | normal =>
      obtain ⟨hkf, hb⟩ := h
      have hl1 := hkf.same _ _ (Nat.le_succ _) hl rfl
      have hd1 := hkf.same _ _ (Nat.le_refl _) hd rfl
      have hlt1 : w.heap.size + 1 < W1.heap.size := (Array.getElem?_eq_some_iff.1 hl1).1
      refine ⟨_, run_beginRound hl1 rfl, ?_⟩
      refine wpIn_mono (hb _) ?_
      rintro e a2 W2 h2
      cases e with
      | normal =>
        obtain ⟨hkf2, hi2⟩ := h2
        have hl2 := hkf2.same _ _ (Nat.le_succ _) (World.putObj_heap_same hlt1) rfl
        have hd2 := hkf2.same _ _ (Nat.le_refl _) ((World.putObj_heap_other (by omega)).trans hd1) rfl
        exact ⟨_, _, run_endRound (P := P) none hl2, rfl, hI.putObj _ hi2 (Nat.le_succ _) hl2 rfl, World.putObj_heap_same (Array.getElem?_eq_some_iff.1 hl2).1, (World.putObj_heap_other (by omega)).trans hd2⟩
      | ret => exact h2.elim
      | exit id => exact h2.elim
      | goto t => exact h2.elim
      | panic ch => exact h2.elim
      | outgrown => exact h2.elim
    | ret => exact h.elim
    | exit id => exact h.elim
    | goto t => exact h.elim
    | panic ch => exact h.elim
    | outgrown => exact h.elim
  · rintro e W2 ⟨⟨v, rfl⟩, hi, hl, hd⟩
    exact ⟨none, _, run_endLoop (P := P) hl (by simp [R]), hdone _ _ (hI.putObj _ hi (Nat.le_succ _) hl rfl) (Nat.le_refl _) ((World.putObj_heap_other (by omega)).trans hd)⟩
end Culp.Er

/- A statement that leaves its order open, inside a fence, walked in one order (as in Plan): what looks is done as soon as it may come up, what acts comes up alone. No program in sight. -/
namespace Culp.Er
set_option linter.unusedSimpArgs false
set_option linter.unusedVariables false
open Go
section
variable {F : Fence} {n : Nat} {P : Program} {ops : Array Oper} {Q : Exit → Act → World → Prop} {S : World → Prop}
/-- It only looks, in every world that meets S, and calls nobody. -/
def Looks (P : Program) (ops : Array Oper) (S : World → Prop) (o : Oper) (v : Value) (a : Act) : Prop := (∀ w, o.about P w a.eval = none) ∧ YieldsIf P ops S o v a
theorem Looks.same {o : Oper} {v : Value} {a a' : Act} (h : Looks P ops S o v a) (he : execOp a'.eval o = execOp a.eval o) (hw : Region.wanted o (yielded ops a'.tmps) = Region.wanted o (yielded ops a.tmps)) (hb : ∀ w, o.about P w a'.eval = o.about P w a.eval) : Looks P ops S o v a' :=
  ⟨fun w => (hb w).trans (h.1 w), h.2.of_same he hw⟩
theorem Looks.put {oi oj : Oper} {v : Value} {a : Act} (h : Looks P ops S oi v a) (hs : ∀ cs b, oi.op ≠ .select cs b) (h3 : ∀ d, oj.dst = some d → d ∉ oi.looksAt ops) (u : Value) : Looks P ops S oi v (a.put oj.dst u) :=
  h.same (execOp_put oi hs a oj.dst u h3) (wanted_put oi a oj.dst u h3) (fun w => about_put oi w a oj.dst u h3)
theorem Looks.step {i : Nat} {o : Oper} {v : Value} {a : Act} {K : Act → World → Prop} {w : World} (hro : F.round = none) (hi : ops[i]? = some o) (h : Looks P ops S o v a) (hS : S w) (hk : K (a.put o.dst v) w) : wpOpIn F n P ops Q i K a w := by
  have hab : ∀ f, o.about P w a.eval = some f → F.fn f := fun f hf => by rw [h.1 w] at hf; cases hf
  unfold wpOpIn
  rw [hi]
  rcases h.2 with ⟨hw, hv⟩ | ⟨hw, rfl⟩
  · simp only [hw, if_true]
    exact ⟨hab, by rw [hro, Oper.semAt_none, hv w hS]; exact hk⟩
  · simp only [hw, Bool.false_eq_true, if_false]
    exact ⟨hab, hk⟩
/-- Another operation does not care whether it has been looked at already. -/
theorem swap {j : Nat} {oi oj : Oper} {v : Value} (hro : F.round = none) (hj : ops[j]? = some oj) (hap : oi.apart ops oj = true) (hsi : ∀ cs b, oi.op ≠ .select cs b) (hsj : ∀ cs b, oj.op ≠ .select cs b)
    (hQ : ∀ c a w, Q (.panic c) (a.put oi.dst v) w → Q (.panic c) a w) {K : Act → World → Prop} {a : Act} {w : World} (hy : Looks P ops S oi v a) (h : wpOpIn F n P ops Q j K (a.put oi.dst v) w) :
    wpOpIn F n P ops Q j (fun a' w' => Looks P ops S oi v a' ∧ K (a'.put oi.dst v) w') a w := by
  obtain ⟨h1, h2, h3⟩ := Oper.apart_spec hap
  have back : ∀ (b : Act) (u : Value) (w' : World), Looks P ops S oi v b → K ((b.put oi.dst v).put oj.dst u) w' → Looks P ops S oi v (b.put oj.dst u) ∧ K ((b.put oj.dst u).put oi.dst v) w' :=
    fun b u w' hb hk => ⟨hb.put hsi h3 u, by rw [← Act.put_comm b v u h2]; exact hk⟩
  unfold wpOpIn at h ⊢
  rw [hj] at h ⊢
  simp only [wanted_put oj a oi.dst v h1, about_put oj w a oi.dst v h1] at h
  by_cases hw : Region.wanted oj (yielded ops a.tmps) = true
  · simp only [hw, if_true] at h ⊢
    obtain ⟨ha, hu⟩ := h
    rw [about_put oj w a oi.dst v h1] at ha
    refine ⟨ha, ?_⟩
    rw [hro, Oper.semAt_none, execOp_put oj hsj a oi.dst v h1] at hu
    rw [hro, Oper.semAt_none]
    cases hr : (execOp a.eval oj).run P w with
    | ok x w' =>
      rw [hr] at hu
      cases x with
      | value u => exact back a u w' hy hu
      | skip => exact back a undef w' hy hu
      | defer d => exact back { a with defers := d :: a.defers } undef w' (hy.same rfl rfl fun _ => rfl) (by rw [← Act.put_defers]; exact hu)
      | enter f args =>
        exact ⟨hu.1, hu.2.mono fun e w'' he => by
          cases e with
          | returned u => exact back a u w'' hy he
          | panicked c => exact hQ _ _ _ he
          | outgrown => exact he⟩
      | row row args => exact ⟨hu.1, RowsIn.mono hu.2 fun u w'' he => back a u w'' hy he⟩
      | round l f tmps assign body =>
        exact ⟨hu.1, hu.2.mono fun e w'' he => by
          cases e with
          | returned u => exact back a u w'' hy he
          | panicked c => exact hQ _ _ _ he
          | outgrown => exact he⟩
      | _ => exact hu
    | halt x w' =>
      rw [hr] at hu
      cases x with
      | panic u => exact hQ _ _ _ hu
      | _ => exact hu
  · simp only [hw, Bool.false_eq_true, if_false] at h ⊢
    exact ⟨h.1, back a undef w hy h.2⟩
/-- Must i come up ahead of c? -/
def anc (ops : Array Oper) : Nat → Nat → Nat → Bool
  | 0, _, _ => false
  | f + 1, c, i => match ops[c]? with
    | none => false
    | some o => o.after.any fun e => Region.binds .any e && (e.on == i || anc ops f e.on i)
/-- What has come up has what it waits for. -/
def Shut (ops : Array Oper) (listed : Array Bool) : Prop := ∀ d o, ops[d]? = some o → listed.getD d true = true → d < listed.size → ∀ e ∈ o.after, Region.binds .any e = true → listed.getD e.on true = true
theorem set_self (l : Array Bool) (j : Nat) : (l.setIfInBounds j true).getD j true = true := by
  rcases Nat.lt_or_ge j l.size with hl | hl
  · simp [hl]
  · simp [Array.getElem?_eq_none, hl]
theorem getD_ft {l : Array Bool} {k : Nat} (h : l.getD k false = true) : l.getD k true = true := by
  rcases Nat.lt_or_ge k l.size with hl | hl
  · simp [hl] at h ⊢
    exact h
  · simp [Array.getElem?_eq_none hl] at h
theorem Shut.add {listed : Array Bool} {j : Nat} (h : Shut ops listed) (hj : j ∈ Region.ready .any ops listed) : Shut ops (listed.setIfInBounds j true) := by
  intro d o ho hd hlt e he hb
  obtain ⟨hju, oj, hoj, hall⟩ := mem_ready.1 hj
  have key : listed.getD e.on true = true := by
    by_cases hdj : j = d
    · subst hdj
      rw [hoj] at ho
      cases ho
      exact getD_ft (hall e he hb)
    · rw [getD_set_ne true hdj] at hd
      exact h d o ho hd (by simpa using hlt) e he hb
  by_cases hej : j = e.on
  · rw [← hej]
    exact set_self listed j
  · rw [getD_set_ne true hej]; exact key
theorem anc_listed {listed : Array Bool} (h : Shut ops listed) {i : Nat} (hsz : listed.size = ops.size) : ∀ (f d : Nat), anc ops f d i = true → listed.getD d true = true → listed.getD i true = true
  | 0, _, ha, _ => by cases ha
  | f + 1, d, ha, hd => by
    unfold anc at ha
    cases ho : ops[d]? with
    | none => rw [ho] at ha; cases ha
    | some o =>
      rw [ho] at ha
      simp only [Array.any_eq_true', List.any_eq_true, Bool.and_eq_true, Bool.or_eq_true, beq_iff_eq] at ha
      obtain ⟨e, he, hb, hx⟩ := ha
      have hl := h d o ho hd (by rw [hsz]; exact (Array.getElem?_eq_some_iff.1 ho).1) e he hb
      rcases hx with rfl | hx
      · exact hl
      · exact anc_listed h hsz f _ hx hl
/-- Whatever comes up next; as long as c has not, S holds. -/
def anyS (F : Fence) (n : Nat) (P : Program) (ops : Array Oper) (Q : Exit → Act → World → Prop) (S : World → Prop) (c : Nat) : Nat → Array Bool → Act → World → Prop
  | 0, listed, a, w => Region.ready .any ops listed = [] ∧ Q .normal a w
  | m + 1, listed, a, w => (Region.ready .any ops listed = [] → Q .normal a w) ∧ ∀ i ∈ Region.ready .any ops listed, wpOpIn F n P ops Q i (fun a' w' => ((listed.setIfInBounds i true).getD c true = false → S w') ∧ anyS F n P ops Q S c m (listed.setIfInBounds i true) a' w') a w
theorem anyS_sound {c : Nat} : ∀ (m : Nat) (listed : Array Bool) (a : Act) (w : World), anyS F n P ops Q S c m listed a w → wpAnyIn F n P .any ops Q m listed a w
  | 0, _, _, _, h => h
  | m + 1, _, _, _, h => ⟨h.1, fun i hi => wpOpIn_mono (fun _ _ hk => anyS_sound m _ _ _ hk.2) (h.2 i hi)⟩
theorem set_listed {listed : Array Bool} {c i : Nat} (h : listed.getD c true = true) : (listed.setIfInBounds i true).getD c true = true := by
  by_cases hi : i = c
  · subst hi
    exact set_self listed i
  · rw [getD_set_ne true hi]; exact h
theorem anyS_of {c : Nat} : ∀ (m : Nat) (listed : Array Bool) (a : Act) (w : World), listed.getD c true = true → wpAnyIn F n P .any ops Q m listed a w → anyS F n P ops Q S c m listed a w
  | 0, _, _, _, _, h => h
  | m + 1, _, _, _, hc, h => ⟨h.1, fun i hi => wpOpIn_mono (fun _ _ hk => ⟨fun h0 => (by rw [set_listed hc] at h0; cases h0), anyS_of m _ _ _ (set_listed hc) hk⟩) (h.2 i hi)⟩
theorem anyS_first {i c f : Nat} {oi : Oper} {v : Value} (hro : F.round = none) (hi : ops[i]? = some oi) (hsel : ∀ (j : Nat) (o : Oper) cs b, ops[j]? = some o → o.op ≠ .select cs b) (hQ : ∀ c a w, Q (.panic c) (a.put oi.dst v) w → Q (.panic c) a w) (hanc : anc ops f c i = true) (hic : i ≠ c) :
    ∀ (m : Nat) (listed : Array Bool) (a : Act) (w : World), Shut ops listed → listed.size = ops.size →
      (∀ j oj, ops[j]? = some oj → j ≠ i → listed.getD j true = false → (∀ e ∈ oj.after, Region.binds .any e = true → e.on ≠ i) → oi.apart ops oj = true) →
      i ∈ Region.ready .any ops listed → Looks P ops S oi v a → S w →
      anyS F n P ops Q S c m (listed.setIfInBounds i true) (a.put oi.dst v) w → anyS F n P ops Q S c (m + 1) listed a w := by
  intro m
  have notyet : ∀ {listed : Array Bool}, Shut ops listed → listed.size = ops.size → i ∈ Region.ready .any ops listed → listed.getD c true = false := fun {listed} hsh hsz hr => by
    cases hc : listed.getD c true with
    | false => rfl
    | true =>
      have := anc_listed hsh hsz f c hanc hc
      rw [(mem_ready.1 hr).1] at this
      cases this
  induction m with
  | zero =>
    intro listed a w hsh hsz _ hr hy hS H
    refine ⟨fun h => (by rw [h] at hr; cases hr), fun j hj => ?_⟩
    by_cases hji : j = i
    · subst hji
      exact hy.step hro hi hS ⟨fun _ => hS, H⟩
    · have := ready_mono hj hji
      rw [H.1] at this
      cases this
  | succ m ih =>
    intro listed a w hsh hsz hf hr hy hS H
    refine ⟨fun h => (by rw [h] at hr; cases hr), fun j hj => ?_⟩
    by_cases hji : j = i
    · subst hji
      exact hy.step hro hi hS ⟨fun _ => hS, H⟩
    obtain ⟨hju, oj, hoj, hall⟩ := mem_ready.1 hj
    have hno : ∀ e ∈ oj.after, Region.binds .any e = true → e.on ≠ i := fun e he hb heq => by
      have g1 := hall e he hb
      have g0 := (mem_ready.1 hr).1
      rw [heq] at g1
      rcases Nat.lt_or_ge i listed.size with hl | hl
      · simp [hl] at g0 g1; rw [g0] at g1; cases g1
      · simp [Array.getElem?_eq_none hl] at g1
    have hsz2 : (listed.setIfInBounds j true).size = ops.size := by simpa using hsz
    have hr2 := ready_mono hr (Ne.symm hji)
    have hc2 := notyet (hsh.add hj) hsz2 hr2
    refine wpOpIn_mono (fun a' w' hk => ?_) (swap hro hoj (hf j oj hoj hji hju hno) (fun cs b => hsel i oi cs b hi) (fun cs b => hsel j oj cs b hoj) hQ hy (H.2 j (ready_mono hj hji)))
    obtain ⟨hk1, hk2, hk3⟩ := hk
    have hSw : S w' := hk2 (by rw [Array.setIfInBounds_comm _ _ (Ne.symm hji), getD_set_ne true hic]; exact hc2)
    refine ⟨fun _ => hSw, ih _ a' w' (hsh.add hj) hsz2 (fun k ok h1 h2 h3 h4 => hf k ok h1 h2 ?_ h4) hr2 hk1 hSw (by rw [Array.setIfInBounds_comm _ _ hji]; exact hk3)⟩
    by_cases hjk : j = k
    · subst hjk; exact hju
    · rw [getD_set_ne true hjk] at h3; exact h3
/-- What comes behind the act. -/
def walkA (F : Fence) (n : Nat) (P : Program) (ops : Array Oper) (Q : Exit → Act → World → Prop) : List Nat → Act → World → Prop
  | [], a, w => Q .normal a w
  | i :: l, a, w => ∃ o v, ops[i]? = some o ∧ YieldsFenced P ops o v a ∧ walkA F n P ops Q l (a.put o.dst v) w
/-- What comes ahead of it. -/
def walkB (F : Fence) (n : Nat) (P : Program) (ops : Array Oper) (Q : Exit → Act → World → Prop) (S : World → Prop) (c : Nat) (A : List Nat) : List Nat → Act → World → Prop
  | [], a, w => wpOpIn F n P ops Q c (fun a' w' => walkA F n P ops Q A a' w') a w
  | i :: l, a, w => ∃ o v, ops[i]? = some o ∧ Looks P ops S o v a ∧ walkB F n P ops Q S c A l (a.put o.dst v) w
def okA (ops : Array Oper) : Array Bool → List Nat → Bool
  | listed, [] => (Region.ready .any ops listed).isEmpty
  | listed, i :: l => Region.free .any ops listed i && (Region.ready .any ops listed).contains i && okA ops (listed.setIfInBounds i true) l
def okB (ops : Array Oper) (c : Nat) (A : List Nat) : Array Bool → List Nat → Bool
  | listed, [] => (Region.ready .any ops listed == [c]) && decide (c < listed.size) && okA ops (listed.setIfInBounds c true) A
  | listed, i :: l => Region.free .any ops listed i && (Region.ready .any ops listed).contains i && (decide (i ≠ c) && anc ops ops.size c i) && okB ops c A (listed.setIfInBounds i true) l
theorem walkA_any (hro : F.round = none) (hs : Region.noSelect ops = true) (hQ : ∀ c a d v w, Q (.panic c) (a.put (some d) v) w → Q (.panic c) a w) : ∀ (l : List Nat) (listed : Array Bool) (a : Act) (w : World), okA ops listed l = true → walkA F n P ops Q l a w → wpAnyIn F n P .any ops Q l.length listed a w
  | [], listed, a, w, hp, h => wpAnyIn_done (by simpa [okA] using hp) h 0
  | i :: l, listed, a, w, hp, h => by
    simp only [okA, Bool.and_eq_true] at hp
    obtain ⟨o, v, ho, hy, h⟩ := h
    exact wpAnyIn_take hro ho hs hp.1.1 hp.1.2 (fun c a w hq => by
      cases hd : o.dst with
      | none => rw [hd] at hq; exact hq
      | some d => rw [hd] at hq; exact hQ c a d v w hq) hy (walkA_any hro hs hQ l _ _ _ hp.2 h)
theorem walkB_any {c : Nat} {A : List Nat} (hro : F.round = none) (hs : Region.noSelect ops = true) (hQ : ∀ c a d v w, Q (.panic c) (a.put (some d) v) w → Q (.panic c) a w) : ∀ (l : List Nat) (listed : Array Bool) (a : Act) (w : World), okB ops c A listed l = true → Shut ops listed → listed.size = ops.size → S w → walkB F n P ops Q S c A l a w → anyS F n P ops Q S c (l.length + (A.length + 1)) listed a w
  | [], listed, a, w, hp, hsh, hsz, hS, h => by
    simp only [okB, Bool.and_eq_true, beq_iff_eq, decide_eq_true_eq] at hp
    rw [show ([] : List Nat).length + (A.length + 1) = A.length + 1 by simp]
    refine ⟨fun h0 => (by rw [hp.1.1] at h0; cases h0), fun i hi => ?_⟩
    rw [hp.1.1] at hi
    have : i = c := by simpa using hi
    subst this
    have hl : (listed.setIfInBounds i true).getD i true = true := by simp [hp.1.2]
    exact wpOpIn_mono (fun a' w' hk => ⟨fun h0 => (by rw [hl] at h0; cases h0), anyS_of _ _ _ _ hl (walkA_any hro hs hQ A _ a' w' hp.2 hk)⟩) h
  | i :: l, listed, a, w, hp, hsh, hsz, hS, h => by
    simp only [okB, Bool.and_eq_true, decide_eq_true_eq] at hp
    obtain ⟨o, v, ho, hy, h⟩ := h
    have hr : i ∈ Region.ready .any ops listed := by simpa using hp.1.1.2
    rw [show (i :: l).length + (A.length + 1) = (l.length + (A.length + 1)) + 1 by simp; omega]
    exact anyS_first hro ho (Region.noSelect_spec hs) (fun c a w hq => by
      cases hd : o.dst with
      | none => rw [hd] at hq; exact hq
      | some d => rw [hd] at hq; exact hQ c a d v w hq) hp.1.2.2 hp.1.2.1 _ listed a w hsh hsz (Region.free_spec ho hp.1.1.1) hr hy hS
      (walkB_any hro hs hQ l _ _ _ hp.2 (hsh.add hr) (by simpa using hsz) hS h)
/-- **The rule**: what looks, in this order; the one act; what only reckons. -/
theorem wpIn_region_act {id : Nat} {a : Act} {w : World} (B : List Nat) (c : Nat) (A : List Nat) (hro : F.round = none) (hm : P.follows .mixedOrders = true) (hs : Region.noSelect ops = true)
    (hp : (okB ops c A (Array.replicate ops.size false) B && (B.length + (A.length + 1) == ops.size)) = true) (hQ : ∀ c a d v w, Q (.panic c) (a.put (some d) v) w → Q (.panic c) a w)
    (hS : S w.drew) (h : S w.drew → walkB F n P ops Q S c A B a w.drew) : (Code.region id ops true).wpIn F n P Q a w := by
  simp only [Bool.and_eq_true, beq_iff_eq] at hp
  refine wpIn_region_any hm ?_
  have h0 : Shut ops (Array.replicate ops.size false) := fun d o ho hd hlt e he hb => by
    simp at hlt
    simp [hlt] at hd
  have := anyS_sound _ _ _ _ (walkB_any hro hs hQ B _ a w.drew hp.1 h0 (by simp) hS (h hS))
  rw [hp.2] at this
  exact this
end
end Culp.Er

/- The steps of such a walk. No program in sight. -/
namespace Culp.Er
set_option linter.unusedSimpArgs false
set_option linter.unusedVariables false
open Go
section
variable {F : Fence} {n : Nat} {P : Program} {Q : Exit → Act → World → Prop} {S : World → Prop}
theorem walkB_look {L : List Oper} {i c : Nat} {o : Oper} {v : Value} {l A : List Nat} {a : Act} {w : World} (ho : L[i]? = some o) (hw : Region.wanted o (yielded L.toArray a.tmps) = true) (hb : ∀ w, o.about P w a.eval = none)
    (hv : ∀ w, S w → (execOp a.eval o).run P w = .ok (.value v) w) (h : walkB F n P L.toArray Q S c A l (a.put o.dst v) w) : walkB F n P L.toArray Q S c A (i :: l) a w :=
  ⟨o, v, at_list ho, ⟨hb, .inl ⟨hw, hv⟩⟩, h⟩
theorem walkA_look {L : List Oper} {i : Nat} {o : Oper} {v : Value} {l : List Nat} {a : Act} {w : World} (ho : L[i]? = some o) (hw : Region.wanted o (yielded L.toArray a.tmps) = true) (hb : ∀ w, o.about P w a.eval = none)
    (hv : ∀ w, (execOp a.eval o).run P w = .ok (.value v) w) (h : walkA F n P L.toArray Q l (a.put o.dst v) w) : walkA F n P L.toArray Q (i :: l) a w :=
  ⟨o, v, at_list ho, ⟨.inl ⟨hw, hv⟩, hb⟩, h⟩
theorem walkA_done {ops : Array Oper} {a : Act} {w : World} (h : Q .normal a w) : walkA F n P ops Q [] a w := h
/-- A call of yield. -/
theorem walkB_round {L : List Oper} {c : Nat} {o : Oper} {x : Operand} {xs : List Operand} {ats : Array TypeId} {A : List Nat} {a : Act} {w : World} {l : Nat} {args : List Value} {fn : FuncId} {tmps : Array Value} {assign body : Code} {R : Ending → World → Prop}
    (hro : F.round = none) (hd : F.depth = none) (hF : ∀ f, F.fn f) (ho : L[c]? = some o) (hw : Region.wanted o (yielded L.toArray a.tmps) = true) (hop : o.op = .call { callee := .value x, args := xs.toArray, argTypes := ats })
    (hx : a.eval x = .func (.yield l) #[] #[]) (hxs : xs.map a.eval = args) (hy : (Instr.yield l args.toArray).run P w = .ok (.round l fn tmps assign body) w) (hR : RoundIn F (n - 1) P l fn tmps assign body w R)
    (h : ∀ e w', R e w' → ∃ v, e = .returned v ∧ walkA F n P L.toArray Q A (a.put o.dst v) w') : walkB F n P L.toArray Q S c A [] a w := by
  have he : execOp a.eval o = Instr.yield l (#[] ++ xs.toArray.map a.eval ++ #[]) := by
    unfold execOp
    rw [hop]
    simp only [resolve, hx]
    rfl
  have hr : (execOp a.eval o).run P w = .ok (.round l fn tmps assign body) w := by
    rw [he, List.map_toArray, hxs]
    simpa using hy
  show wpOpIn F n P L.toArray Q c _ a w
  unfold wpOpIn
  rw [at_list ho]
  simp only [hw, if_true]
  refine ⟨fun f _ => hF f, ?_⟩
  rw [hro, Oper.semAt_none, hr]
  refine ⟨fun h0 => (by rw [hd] at h0; cases h0), hR.mono fun e w' he => ?_⟩
  obtain ⟨v, rfl, hk⟩ := h e w' he
  exact hk
end
end Culp.Er

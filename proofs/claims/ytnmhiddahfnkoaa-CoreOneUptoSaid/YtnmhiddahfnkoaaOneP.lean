/- Plain: closed terms anywhere; composed terms. -/
import Derived.Test.YtnmhiddahfnkoaaCoreM
namespace Culp
set_option linter.unusedSimpArgs false
set_option linter.unusedVariables false
open Go Go.Proofs.Ytnmhiddahfnkoaa

/-- What lies from p to q of T lies from p' on in T'. -/
def Part2 (T T' : List Nd) (p q p' : Nat) : Prop := ∀ i, p ≤ i → i < q → T'[p' + (i - p)]? = T[i]?
theorem Part2.sub {T T' : List Nd} {p q p' a b a' : Nat} (h : Part2 T T' p q p') (ha : p ≤ a) (hb : b ≤ q) (he : a' = p' + (a - p)) : Part2 T T' a b a' := by
  intro i h1 h2
  rw [← h i (by omega) (by omega), he]
  congr 1
  omega

theorem times_lt {T : List Nd} {f n p q : Nat} (h : timesM (shapeM T f) n p = .ok q) : p ≤ q := timesM_ge (fun a b hab => shapeM_lt T f a b hab) n p q h
theorem shape_times_move {T T' : List Nd} {f f' : Nat} (ih : ∀ p q p' f', shapeM T f p = .ok q → Part2 T T' p q p' → q - p ≤ f' → shapeM T' f' p' = .ok (p' + (q - p))) :
    ∀ (n p q p' : Nat), timesM (shapeM T f) n p = .ok q → Part2 T T' p q p' → q - p ≤ f' → timesM (shapeM T' f') n p' = .ok (p' + (q - p)) := by
  intro n
  induction n with
  | zero => intro p q p' h _ _; have := times_zero h; subst this; simp [timesM]
  | succ n ihn =>
    intro p q p' h hP hf
    obtain ⟨m, h1, h2⟩ := times_succ h
    have l1 := shapeM_lt T f p m h1
    have l2 := times_lt h2
    have a1 := ih p m p' f' h1 (hP.sub (Nat.le_refl _) l2 (by omega)) (by omega)
    have a2 := ihn m q (p' + (m - p)) h2 (hP.sub (by omega) (Nat.le_refl _) rfl) (by omega)
    simp only [timesM, a1]
    rw [a2]
    congr 1
    omega
theorem shape_move (T T' : List Nd) : ∀ (f p q p' f' : Nat), shapeM T f p = .ok q → Part2 T T' p q p' → q - p ≤ f' → shapeM T' f' p' = .ok (p' + (q - p)) := by
  intro f
  induction f with
  | zero => intro p q p' f' h; exact absurd h shape_zero_no
  | succ f ih =>
    intro p q p' f' h hP hf
    have hl := shapeM_lt T _ p q h
    obtain ⟨x, hx, hk, ht⟩ := shape_ok h
    obtain ⟨f', rfl⟩ : ∃ k, f' = k + 1 := ⟨f' - 1, by omega⟩
    have hx' : T'[p']? = some x := by have := hP p (Nat.le_refl _) hl; simpa [hx] using this
    have l2 := times_lt ht
    have := shape_times_move (f' := f') ih x.kids.toNat (p + 1) q (p' + 1) ht (hP.sub (by omega) (Nat.le_refl _) (by omega)) (by omega)
    rw [shapeM, hx']
    simp only [hk, if_true]
    rw [this]
    congr 1
    omega

theorem words_more {x : Nd} {a b : Nat} (h : wordsM x a = none) (hab : a ≤ b) : wordsM x b = none := by
  by_cases h4 : x.kind = 4
  · have hd : ∀ c, wordsM x c = if 0 ≤ x.n ∧ x.n < (c : Int) then none else some 22 := fun c => by unfold wordsM; simp [h4]
    rw [hd] at h ⊢
    split at h
    · rw [if_pos (by omega)]
    · cases h
  · have hd : ∀ c, wordsM x c = wordsM x a := fun c => by unfold wordsM; simp [h4]
    rw [hd, h]
theorem typed_ok {T : List Nd} {f p : Nat} {env : List Ty} {t : Ty} {q : Nat} (h : typedM T (f + 1) env p = .ok (t, q)) : ∃ x, T[p]? = some x ∧ wordsM x env.length = none := by
  rw [typedM] at h
  split at h
  · cases h
  · rename_i x hx
    split at h
    · cases h
    · exact ⟨x, hx, by assumption⟩
theorem body_ok {p q : Nat} {g u t : Ty} {r : Except Flt (Ty × Nat)} (h : bodyM p g u r = .ok (t, q)) : t = g ∧ r = .ok (u, q) := by
  unfold bodyM at h
  split at h
  · cases h
  · split at h
    · rename_i e; cases h; subst e; exact ⟨rfl, rfl⟩
    · cases h
theorem at_ok {α : Type} {r : Except Int α} {p p' : Nat} {a : α} (h : atM p r = .ok a) : atM p' r = .ok a := by
  cases r with
  | ok b => simpa [atM] using h
  | error e => simp [atM] at h
theorem kidsM_lt {T : List Nd} {f : Nat} {env : List Ty} (ih : ∀ p t q, typedM T f env p = .ok (t, q) → p < q) : ∀ (n p q : Nat) (ts : List Ty), kidsM (typedM T f env) n p = .ok (ts, q) → p ≤ q := by
  intro n
  induction n with
  | zero => intro p q ts h; simp only [kidsM] at h; cases h; exact Nat.le_refl _
  | succ n ihn =>
    intro p q ts h
    simp only [kidsM] at h
    split at h
    · cases h
    · rename_i t m hm
      split at h
      · cases h
      · rename_i ts' r hr
        cases h
        have := ih _ _ _ hm
        have := ihn _ _ _ hr
        omega
theorem typedM_lt (T : List Nd) : ∀ (f : Nat) (env : List Ty) (p : Nat) (t : Ty) (q : Nat), typedM T f env p = .ok (t, q) → p < q := by
  intro f
  induction f with
  | zero => intro env p t q h; rw [typedM] at h; cases h
  | succ f ih =>
    intro env p t q h
    rw [typedM] at h
    split at h
    · cases h
    split at h
    · cases h
    split at h
    · split at h
      · cases h; omega
      · cases h
    split at h
    · split at h
      · split at h
        · cases h
        · obtain ⟨_, h⟩ := body_ok h
          have := ih _ _ _ _ h
          omega
      · cases h
    split at h
    · split at h
      · split at h
        · cases h
        · obtain ⟨_, h⟩ := body_ok h
          have := ih _ _ _ _ h
          omega
      · cases h
    split at h
    · split at h
      · cases h
      · rename_i a m hm
        have := ih _ _ _ _ hm
        have := ih _ _ _ _ h
        omega
    split at h
    · cases h
    · rename_i ks m hm
      split at h
      · cases h
      · cases h
        have := kidsM_lt (fun p t q h => ih env p t q h) _ _ _ _ hm
        omega

def MoveOk (T T' : List Nd) (f : Nat) : Prop := ∀ (env more : List Ty) (p : Nat) (t : Ty) (q p' f' : Nat), typedM T f env p = .ok (t, q) → Part2 T T' p q p' → q - p ≤ f' → typedM T' f' (env ++ more) p' = .ok (t, p' + (q - p))
theorem kids_move {T T' : List Nd} {f f' : Nat} (ih : MoveOk T T' f) (env more : List Ty) : ∀ (n p q p' : Nat) (ts : List Ty), kidsM (typedM T f env) n p = .ok (ts, q) → Part2 T T' p q p' → q - p ≤ f' → kidsM (typedM T' f' (env ++ more)) n p' = .ok (ts, p' + (q - p)) := by
  intro n
  induction n with
  | zero => intro p q p' ts h _ _; simp only [kidsM] at h ⊢; cases h; simp
  | succ n ihn =>
    intro p q p' ts h hP hf
    simp only [kidsM] at h
    split at h
    · cases h
    · rename_i t m hm
      split at h
      · cases h
      · rename_i ts' r hr
        cases h
        have l1 := typedM_lt T f env p t m hm
        have l2 := kidsM_lt (fun p t q h => typedM_lt T f env p t q h) _ _ _ _ hr
        have a1 := ih env more p t m p' f' hm (hP.sub (Nat.le_refl _) l2 (by omega)) (by omega)
        have a2 := ihn m q (p' + (m - p)) ts' hr (hP.sub (by omega) (Nat.le_refl _) rfl) (by omega)
        simp only [kidsM, a1, a2]
        congr 2
        omega
theorem typed_move (T T' : List Nd) : ∀ f, MoveOk T T' f := by
  intro f
  induction f with
  | zero => intro env more p t q p' f' h; rw [typedM] at h; cases h
  | succ f ih =>
    intro env more p t q p' f' h hP hf
    have hl := typedM_lt T _ env p t q h
    obtain ⟨x, hx, hw⟩ := typed_ok h
    obtain ⟨f', rfl⟩ : ∃ k, f' = k + 1 := ⟨f' - 1, by omega⟩
    have hx' : T'[p']? = some x := by have := hP p (Nat.le_refl _) hl; simpa [hx] using this
    have hw' : wordsM x (env ++ more).length = none := words_more hw (by simp)
    have hP1 : Part2 T T' (p + 1) q (p' + 1) := hP.sub (by omega) (Nat.le_refl _) (by omega)
    rw [typedM, hx] at h
    rw [typedM, hx']
    simp only [hw, hw'] at h ⊢
    have ends : ∀ {m}, m = p + 1 → p' + 1 + (q - m) = p' + (q - p) := fun hm => by omega
    split at h
    · rename_i h4
      rw [if_pos h4]
      split at h
      · rename_i t' he
        cases h
        have : (env ++ more)[x.n.toNat]? = some t := by rw [List.getElem?_append_left (List.getElem?_eq_some_iff.1 he).1]; exact he
        simp only [this]
        congr 2
        omega
      · cases h
    rename_i h4
    rw [if_neg h4]
    split at h
    · rename_i h5
      rw [if_pos h5]
      split at h
      · split at h
        · cases h
        · rename_i g hg
          obtain ⟨rfl, hb⟩ := body_ok h
          have := ih _ more (p + 1) _ q (p' + 1) f' hb hP1 (by omega)
          rw [List.cons_append] at this
          rw [at_ok hg]
          simp only [this, bodyM, if_true]
          congr 2
          omega
      · cases h
    rename_i h5
    rw [if_neg h5]
    split at h
    · rename_i h6
      rw [if_pos h6]
      split at h
      · split at h
        · cases h
        · rename_i g hg
          obtain ⟨rfl, hb⟩ := body_ok h
          have := ih _ more (p + 1) _ q (p' + 1) f' hb hP1 (by omega)
          rw [List.cons_append, List.cons_append] at this
          rw [at_ok hg]
          simp only [this, bodyM, if_true]
          congr 2
          omega
      · cases h
    rename_i h6
    rw [if_neg h6]
    split at h
    · rename_i h8
      rw [if_pos h8]
      split at h
      · cases h
      · rename_i a m hm
        have l1 := typedM_lt T f _ _ _ _ hm
        have l2 := typedM_lt T f _ _ _ _ h
        have a1 := ih env more (p + 1) a m (p' + 1) f' hm (hP.sub (by omega) (by omega) (by omega)) (by omega)
        have a2 := ih (a :: env) more m t q (p' + 1 + (m - (p + 1))) f' h (hP.sub (by omega) (Nat.le_refl _) (by omega)) (by omega)
        rw [List.cons_append] at a2
        simp only [a1, a2]
        congr 2
        omega
    rename_i h8
    rw [if_neg h8]
    split at h
    · cases h
    · rename_i ks m hm
      split at h
      · cases h
      · rename_i t2 hr
        cases h
        have := kids_move (f' := f') ih env more _ _ _ (p' + 1) _ hm hP1 (by omega)
        simp only [this, hr]
        congr 2
        omega
end Culp

/- Plain: what is known of a checked term's types and places. -/
import Derived.Test.YtnmhiddahfnkoaaCoreD
namespace Culp
set_option linter.unusedSimpArgs false
set_option linter.unusedVariables false
open Go Go.Proofs.Ytnmhiddahfnkoaa

theorem fits_made {a t : Ty} (h : madeM a = .ok t) : a = t ∧ t.fits := by
  unfold madeM at h
  split at h
  · cases h; exact ⟨rfl, by assumption⟩
  · cases h
theorem fits_need {b : Bool} {e : Int} {a t : Ty} (h : needM b e a = .ok t) : b = true ∧ a = t := by
  unfold needM at h
  split at h
  · cases h; exact ⟨by assumption, rfl⟩
  · cases h
theorem fits_cons {a : Ty} {l : List Ty} (ha : a.fits) (hl : ∀ t ∈ l, t.fits) : ∀ t ∈ a :: l, t.fits := fun t ht => by
  rcases List.mem_cons.1 ht with rfl | h
  · exact ha
  · exact hl t h
theorem fits_int : Ty.int.fits := by simp [Ty.fits, Ty.enc]
theorem fits_bool : Ty.bool.fits := by simp [Ty.fits, Ty.enc]
theorem fits_text : Ty.text.fits := by simp [Ty.fits, Ty.enc]

theorem ite_or {α : Type} {p : Prop} [Decidable p] {a b r : α} (h : (if p then a else b) = r) : a = r ∨ b = r := by
  split at h
  · exact .inl h
  · exact .inr h
theorem ruleM_fits {x : Nd} {ks : List Ty} {t : Ty} (h : ruleM x ks = .ok t) (hk : ∀ k ∈ ks, k.fits) : t.fits := by
  unfold ruleM at h
  rcases ite_or h with h | h
  · (repeat' (split at h)) <;> first
      | (cases h; done)
      | (cases h; first | exact fits_int | exact fits_bool | exact fits_text | (refine fits_sub (hk _ List.mem_cons_self) ?_; simp [Ty.kids]; done) | (refine hk _ ?_; simp; done))
      | (obtain ⟨_, rfl⟩ := fits_need h; first | exact fits_int | exact fits_bool | exact fits_text | exact (tyOf_good (by assumption)).2 | (refine fits_sub (hk _ List.mem_cons_self) ?_; simp [Ty.kids]; done) | (refine hk _ ?_; simp; done))
      | exact (fits_made h).2
  rcases ite_or h with h | h
  · (repeat' (split at h)) <;> first
      | (cases h; done)
      | (cases h; first | exact fits_int | exact fits_bool | exact fits_text | (refine fits_sub (hk _ List.mem_cons_self) ?_; simp [Ty.kids]; done) | (refine hk _ ?_; simp; done))
      | (obtain ⟨_, rfl⟩ := fits_need h; first | exact fits_int | exact fits_bool | exact fits_text | exact (tyOf_good (by assumption)).2 | (refine fits_sub (hk _ List.mem_cons_self) ?_; simp [Ty.kids]; done) | (refine hk _ ?_; simp; done))
      | exact (fits_made h).2
  rcases ite_or h with h | h
  · (repeat' (split at h)) <;> first
      | (cases h; done)
      | (cases h; first | exact fits_int | exact fits_bool | exact fits_text | (refine fits_sub (hk _ List.mem_cons_self) ?_; simp [Ty.kids]; done) | (refine hk _ ?_; simp; done))
      | (obtain ⟨_, rfl⟩ := fits_need h; first | exact fits_int | exact fits_bool | exact fits_text | exact (tyOf_good (by assumption)).2 | (refine fits_sub (hk _ List.mem_cons_self) ?_; simp [Ty.kids]; done) | (refine hk _ ?_; simp; done))
      | exact (fits_made h).2
  rcases ite_or h with h | h
  · (repeat' (split at h)) <;> first
      | (cases h; done)
      | (cases h; first | exact fits_int | exact fits_bool | exact fits_text | (refine fits_sub (hk _ List.mem_cons_self) ?_; simp [Ty.kids]; done) | (refine hk _ ?_; simp; done))
      | (obtain ⟨_, rfl⟩ := fits_need h; first | exact fits_int | exact fits_bool | exact fits_text | exact (tyOf_good (by assumption)).2 | (refine fits_sub (hk _ List.mem_cons_self) ?_; simp [Ty.kids]; done) | (refine hk _ ?_; simp; done))
      | exact (fits_made h).2
  rcases ite_or h with h | h
  · (repeat' (split at h)) <;> first
      | (cases h; done)
      | (cases h; first | exact fits_int | exact fits_bool | exact fits_text | (refine fits_sub (hk _ List.mem_cons_self) ?_; simp [Ty.kids]; done) | (refine hk _ ?_; simp; done))
      | (obtain ⟨_, rfl⟩ := fits_need h; first | exact fits_int | exact fits_bool | exact fits_text | exact (tyOf_good (by assumption)).2 | (refine fits_sub (hk _ List.mem_cons_self) ?_; simp [Ty.kids]; done) | (refine hk _ ?_; simp; done))
      | exact (fits_made h).2
  rcases ite_or h with h | h
  · (repeat' (split at h)) <;> first
      | (cases h; done)
      | (cases h; first | exact fits_int | exact fits_bool | exact fits_text | (refine fits_sub (hk _ List.mem_cons_self) ?_; simp [Ty.kids]; done) | (refine hk _ ?_; simp; done))
      | (obtain ⟨_, rfl⟩ := fits_need h; first | exact fits_int | exact fits_bool | exact fits_text | exact (tyOf_good (by assumption)).2 | (refine fits_sub (hk _ List.mem_cons_self) ?_; simp [Ty.kids]; done) | (refine hk _ ?_; simp; done))
      | exact (fits_made h).2
  rcases ite_or h with h | h
  · (repeat' (split at h)) <;> first
      | (cases h; done)
      | (cases h; first | exact fits_int | exact fits_bool | exact fits_text | (refine fits_sub (hk _ List.mem_cons_self) ?_; simp [Ty.kids]; done) | (refine hk _ ?_; simp; done))
      | (obtain ⟨_, rfl⟩ := fits_need h; first | exact fits_int | exact fits_bool | exact fits_text | exact (tyOf_good (by assumption)).2 | (refine fits_sub (hk _ List.mem_cons_self) ?_; simp [Ty.kids]; done) | (refine hk _ ?_; simp; done))
      | exact (fits_made h).2
  rcases ite_or h with h | h
  · (repeat' (split at h)) <;> first
      | (cases h; done)
      | (cases h; first | exact fits_int | exact fits_bool | exact fits_text | (refine fits_sub (hk _ List.mem_cons_self) ?_; simp [Ty.kids]; done) | (refine hk _ ?_; simp; done))
      | (obtain ⟨_, rfl⟩ := fits_need h; first | exact fits_int | exact fits_bool | exact fits_text | exact (tyOf_good (by assumption)).2 | (refine fits_sub (hk _ List.mem_cons_self) ?_; simp [Ty.kids]; done) | (refine hk _ ?_; simp; done))
      | exact (fits_made h).2
  rcases ite_or h with h | h
  · (repeat' (split at h)) <;> first
      | (cases h; done)
      | (cases h; first | exact fits_int | exact fits_bool | exact fits_text | (refine fits_sub (hk _ List.mem_cons_self) ?_; simp [Ty.kids]; done) | (refine hk _ ?_; simp; done))
      | (obtain ⟨_, rfl⟩ := fits_need h; first | exact fits_int | exact fits_bool | exact fits_text | exact (tyOf_good (by assumption)).2 | (refine fits_sub (hk _ List.mem_cons_self) ?_; simp [Ty.kids]; done) | (refine hk _ ?_; simp; done))
      | exact (fits_made h).2
  rcases ite_or h with h | h
  · (repeat' (split at h)) <;> first
      | (cases h; done)
      | (cases h; first | exact fits_int | exact fits_bool | exact fits_text | (refine fits_sub (hk _ List.mem_cons_self) ?_; simp [Ty.kids]; done) | (refine hk _ ?_; simp; done))
      | (obtain ⟨_, rfl⟩ := fits_need h; first | exact fits_int | exact fits_bool | exact fits_text | exact (tyOf_good (by assumption)).2 | (refine fits_sub (hk _ List.mem_cons_self) ?_; simp [Ty.kids]; done) | (refine hk _ ?_; simp; done))
      | exact (fits_made h).2
  rcases ite_or h with h | h
  · (repeat' (split at h)) <;> first
      | (cases h; done)
      | (cases h; first | exact fits_int | exact fits_bool | exact fits_text | (refine fits_sub (hk _ List.mem_cons_self) ?_; simp [Ty.kids]; done) | (refine hk _ ?_; simp; done))
      | (obtain ⟨_, rfl⟩ := fits_need h; first | exact fits_int | exact fits_bool | exact fits_text | exact (tyOf_good (by assumption)).2 | (refine fits_sub (hk _ List.mem_cons_self) ?_; simp [Ty.kids]; done) | (refine hk _ ?_; simp; done))
      | exact (fits_made h).2
  rcases ite_or h with h | h
  · (repeat' (split at h)) <;> first
      | (cases h; done)
      | (cases h; first | exact fits_int | exact fits_bool | exact fits_text | (refine fits_sub (hk _ List.mem_cons_self) ?_; simp [Ty.kids]; done) | (refine hk _ ?_; simp; done))
      | (obtain ⟨_, rfl⟩ := fits_need h; first | exact fits_int | exact fits_bool | exact fits_text | exact (tyOf_good (by assumption)).2 | (refine fits_sub (hk _ List.mem_cons_self) ?_; simp [Ty.kids]; done) | (refine hk _ ?_; simp; done))
      | exact (fits_made h).2
  rcases ite_or h with h | h
  · (repeat' (split at h)) <;> first
      | (cases h; done)
      | (cases h; first | exact fits_int | exact fits_bool | exact fits_text | (refine fits_sub (hk _ List.mem_cons_self) ?_; simp [Ty.kids]; done) | (refine hk _ ?_; simp; done))
      | (obtain ⟨_, rfl⟩ := fits_need h; first | exact fits_int | exact fits_bool | exact fits_text | exact (tyOf_good (by assumption)).2 | (refine fits_sub (hk _ List.mem_cons_self) ?_; simp [Ty.kids]; done) | (refine hk _ ?_; simp; done))
      | exact (fits_made h).2
  rcases ite_or h with h | h
  · (repeat' (split at h)) <;> first
      | (cases h; done)
      | (cases h; first | exact fits_int | exact fits_bool | exact fits_text | (refine fits_sub (hk _ List.mem_cons_self) ?_; simp [Ty.kids]; done) | (refine hk _ ?_; simp; done))
      | (obtain ⟨_, rfl⟩ := fits_need h; first | exact fits_int | exact fits_bool | exact fits_text | exact (tyOf_good (by assumption)).2 | (refine fits_sub (hk _ List.mem_cons_self) ?_; simp [Ty.kids]; done) | (refine hk _ ?_; simp; done))
      | exact (fits_made h).2
  rcases ite_or h with h | h
  · (repeat' (split at h)) <;> first
      | (cases h; done)
      | (cases h; first | exact fits_int | exact fits_bool | exact fits_text | (refine fits_sub (hk _ List.mem_cons_self) ?_; simp [Ty.kids]; done) | (refine hk _ ?_; simp; done))
      | (obtain ⟨_, rfl⟩ := fits_need h; first | exact fits_int | exact fits_bool | exact fits_text | exact (tyOf_good (by assumption)).2 | (refine fits_sub (hk _ List.mem_cons_self) ?_; simp [Ty.kids]; done) | (refine hk _ ?_; simp; done))
      | exact (fits_made h).2
  rcases ite_or h with h | h
  · (repeat' (split at h)) <;> first
      | (cases h; done)
      | (cases h; first | exact fits_int | exact fits_bool | exact fits_text | (refine fits_sub (hk _ List.mem_cons_self) ?_; simp [Ty.kids]; done) | (refine hk _ ?_; simp; done))
      | (obtain ⟨_, rfl⟩ := fits_need h; first | exact fits_int | exact fits_bool | exact fits_text | exact (tyOf_good (by assumption)).2 | (refine fits_sub (hk _ List.mem_cons_self) ?_; simp [Ty.kids]; done) | (refine hk _ ?_; simp; done))
      | exact (fits_made h).2
  rcases ite_or h with h | h
  · (repeat' (split at h)) <;> first
      | (cases h; done)
      | (cases h; first | exact fits_int | exact fits_bool | exact fits_text | (refine fits_sub (hk _ List.mem_cons_self) ?_; simp [Ty.kids]; done) | (refine hk _ ?_; simp; done))
      | (obtain ⟨_, rfl⟩ := fits_need h; first | exact fits_int | exact fits_bool | exact fits_text | exact (tyOf_good (by assumption)).2 | (refine fits_sub (hk _ List.mem_cons_self) ?_; simp [Ty.kids]; done) | (refine hk _ ?_; simp; done))
      | exact (fits_made h).2
  rcases ite_or h with h | h
  · (repeat' (split at h)) <;> first
      | (cases h; done)
      | (cases h; first | exact fits_int | exact fits_bool | exact fits_text | (refine fits_sub (hk _ List.mem_cons_self) ?_; simp [Ty.kids]; done) | (refine hk _ ?_; simp; done))
      | (obtain ⟨_, rfl⟩ := fits_need h; first | exact fits_int | exact fits_bool | exact fits_text | exact (tyOf_good (by assumption)).2 | (refine fits_sub (hk _ List.mem_cons_self) ?_; simp [Ty.kids]; done) | (refine hk _ ?_; simp; done))
      | exact (fits_made h).2
  rcases ite_or h with h | h
  · (repeat' (split at h)) <;> first
      | (cases h; done)
      | (cases h; first | exact fits_int | exact fits_bool | exact fits_text | (refine fits_sub (hk _ List.mem_cons_self) ?_; simp [Ty.kids]; done) | (refine hk _ ?_; simp; done))
      | (obtain ⟨_, rfl⟩ := fits_need h; first | exact fits_int | exact fits_bool | exact fits_text | exact (tyOf_good (by assumption)).2 | (refine fits_sub (hk _ List.mem_cons_self) ?_; simp [Ty.kids]; done) | (refine hk _ ?_; simp; done))
      | exact (fits_made h).2
  rcases ite_or h with h | h
  · (repeat' (split at h)) <;> first
      | (cases h; done)
      | (cases h; first | exact fits_int | exact fits_bool | exact fits_text | (refine fits_sub (hk _ List.mem_cons_self) ?_; simp [Ty.kids]; done) | (refine hk _ ?_; simp; done))
      | (obtain ⟨_, rfl⟩ := fits_need h; first | exact fits_int | exact fits_bool | exact fits_text | exact (tyOf_good (by assumption)).2 | (refine fits_sub (hk _ List.mem_cons_self) ?_; simp [Ty.kids]; done) | (refine hk _ ?_; simp; done))
      | exact (fits_made h).2
  rcases ite_or h with h | h
  · (repeat' (split at h)) <;> first
      | (cases h; done)
      | (cases h; first | exact fits_int | exact fits_bool | exact fits_text | (refine fits_sub (hk _ List.mem_cons_self) ?_; simp [Ty.kids]; done) | (refine hk _ ?_; simp; done))
      | (obtain ⟨_, rfl⟩ := fits_need h; first | exact fits_int | exact fits_bool | exact fits_text | exact (tyOf_good (by assumption)).2 | (refine fits_sub (hk _ List.mem_cons_self) ?_; simp [Ty.kids]; done) | (refine hk _ ?_; simp; done))
      | exact (fits_made h).2
  cases h

theorem kids_ok {x : Nd} (h : kidsOk x = true) {a : Int} (ha : arM x.kind = some a) : 0 ≤ x.kids ∧ (a = -1 ∨ x.kids = a) := by
  rw [kidsOk_of ha] at h
  simp only [Bool.and_eq_true, Bool.or_eq_true, decide_eq_true_eq] at h
  exact ⟨h.1, h.2.imp id Eq.symm⟩
theorem shape_ok {T : List Nd} {f p q : Nat} (h : shapeM T (f + 1) p = .ok q) : ∃ x, T[p]? = some x ∧ kidsOk x = true ∧ timesM (shapeM T f) x.kids.toNat (p + 1) = .ok q := by
  rw [shapeM] at h
  split at h
  · cases h
  · rename_i x hx
    split at h
    · exact ⟨x, hx, by assumption, h⟩
    · cases h
theorem shape_zero_no {T : List Nd} {p q : Nat} : shapeM T 0 p ≠ .ok q := by
  intro h
  rw [shapeM] at h
  split at h
  · cases h
  · split at h <;> cases h
theorem times_one {g : Nat → Except Flt Nat} {p q : Nat} (h : timesM g 1 p = .ok q) : g p = .ok q := by
  simp only [timesM] at h
  split at h
  · cases h
  · rename_i h1; rw [h1]; exact h
theorem times_succ {g : Nat → Except Flt Nat} {n p q : Nat} (h : timesM g (n + 1) p = .ok q) : ∃ m, g p = .ok m ∧ timesM g n m = .ok q := by
  simp only [timesM] at h
  split at h
  · cases h
  · exact ⟨_, by assumption, h⟩
theorem times_zero {g : Nat → Except Flt Nat} {p q : Nat} (h : timesM g 0 p = .ok q) : p = q := by
  simp only [timesM] at h; cases h; rfl

/-- What is known of one answer. -/
def TypedOk (T : List Nd) (f : Nat) : Prop := ∀ (env : List Ty) (p q : Nat) (t : Ty) (q' : Nat), (∀ t ∈ env, t.fits) → shapeM T f p = .ok q → typedM T f env p = .ok (t, q') → q' = q ∧ t.fits
theorem kidsM_ok {T : List Nd} {f : Nat} (ih : TypedOk T f) {env : List Ty} (he : ∀ t ∈ env, t.fits) : ∀ (n p q q' : Nat) (ts : List Ty), timesM (shapeM T f) n p = .ok q → kidsM (typedM T f env) n p = .ok (ts, q') → q' = q ∧ (∀ t ∈ ts, t.fits) ∧ ts.length = n := by
  intro n
  induction n with
  | zero =>
    intro p q q' ts h1 h2
    simp only [kidsM] at h2
    cases h2
    exact ⟨times_zero h1, by simp, rfl⟩
  | succ n ihn =>
    intro p q q' ts h1 h2
    obtain ⟨m, hm, h1⟩ := times_succ h1
    simp only [kidsM] at h2
    split at h2
    · cases h2
    · rename_i t m' ht
      obtain ⟨rfl, htf⟩ := ih env p m t m' he hm ht
      split at h2
      · cases h2
      · rename_i ts' r hr
        cases h2
        obtain ⟨rfl, h3, h4⟩ := ihn _ _ _ _ h1 hr
        exact ⟨rfl, fits_cons htf h3, by simp [h4]⟩
theorem typedM_ok (T : List Nd) : ∀ f, TypedOk T f := by
  intro f
  induction f with
  | zero => intro env p q t q' he h; exact absurd h shape_zero_no
  | succ f ih =>
    intro env p q t q' he hs h
    obtain ⟨x, hx, hk, ht⟩ := shape_ok hs
    rw [typedM, hx] at h
    simp only at h
    split at h
    · cases h
    · rename_i hw
      split at h
      · rename_i h4
        obtain ⟨_, h5⟩ := kids_ok hk (a := 0) (by rw [h4]; rfl)
        have h0 : x.kids = 0 := by omega
        rw [h0] at ht
        have := times_zero ht
        split at h
        · rename_i t' he'
          cases h
          exact ⟨this, he _ (List.mem_of_getElem? he')⟩
        · cases h
      · have body : ∀ {a u g : Ty} {env' : List Ty}, (x.kids = 1) → tyOf x.t = some a → tyOf x.u = some u → g.fits → (∀ t ∈ env', t.fits) → bodyM p g u (typedM T f env' (p + 1)) = .ok (t, q') → q' = q ∧ t.fits := by
          intro a u g env' hk1 hta htu hg he' hb
          rw [hk1] at ht
          have h1 := times_one ht
          unfold bodyM at hb
          split at hb
          · cases hb
          · rename_i b q2 hb2
            split at hb
            · cases hb
              exact ⟨(ih env' _ _ _ _ he' h1 hb2).1, hg⟩
            · cases hb
        split at h
        · rename_i h5
          have hk1 : x.kids = 1 := by obtain ⟨_, h6⟩ := kids_ok hk (a := 1) (by rw [h5]; rfl); omega
          split at h
          · rename_i a u ha hu
            split at h
            · cases h
            · rename_i g hg
              unfold atM at hg
              split at hg
              · rename_i hm
                cases hg
                refine body hk1 ha hu (fits_made hm).2 (fits_cons (tyOf_good ha).2 he) h
              · cases hg
          · cases h
        · split at h
          · rename_i h5
            have hk1 : x.kids = 1 := by obtain ⟨_, h6⟩ := kids_ok hk (a := 1) (by rw [h5]; rfl); omega
            split at h
            · rename_i a u ha hu
              split at h
              · cases h
              · rename_i g hg
                unfold atM at hg
                split at hg
                · rename_i hm
                  cases hg
                  refine body hk1 ha hu (fits_made hm).2 (fits_cons (tyOf_good ha).2 (fits_cons (fits_made hm).2 he)) h
                · cases hg
            · cases h
          · split at h
            · rename_i h8
              have hk1 : x.kids = 2 := by obtain ⟨_, h6⟩ := kids_ok hk (a := 2) (by rw [h8]; rfl); omega
              rw [hk1] at ht
              obtain ⟨m, hm1, hm2⟩ := times_succ (n := 1) ht
              have hm2 := times_one hm2
              split at h
              · cases h
              · rename_i a q1 ha
                obtain ⟨rfl, haf⟩ := ih _ _ _ _ _ he hm1 ha
                exact ih _ _ _ _ _ (fits_cons haf he) hm2 h
            · split at h
              · cases h
              · rename_i ks q2 hks
                obtain ⟨rfl, h3, h4⟩ := kidsM_ok ih he _ _ _ _ _ ht hks
                split at h
                · cases h
                · rename_i t2 hr
                  cases h
                  exact ⟨rfl, ruleM_fits hr h3⟩
end Culp

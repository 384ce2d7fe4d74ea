/- Walks of the document's answer for layer 10: Types, Check. -/
import Derived.Test.YtnmhiddahfnkoaaRefN
namespace Go.Proofs.Ytnmhiddahfnkoaa
set_option linter.unusedSimpArgs false
set_option linter.unusedVariables false
open Go.RowKit Culp

theorem one_any {T : List Nd} (hT : T.length ≤ 16384) (f : Nat) (ih : ∀ f', f = f' + 1 → KidR T f') : OneR T f := by
  intro g a tv av ev env p q w hA
  cases f with
  | zero => exact absurd hA.2.2.2.2.2.2 shape_zero_no
  | succ f =>
    have ih := ih f rfl
    obtain ⟨x, hx, hk, hq⟩ := shape_ok hA.2.2.2.2.2.2
    cases hw : wordsM x env.length with
    | some e0 => exact one_bad hT f g a tv av ev env p q w hA x hx hk hq _ hw e0 rfl (Lib.hid (by rw [typedM, hx]; simp only [hw]))
    | none =>
      have leaf : ∀ t, (x.kind = 1 ∨ x.kind = 2 ∨ x.kind = 3) → (ruleM x [] = .ok t) → typedM T (f + 1) env p = .ok (t, p + 1) := by
        intro t h hr
        have h0 := kids_ok hk (a := 0) (by rcases h with h | h | h <;> rw [h] <;> rfl)
        have hk0 : x.kids.toNat = 0 := by omega
        rw [typedM, hx]
        simp only [hw]
        rw [if_neg (by rcases h with h | h | h <;> rw [h] <;> decide), if_neg (by rcases h with h | h | h <;> rw [h] <;> decide), if_neg (by rcases h with h | h | h <;> rw [h] <;> decide), if_neg (by rcases h with h | h | h <;> rw [h] <;> decide), hk0]
        simp only [kidsM, hr]
      by_cases h1 : x.kind = 1
      · exact one_num hT f g a tv av ev env p q w hA x hx hk hq _ hw rfl (Lib.hid h1) (Lib.hid (leaf _ (.inl h1) (by simp [ruleM, h1])))
      by_cases h2 : x.kind = 2
      · exact one_str hT f g a tv av ev env p q w hA x hx hk hq _ hw rfl (Lib.hid h2) (Lib.hid (leaf _ (.inr (.inl h2)) (by simp [ruleM, h2])))
      by_cases h3 : x.kind = 3
      · exact one_truth hT f g a tv av ev env p q w hA x hx hk hq _ hw rfl (Lib.hid h3) (Lib.hid (leaf _ (.inr (.inr h3)) (by simp [ruleM, h3])))
      by_cases h4 : x.kind = 4
      · have hw2 := hw
        simp only [wordsM, h4] at hw2
        have hn : 0 ≤ x.n ∧ x.n < (env.length : Int) := by
          refine Decidable.byContradiction fun hc => ?_
          rw [if_neg hc] at hw2
          simp at hw2
        have hkl : x.n.toNat < env.length := by omega
        refine one_var hT f g a tv av ev env p q w hA x hx hk hq _ hw rfl (Lib.hid h4) x.n.toNat (Lib.hid (by omega)) hkl (Lib.hid ?_)
        rw [typedM, hx]
        simp only [hw, h4, if_true, List.getElem?_eq_getElem hkl]
      by_cases h56 : x.kind = 5 ∨ x.kind = 6
      · have h0 := kids_ok hk (a := 1) (by rcases h56 with h | h <;> rw [h] <;> rfl)
        have hk1 : x.kids.toNat = 1 := by omega
        have hs1 := hq
        rw [hk1] at hs1
        have hs1 := times_one hs1
        cases ht : tyOf x.t with
        | none => rcases h56 with h | h <;> simp [wordsM, h, ht] at hw
        | some t =>
          cases hu : tyOf x.u with
          | none => rcases h56 with h | h <;> simp [wordsM, h, ht, hu] at hw
          | some u =>
            obtain ⟨ha1, ha2⟩ := tyOf_good ht
            obtain ⟨hu1, hu2⟩ := tyOf_good hu
            rcases h56 with h | h
            · refine one_fn hT f ih g a tv av ev env p q w hA x hx hk hq _ hw rfl (Lib.hid h) t u ha2 hu2 (Lib.hid ha1) (Lib.hid hu1) (Lib.hid hs1) (Lib.hid ?_)
              rw [typedM, hx]
              unfold fnM madeM
              by_cases hf : (Ty.fn t u).enc.length ≤ 64 <;> simp [hw, h, ht, hu, hf, madeM, atM]
            · refine one_rec hT f ih g a tv av ev env p q w hA x hx hk hq _ hw rfl (Lib.hid h) t u ha2 hu2 (Lib.hid ha1) (Lib.hid hu1) (Lib.hid hs1) (Lib.hid ?_)
              rw [typedM, hx]
              unfold fnM madeM
              by_cases hf : (Ty.fn t u).enc.length ≤ 64
              · have hm : madeM (.fn t u) = .ok (.fn t u) := by simp [madeM, hf]
                simp [hw, h, ht, hu, hf, hm, atM]
              · have hm : madeM (.fn t u) = .error 21 := by simp [madeM, hf]
                simp [hw, h, ht, hu, hf, hm, atM]
      have h5 : x.kind ≠ 5 := fun h => h56 (.inl h)
      have h6 : x.kind ≠ 6 := fun h => h56 (.inr h)
      by_cases h8 : x.kind = 8
      · have h0 := kids_ok hk (a := 2) (by rw [h8]; rfl)
        have hk1 : x.kids.toNat = 2 := by omega
        have hs1 := hq
        rw [hk1] at hs1
        obtain ⟨m, hs1, hs2⟩ := times_succ hs1
        have hs2 := times_one hs2
        refine one_let hT f ih g a tv av ev env p q w hA x hx hk hq _ hw rfl (Lib.hid h8) m (Lib.hid hs1) (Lib.hid hs2) (Lib.hid ?_)
        rw [typedM, hx]
        simp [hw, h8]
        rfl
      by_cases h30 : x.kind = 30
      · have h0 := kids_ok hk (a := 1) (by rw [h30]; rfl)
        have hk1 : x.kids.toNat = 1 := by omega
        have hs1 := hq
        rw [hk1] at hs1
        have hs1 := times_one hs1
        cases ht : tyOf x.t with
        | none => simp [wordsM, h30, ht] at hw
        | some t =>
          cases hu : tyOf x.u with
          | none => simp [wordsM, h30, ht, hu] at hw
          | some u =>
            obtain ⟨ha1, ha2⟩ := tyOf_good ht
            obtain ⟨hu1, hu2⟩ := tyOf_good hu
            refine one_cast hT f ih g a tv av ev env p q w hA x hx hk hq _ hw rfl (Lib.hid h30) t u (Lib.hid ha1) (Lib.hid hu1) (Lib.hid hs1) (Lib.hid ?_)
            rw [typedM, hx]
            simp only [hw, h30, hk1]
            rw [if_neg (by decide), if_neg (by decide), if_neg (by decide), if_neg (by decide)]
            simp only [kidsM]
            cases hr : typedM T f env (p + 1) with
            | error e => rfl
            | ok bq =>
              obtain ⟨b0, q0⟩ := bq
              have hrule : ruleM x [b0] = needM (b0 == t) 23 u := by simp [ruleM, h30, ht, hu]
              simp only [hrule, needM]
              by_cases hb : b0 = t
              · subst hb; simp
              · simp [hb]
      have h0 : 0 ≤ x.kids := by
        obtain ⟨a, ha, h0, _⟩ := kids_facts hk
        exact h0
      refine one_rule hT f ih g a tv av ev env p q w hA x hx hk hq _ hw rfl (Lib.hid h1) (Lib.hid h2) (Lib.hid h3) (Lib.hid h4) (Lib.hid h5) (Lib.hid h6) (Lib.hid h8) (Lib.hid h30) x.kids.toNat (Lib.hid (by omega)) (Lib.hid ?_)
      rw [typedM, hx]
      simp only [hw, if_neg h4, if_neg h5, if_neg h6, if_neg h8]
      rfl

theorem rkid_any {T : List Nd} (hT : T.length ≤ 16384) : ∀ f, KidR T f
  | 0 => rkid_of (rtyped_of hT (one_any hT 0 fun f' h => by cases h))
  | f + 1 => rkid_of (rtyped_of hT (one_any hT (f + 1) fun f' h => by cases h; exact rkid_any hT f))
theorem rtyped_any {T : List Nd} (hT : T.length ≤ 16384) (f : Nat) : TypedR T f := rtyped_of hT (one_any hT f fun f' _ => rkid_any hT f')
end Go.Proofs.Ytnmhiddahfnkoaa


/- Plain: less precise annotations: a tree is typed still, with less precise types. -/
import Derived.Test.YtdfadmhomjcmeaaGreatDoorKb
namespace Culp
set_option linter.unusedSimpArgs false
set_option linter.unusedVariables false
theorem prec_refl : ∀ s : Ty, prec s s = true := by
  intro s
  induction s with
  | fn a b ha hb => simp [prec, ha, hb]
  | pair a b ha hb => simp [prec, ha, hb]
  | list a ha => simp [prec, ha]
  | box a ha => simp [prec, ha]
  | _ => rfl
theorem dyn_prec {t : Ty} (h : prec .dyn t = true) : t = .dyn := by cases t <;> first | rfl | (simp [prec] at h)
theorem int_prec {t : Ty} (h : prec .int t = true) : t = .dyn ∨ t = .int := by cases t <;> first | (simp; done) | (simp [prec] at h)
theorem bool_prec {t : Ty} (h : prec .bool t = true) : t = .dyn ∨ t = .bool := by cases t <;> first | (simp; done) | (simp [prec] at h)
theorem text_prec {t : Ty} (h : prec .text t = true) : t = .dyn ∨ t = .text := by cases t <;> first | (simp; done) | (simp [prec] at h)
theorem fn_prec {a b t : Ty} (h : prec (.fn a b) t = true) : t = .dyn ∨ ∃ c d, t = .fn c d ∧ prec a c = true ∧ prec b d = true := by
  cases t with
  | dyn => exact .inl rfl
  | fn c d => simp only [prec, Bool.and_eq_true] at h; exact .inr ⟨c, d, rfl, h⟩
  | _ => simp [prec] at h
theorem pair_prec {a b t : Ty} (h : prec (.pair a b) t = true) : t = .dyn ∨ ∃ c d, t = .pair c d ∧ prec a c = true ∧ prec b d = true := by
  cases t with
  | dyn => exact .inl rfl
  | pair c d => simp only [prec, Bool.and_eq_true] at h; exact .inr ⟨c, d, rfl, h⟩
  | _ => simp [prec] at h
theorem list_prec {a t : Ty} (h : prec (.list a) t = true) : t = .dyn ∨ ∃ c, t = .list c ∧ prec a c = true := by
  cases t with
  | dyn => exact .inl rfl
  | list c => simp only [prec] at h; exact .inr ⟨c, rfl, h⟩
  | _ => simp [prec] at h
theorem box_prec {a t : Ty} (h : prec (.box a) t = true) : t = .dyn ∨ ∃ c, t = .box c ∧ prec a c = true := by
  cases t with
  | dyn => exact .inl rfl
  | box c => simp only [prec] at h; exact .inr ⟨c, rfl, h⟩
  | _ => simp [prec] at h
theorem cons_prec : ∀ {s t s' t' : Ty}, cons s t = true → prec s s' = true → prec t t' = true → cons s' t' = true := by
  intro s
  induction s with
  | dyn => intro t s' t' _ h1 _; rw [dyn_prec h1]; simp
  | int =>
    intro t s' t' h h1 h2
    rcases int_prec h1 with rfl | rfl
    · simp
    · cases t <;> first | (rw [dyn_prec h2]; simp) | (rcases int_prec h2 with rfl | rfl <;> rfl) | (simp [cons] at h)
  | bool =>
    intro t s' t' h h1 h2
    rcases bool_prec h1 with rfl | rfl
    · simp
    · cases t <;> first | (rw [dyn_prec h2]; simp) | (rcases bool_prec h2 with rfl | rfl <;> rfl) | (simp [cons] at h)
  | text =>
    intro t s' t' h h1 h2
    rcases text_prec h1 with rfl | rfl
    · simp
    · cases t <;> first | (rw [dyn_prec h2]; simp) | (rcases text_prec h2 with rfl | rfl <;> rfl) | (simp [cons] at h)
  | fn a b ha hb =>
    intro t s' t' h h1 h2
    rcases fn_prec h1 with rfl | ⟨c, d, rfl, p1, p2⟩
    · simp
    cases t with
    | dyn => rw [dyn_prec h2]; simp
    | fn e f =>
      simp only [cons, Bool.and_eq_true] at h
      rcases fn_prec h2 with rfl | ⟨e', f', rfl, q1, q2⟩
      · simp
      · simp only [cons, Bool.and_eq_true]; exact ⟨ha h.1 p1 q1, hb h.2 p2 q2⟩
    | _ => simp [cons] at h
  | pair a b ha hb =>
    intro t s' t' h h1 h2
    rcases pair_prec h1 with rfl | ⟨c, d, rfl, p1, p2⟩
    · simp
    cases t with
    | dyn => rw [dyn_prec h2]; simp
    | pair e f =>
      simp only [cons, Bool.and_eq_true] at h
      rcases pair_prec h2 with rfl | ⟨e', f', rfl, q1, q2⟩
      · simp
      · simp only [cons, Bool.and_eq_true]; exact ⟨ha h.1 p1 q1, hb h.2 p2 q2⟩
    | _ => simp [cons] at h
  | list a ha =>
    intro t s' t' h h1 h2
    rcases list_prec h1 with rfl | ⟨c, rfl, p1⟩
    · simp
    cases t with
    | dyn => rw [dyn_prec h2]; simp
    | list e =>
      simp only [cons] at h
      rcases list_prec h2 with rfl | ⟨e', rfl, q1⟩
      · simp
      · simp only [cons]; exact ha h p1 q1
    | _ => simp [cons] at h
  | box a ha =>
    intro t s' t' h h1 h2
    rcases box_prec h1 with rfl | ⟨c, rfl, p1⟩
    · simp
    cases t with
    | dyn => rw [dyn_prec h2]; simp
    | box e =>
      simp only [cons] at h
      rcases box_prec h2 with rfl | ⟨e', rfl, q1⟩
      · simp
      · simp only [cons]; exact ha h p1 q1
    | _ => simp [cons] at h
theorem prec_trans : ∀ {s t u : Ty}, prec s t = true → prec t u = true → prec s u = true := by
  intro s
  induction s with
  | dyn => intro t u h1 h2; rw [dyn_prec h1] at h2; rw [dyn_prec h2]; rfl
  | int => intro t u h1 h2; rcases int_prec h1 with rfl | rfl; (rw [dyn_prec h2]; rfl); exact h2
  | bool => intro t u h1 h2; rcases bool_prec h1 with rfl | rfl; (rw [dyn_prec h2]; rfl); exact h2
  | text => intro t u h1 h2; rcases text_prec h1 with rfl | rfl; (rw [dyn_prec h2]; rfl); exact h2
  | fn a b ha hb =>
    intro t u h1 h2
    rcases fn_prec h1 with rfl | ⟨c, d, rfl, p1, p2⟩
    · rw [dyn_prec h2]; simp
    rcases fn_prec h2 with rfl | ⟨e, f, rfl, q1, q2⟩
    · simp
    · simp only [prec, Bool.and_eq_true]; exact ⟨ha p1 q1, hb p2 q2⟩
  | pair a b ha hb =>
    intro t u h1 h2
    rcases pair_prec h1 with rfl | ⟨c, d, rfl, p1, p2⟩
    · rw [dyn_prec h2]; simp
    rcases pair_prec h2 with rfl | ⟨e, f, rfl, q1, q2⟩
    · simp
    · simp only [prec, Bool.and_eq_true]; exact ⟨ha p1 q1, hb p2 q2⟩
  | list a ha =>
    intro t u h1 h2
    rcases list_prec h1 with rfl | ⟨c, rfl, p1⟩
    · rw [dyn_prec h2]; simp
    rcases list_prec h2 with rfl | ⟨e, rfl, q1⟩
    · simp
    · simp only [prec]; exact ha p1 q1
  | box a ha =>
    intro t u h1 h2
    rcases box_prec h1 with rfl | ⟨c, rfl, p1⟩
    · rw [dyn_prec h2]; simp
    rcases box_prec h2 with rfl | ⟨e, rfl, q1⟩
    · simp
    · simp only [prec]; exact ha p1 q1
/-- The meet is at least as precise as either. -/
theorem meet_prec : ∀ {s t : Ty}, cons s t = true → prec (meet s t) s = true ∧ prec (meet s t) t = true := by
  intro s
  induction s with
  | dyn => intro t _; exact ⟨by simp, by simpa using prec_refl t⟩
  | int => intro t h; cases t <;> first | exact ⟨rfl, rfl⟩ | (simp [cons] at h)
  | bool => intro t h; cases t <;> first | exact ⟨rfl, rfl⟩ | (simp [cons] at h)
  | text => intro t h; cases t <;> first | exact ⟨rfl, rfl⟩ | (simp [cons] at h)
  | fn a b ha hb =>
    intro t h
    cases t with
    | dyn => exact ⟨by simpa using prec_refl _, by simp⟩
    | fn c d =>
      simp only [cons, Bool.and_eq_true] at h
      simp only [meet, prec, Bool.and_eq_true]
      exact ⟨⟨(ha h.1).1, (hb h.2).1⟩, ⟨(ha h.1).2, (hb h.2).2⟩⟩
    | _ => simp [cons] at h
  | pair a b ha hb =>
    intro t h
    cases t with
    | dyn => exact ⟨by simpa using prec_refl _, by simp⟩
    | pair c d =>
      simp only [cons, Bool.and_eq_true] at h
      simp only [meet, prec, Bool.and_eq_true]
      exact ⟨⟨(ha h.1).1, (hb h.2).1⟩, ⟨(ha h.1).2, (hb h.2).2⟩⟩
    | _ => simp [cons] at h
  | list a ha =>
    intro t h
    cases t with
    | dyn => exact ⟨by simpa using prec_refl _, by simp⟩
    | list c =>
      simp only [cons] at h
      simp only [meet, prec]
      exact ha h
    | _ => simp [cons] at h
  | box a ha =>
    intro t h
    cases t with
    | dyn => exact ⟨by simpa using prec_refl _, by simp⟩
    | box c =>
      simp only [cons] at h
      simp only [meet, prec]
      exact ha h
    | _ => simp [cons] at h
/-- Part by part. -/
inductive P2 : List Ty → List Ty → Prop where
  | nil : P2 [] []
  | cons {s t : Ty} {l m : List Ty} : prec s t = true → P2 l m → P2 (s :: l) (t :: m)
theorem P2.len {l m : List Ty} (h : P2 l m) : l.length = m.length := by
  induction h with
  | nil => rfl
  | cons _ _ ih => simp [ih]
theorem P2.get {l m : List Ty} (h : P2 l m) : ∀ k, prec (l.getD k .dyn) (m.getD k .dyn) = true := by
  induction h with
  | nil => intro k; rfl
  | cons h1 _ ih =>
    intro k
    cases k with
    | zero => exact h1
    | succ k => exact ih k
theorem P2.append {l m l' m' : List Ty} (h : P2 l m) (k : P2 l' m') : P2 (l ++ l') (m ++ m') := by
  induction h with
  | nil => exact k
  | cons h1 _ ih => exact .cons h1 ih
end Culp

/- Plain: the static guarantee. -/
namespace Culp.Tr
set_option linter.unusedSimpArgs false
set_option linter.unusedVariables false
open Culp
/-- A node with looser annotations. -/
structure Loose (x x' : Nd) : Prop where
  kind : x'.kind = x.kind
  kids : x'.kids = x.kids
  s : x'.s = x.s
  t : prec (noteT x.t) (noteT x'.t) = true
  u : prec (noteT x.u) (noteT x'.u) = true
/-- Forests, node by node. -/
inductive FR : F → F → Prop where
  | nil : FR .nil .nil
  | cons {x x' : Nd} {ks ks' r r' : F} : Loose x x' → FR ks ks' → FR r r' → FR (.cons x ks r) (.cons x' ks' r')
theorem FR.len {f f' : F} (h : FR f f') : f'.flat.length = f.flat.length := by
  induction h with
  | nil => rfl
  | cons _ _ _ i1 i2 => simp only [F.flat, List.length_cons, List.length_append, i1, i2]
inductive K2 : List (Nat × List Ty) → List (Nat × List Ty) → Prop where
  | nil : K2 [] []
  | cons {p p' : Nat} {l l' : List Ty} {K K' : List (Nat × List Ty)} : P2 l l' → K2 K K' → K2 ((p, l) :: K) ((p', l') :: K')
theorem K2.heads {K K' : List (Nat × List Ty)} (h : K2 K K') : P2 ((K.map fun a => (a.1, a.2.headD Ty.dyn)).map Prod.snd) ((K'.map fun a => (a.1, a.2.headD Ty.dyn)).map Prod.snd) := by
  induction h with
  | nil => exact .nil
  | cons h1 _ ih =>
    refine .cons ?_ ih
    have := h1.get 0
    cases h1 with
    | nil => rfl
    | cons h2 _ => exact h2
theorem K2.flat {K K' : List (Nat × List Ty)} (h : K2 K K') : P2 (K.map Prod.snd).flatten (K'.map Prod.snd).flatten := by
  induction h with
  | nil => exact .nil
  | cons h1 _ ih => exact h1.append ih
/-- A list of nodes with looser annotations has the same parts. -/
theorem FR.of : ∀ (f : F) (T' : List Nd), f.Ok → T'.length = f.flat.length → (∀ (i : Nat) x x', f.flat[i]? = some x → T'[i]? = some x' → Loose x x') → ∃ f', f'.flat = T' ∧ f'.Ok ∧ f'.cnt = f.cnt ∧ f'.hgt = f.hgt ∧ FR f f'
  | .nil, T', _, hl, _ => by
    simp only [F.flat, List.length_nil] at hl
    obtain rfl := List.eq_nil_of_length_eq_zero hl
    exact ⟨.nil, rfl, trivial, rfl, rfl, .nil⟩
  | .cons x ks r, T', hO, hl, hT => by
    simp only [F.flat, List.length_cons, List.length_append] at hl
    cases T' with
    | nil => simp at hl
    | cons x' T' =>
      rw [List.length_cons] at hl
      have hx := hT 0 x x' rfl rfl
      obtain ⟨ks', k1, k2, k3, k4, k5⟩ := FR.of ks (T'.take ks.flat.length) hO.2.1 (by rw [List.length_take]; omega) (fun i y y' h1 h2 => by
        have hi := (List.getElem?_eq_some_iff.1 h1).1
        rw [List.getElem?_take, if_pos hi] at h2
        exact hT (i + 1) y y' (by simp only [F.flat]; rw [List.getElem?_cons_succ, List.getElem?_append_left hi]; exact h1) (by rw [List.getElem?_cons_succ]; exact h2))
      obtain ⟨r', r1, r2, r3, r4, r5⟩ := FR.of r (T'.drop ks.flat.length) hO.2.2 (by rw [List.length_drop]; omega) (fun i y y' h1 h2 => by
        rw [List.getElem?_drop] at h2
        exact hT (ks.flat.length + i + 1) y y' (by simp only [F.flat]; rw [List.getElem?_cons_succ, List.getElem?_append_right (by omega), Nat.add_sub_cancel_left]; exact h1) (by rw [List.getElem?_cons_succ]; exact h2))
      refine ⟨.cons x' ks' r', ?_, ⟨by rw [k3, hO.1, hx.kids], k2, r2⟩, by simp only [F.cnt, r3], by simp only [F.hgt, k4, r4], .cons hx k5 r5⟩
      simp only [F.flat]
      rw [k1, r1, List.take_append_drop]
end Culp.Tr

/- Plain: without the unknown type consistent is the same. -/
namespace Culp
set_option linter.unusedSimpArgs false
set_option linter.unusedVariables false
end Culp
namespace Culp.Tr
set_option linter.unusedSimpArgs false
set_option linter.unusedVariables false
open Culp
theorem fitT_cons {same : Bool} {s t : Ty} {e : Int} {p : Nat} {u : Unit} (h : fitT same s t e p = .ok u) : cons s t = true := by
  unfold fitT at h
  split at h
  · rename_i h1; simp only [Bool.and_eq_true] at h1; exact h1.2
  · cases h
theorem map_ok' {α β : Type} {e : Except Bad α} {f : α → β} {b : β} (h : e.map f = .ok b) : ∃ a, e = .ok a ∧ f a = b := by
  cases e with
  | error x => cases h
  | ok a => exact ⟨a, rfl, Except.ok.inj h⟩
end Culp.Tr

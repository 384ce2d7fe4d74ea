
/- Plain: less precise annotations: a tree is typed still, with less precise types. -/
import Derived.Test.YtdobaililmkkcaaDoorKb
namespace Culp
set_option linter.unusedSimpArgs false
set_option linter.unusedVariables false
theorem prec_refl : ∀ s : Ty, prec s s = true := by
  intro s
  induction s with
  | fn a b ha hb => simp [prec, ha, hb]
  | pair a b ha hb => simp [prec, ha, hb]
  | list a ha => simp [prec, ha]
  | box a ha => simp [prec, ha]
  | _ => rfl
theorem dyn_prec {t : Ty} (h : prec .dyn t = true) : t = .dyn := by cases t <;> first | rfl | (simp [prec] at h)
theorem int_prec {t : Ty} (h : prec .int t = true) : t = .dyn ∨ t = .int := by cases t <;> first | (simp; done) | (simp [prec] at h)
theorem bool_prec {t : Ty} (h : prec .bool t = true) : t = .dyn ∨ t = .bool := by cases t <;> first | (simp; done) | (simp [prec] at h)
theorem text_prec {t : Ty} (h : prec .text t = true) : t = .dyn ∨ t = .text := by cases t <;> first | (simp; done) | (simp [prec] at h)
theorem fn_prec {a b t : Ty} (h : prec (.fn a b) t = true) : t = .dyn ∨ ∃ c d, t = .fn c d ∧ prec a c = true ∧ prec b d = true := by
  cases t with
  | dyn => exact .inl rfl
  | fn c d => simp only [prec, Bool.and_eq_true] at h; exact .inr ⟨c, d, rfl, h⟩
  | _ => simp [prec] at h
theorem pair_prec {a b t : Ty} (h : prec (.pair a b) t = true) : t = .dyn ∨ ∃ c d, t = .pair c d ∧ prec a c = true ∧ prec b d = true := by
  cases t with
  | dyn => exact .inl rfl
  | pair c d => simp only [prec, Bool.and_eq_true] at h; exact .inr ⟨c, d, rfl, h⟩
  | _ => simp [prec] at h
theorem list_prec {a t : Ty} (h : prec (.list a) t = true) : t = .dyn ∨ ∃ c, t = .list c ∧ prec a c = true := by
  cases t with
  | dyn => exact .inl rfl
  | list c => simp only [prec] at h; exact .inr ⟨c, rfl, h⟩
  | _ => simp [prec] at h
theorem box_prec {a t : Ty} (h : prec (.box a) t = true) : t = .dyn ∨ ∃ c, t = .box c ∧ prec a c = true := by
  cases t with
  | dyn => exact .inl rfl
  | box c => simp only [prec] at h; exact .inr ⟨c, rfl, h⟩
  | _ => simp [prec] at h
theorem cons_prec : ∀ {s t s' t' : Ty}, cons s t = true → prec s s' = true → prec t t' = true → cons s' t' = true := by
  intro s
  induction s with
  | dyn => intro t s' t' _ h1 _; rw [dyn_prec h1]; simp
  | int =>
    intro t s' t' h h1 h2
    rcases int_prec h1 with rfl | rfl
    · simp
    · cases t <;> first | (rw [dyn_prec h2]; simp) | (rcases int_prec h2 with rfl | rfl <;> rfl) | (simp [cons] at h)
  | bool =>
    intro t s' t' h h1 h2
    rcases bool_prec h1 with rfl | rfl
    · simp
    · cases t <;> first | (rw [dyn_prec h2]; simp) | (rcases bool_prec h2 with rfl | rfl <;> rfl) | (simp [cons] at h)
  | text =>
    intro t s' t' h h1 h2
    rcases text_prec h1 with rfl | rfl
    · simp
    · cases t <;> first | (rw [dyn_prec h2]; simp) | (rcases text_prec h2 with rfl | rfl <;> rfl) | (simp [cons] at h)
  | fn a b ha hb =>
    intro t s' t' h h1 h2
    rcases fn_prec h1 with rfl | ⟨c, d, rfl, p1, p2⟩
    · simp
    cases t with
    | dyn => rw [dyn_prec h2]; simp
    | fn e f =>
      simp only [cons, Bool.and_eq_true] at h
      rcases fn_prec h2 with rfl | ⟨e', f', rfl, q1, q2⟩
      · simp
      · simp only [cons, Bool.and_eq_true]; exact ⟨ha h.1 p1 q1, hb h.2 p2 q2⟩
    | _ => simp [cons] at h
  | pair a b ha hb =>
    intro t s' t' h h1 h2
    rcases pair_prec h1 with rfl | ⟨c, d, rfl, p1, p2⟩
    · simp
    cases t with
    | dyn => rw [dyn_prec h2]; simp
    | pair e f =>
      simp only [cons, Bool.and_eq_true] at h
      rcases pair_prec h2 with rfl | ⟨e', f', rfl, q1, q2⟩
      · simp
      · simp only [cons, Bool.and_eq_true]; exact ⟨ha h.1 p1 q1, hb h.2 p2 q2⟩
    | _ => simp [cons] at h
  | list a ha =>
    intro t s' t' h h1 h2
    rcases list_prec h1 with rfl | ⟨c, rfl, p1⟩
    · simp
    cases t with
    | dyn => rw [dyn_prec h2]; simp
    | list e =>
      simp only [cons] at h
      rcases list_prec h2 with rfl | ⟨e', rfl, q1⟩
      · simp
      · simp only [cons]; exact ha h p1 q1
    | _ => simp [cons] at h
  | box a ha =>
    intro t s' t' h h1 h2
    rcases box_prec h1 with rfl | ⟨c, rfl, p1⟩
    · simp
    cases t with
    | dyn => rw [dyn_prec h2]; simp
    | box e =>
      simp only [cons] at h
      rcases box_prec h2 with rfl | ⟨e', rfl, q1⟩
      · simp
      · simp only [cons]; exact ha h p1 q1
    | _ => simp [cons] at h
theorem prec_trans : ∀ {s t u : Ty}, prec s t = true → prec t u = true → prec s u = true := by
  intro s
  induction s with
  | dyn => intro t u h1 h2; rw [dyn_prec h1] at h2; rw [dyn_prec h2]; rfl
  | int => intro t u h1 h2; rcases int_prec h1 with rfl | rfl; (rw [dyn_prec h2]; rfl); exact h2
  | bool => intro t u h1 h2; rcases bool_prec h1 with rfl | rfl; (rw [dyn_prec h2]; rfl); exact h2
  | text => intro t u h1 h2; rcases text_prec h1 with rfl | rfl; (rw [dyn_prec h2]; rfl); exact h2
  | fn a b ha hb =>
    intro t u h1 h2
    rcases fn_prec h1 with rfl | ⟨c, d, rfl, p1, p2⟩
    · rw [dyn_prec h2]; simp
    rcases fn_prec h2 with rfl | ⟨e, f, rfl, q1, q2⟩
    · simp
    · simp only [prec, Bool.and_eq_true]; exact ⟨ha p1 q1, hb p2 q2⟩
  | pair a b ha hb =>
    intro t u h1 h2
    rcases pair_prec h1 with rfl | ⟨c, d, rfl, p1, p2⟩
    · rw [dyn_prec h2]; simp
    rcases pair_prec h2 with rfl | ⟨e, f, rfl, q1, q2⟩
    · simp
    · simp only [prec, Bool.and_eq_true]; exact ⟨ha p1 q1, hb p2 q2⟩
  | list a ha =>
    intro t u h1 h2
    rcases list_prec h1 with rfl | ⟨c, rfl, p1⟩
    · rw [dyn_prec h2]; simp
    rcases list_prec h2 with rfl | ⟨e, rfl, q1⟩
    · simp
    · simp only [prec]; exact ha p1 q1
  | box a ha =>
    intro t u h1 h2
    rcases box_prec h1 with rfl | ⟨c, rfl, p1⟩
    · rw [dyn_prec h2]; simp
    rcases box_prec h2 with rfl | ⟨e, rfl, q1⟩
    · simp
    · simp only [prec]; exact ha p1 q1
/-- The meet is at least as precise as either. -/
theorem meet_prec : ∀ {s t : Ty}, cons s t = true → prec (meet s t) s = true ∧ prec (meet s t) t = true := by
  intro s
  induction s with
  | dyn => intro t _; exact ⟨by simp, by simpa using prec_refl t⟩
  | int => intro t h; cases t <;> first | exact ⟨rfl, rfl⟩ | (simp [cons] at h)
  | bool => intro t h; cases t <;> first | exact ⟨rfl, rfl⟩ | (simp [cons] at h)
  | text => intro t h; cases t <;> first | exact ⟨rfl, rfl⟩ | (simp [cons] at h)
  | fn a b ha hb =>
    intro t h
    cases t with
    | dyn => exact ⟨by simpa using prec_refl _, by simp⟩
    | fn c d =>
      simp only [cons, Bool.and_eq_true] at h
      simp only [meet, prec, Bool.and_eq_true]
      exact ⟨⟨(ha h.1).1, (hb h.2).1⟩, ⟨(ha h.1).2, (hb h.2).2⟩⟩
    | _ => simp [cons] at h
  | pair a b ha hb =>
    intro t h
    cases t with
    | dyn => exact ⟨by simpa using prec_refl _, by simp⟩
    | pair c d =>
      simp only [cons, Bool.and_eq_true] at h
      simp only [meet, prec, Bool.and_eq_true]
      exact ⟨⟨(ha h.1).1, (hb h.2).1⟩, ⟨(ha h.1).2, (hb h.2).2⟩⟩
    | _ => simp [cons] at h
  | list a ha =>
    intro t h
    cases t with
    | dyn => exact ⟨by simpa using prec_refl _, by simp⟩
    | list c =>
      simp only [cons] at h
      simp only [meet, prec]
      exact ha h
    | _ => simp [cons] at h
  | box a ha =>
    intro t h
    cases t with
    | dyn => exact ⟨by simpa using prec_refl _, by simp⟩
    | box c =>
      simp only [cons] at h
      simp only [meet, prec]
      exact ha h
    | _ => simp [cons] at h
/-- What is at least as precise as both is at least as precise as their meet. -/
theorem meet_least : ∀ {u s t : Ty}, prec u s = true → prec u t = true → prec u (meet s t) = true := by
  intro u
  induction u with
  | dyn => intro s t h1 h2; rw [dyn_prec h1, dyn_prec h2]; rfl
  | int => intro s t h1 h2; rcases int_prec h1 with rfl | rfl <;> rcases int_prec h2 with rfl | rfl <;> rfl
  | bool => intro s t h1 h2; rcases bool_prec h1 with rfl | rfl <;> rcases bool_prec h2 with rfl | rfl <;> rfl
  | text => intro s t h1 h2; rcases text_prec h1 with rfl | rfl <;> rcases text_prec h2 with rfl | rfl <;> rfl
  | fn a b ha hb =>
    intro s t h1 h2
    rcases fn_prec h1 with rfl | ⟨c, d, rfl, p1, p2⟩
    · simpa using h2
    rcases fn_prec h2 with rfl | ⟨e, f, rfl, q1, q2⟩
    · simpa using h1
    · simp only [meet, prec, Bool.and_eq_true]; exact ⟨ha p1 q1, hb p2 q2⟩
  | pair a b ha hb =>
    intro s t h1 h2
    rcases pair_prec h1 with rfl | ⟨c, d, rfl, p1, p2⟩
    · simpa using h2
    rcases pair_prec h2 with rfl | ⟨e, f, rfl, q1, q2⟩
    · simpa using h1
    · simp only [meet, prec, Bool.and_eq_true]; exact ⟨ha p1 q1, hb p2 q2⟩
  | list a ha =>
    intro s t h1 h2
    rcases list_prec h1 with rfl | ⟨c, rfl, p1⟩
    · simpa using h2
    rcases list_prec h2 with rfl | ⟨e, rfl, q1⟩
    · simpa using h1
    · simp only [meet, prec]; exact ha p1 q1
  | box a ha =>
    intro s t h1 h2
    rcases box_prec h1 with rfl | ⟨c, rfl, p1⟩
    · simpa using h2
    rcases box_prec h2 with rfl | ⟨e, rfl, q1⟩
    · simpa using h1
    · simp only [meet, prec]; exact ha p1 q1
theorem prec_meet {s t s' t' : Ty} (h : cons s t = true) (h1 : prec s s' = true) (h2 : prec t t' = true) : prec (meet s t) (meet s' t') = true :=
  meet_least (prec_trans (meet_prec h).1 h1) (prec_trans (meet_prec h).2 h2)
theorem prec_size : ∀ {s s' : Ty}, prec s s' = true → s'.enc.length ≤ s.enc.length := by
  intro s
  have key : ∀ s : Ty, (Ty.dyn).enc.length ≤ s.enc.length := fun s => Ty.enc_pos s
  induction s with
  | fn a b ha hb =>
    intro s' h
    rcases fn_prec h with rfl | ⟨c, d, rfl, p1, p2⟩
    · exact key _
    · have := ha p1
      have := hb p2
      simp only [Ty.enc, List.length_cons, List.length_append]
      omega
  | pair a b ha hb =>
    intro s' h
    rcases pair_prec h with rfl | ⟨c, d, rfl, p1, p2⟩
    · exact key _
    · have := ha p1
      have := hb p2
      simp only [Ty.enc, List.length_cons, List.length_append]
      omega
  | list a ha =>
    intro s' h
    rcases list_prec h with rfl | ⟨c, rfl, p1⟩
    · exact key _
    · have := ha p1
      simp only [Ty.enc, List.length_cons]
      omega
  | box a ha =>
    intro s' h
    rcases box_prec h with rfl | ⟨c, rfl, p1⟩
    · exact key _
    · have := ha p1
      simp only [Ty.enc, List.length_cons]
      omega
  | dyn => intro s' h; rw [dyn_prec h]; exact Nat.le_refl _
  | int => intro s' h; rcases int_prec h with rfl | rfl <;> exact Nat.le_refl _
  | bool => intro s' h; rcases bool_prec h with rfl | rfl <;> exact Nat.le_refl _
  | text => intro s' h; rcases text_prec h with rfl | rfl <;> exact Nat.le_refl _
/-- Part by part. -/
inductive P2 : List Ty → List Ty → Prop where
  | nil : P2 [] []
  | cons {s t : Ty} {l m : List Ty} : prec s t = true → P2 l m → P2 (s :: l) (t :: m)
theorem P2.len {l m : List Ty} (h : P2 l m) : l.length = m.length := by
  induction h with
  | nil => rfl
  | cons _ _ ih => simp [ih]
theorem P2.get {l m : List Ty} (h : P2 l m) : ∀ k, prec (l.getD k .dyn) (m.getD k .dyn) = true := by
  induction h with
  | nil => intro k; rfl
  | cons h1 _ ih =>
    intro k
    cases k with
    | zero => exact h1
    | succ k => exact ih k
theorem P2.append {l m l' m' : List Ty} (h : P2 l m) (k : P2 l' m') : P2 (l ++ l') (m ++ m') := by
  induction h with
  | nil => exact k
  | cons h1 _ ih => exact .cons h1 ih
end Culp

/- Plain: the static guarantee. -/
namespace Culp.Tr
set_option linter.unusedSimpArgs false
set_option linter.unusedVariables false
open Culp
theorem matchT_prec {t t' : Ty} {h : UInt8} {l : List Ty} (hm : matchT t h = some l) (hp : prec t t' = true) : ∃ l', matchT t' h = some l' ∧ ∀ k, prec (l.getD k .dyn) (l'.getD k .dyn) = true := by
  have key : ∀ (l : List Ty) (k : Nat), prec (l.getD k .dyn) ((if h = 62 ∨ h = 44 then [Ty.dyn, .dyn] else [.dyn]).getD k .dyn) = true := by
    intro l k
    have : (if h = 62 ∨ h = 44 then [Ty.dyn, .dyn] else [.dyn]).getD k .dyn = .dyn := by
      split
      · match k with
        | 0 => rfl
        | 1 => rfl
        | k + 2 => rfl
      · match k with
        | 0 => rfl
        | k + 1 => rfl
    rw [this]
    simp
  unfold matchT at hm ⊢
  by_cases hd' : t' = .dyn
  · rw [if_pos hd']
    refine ⟨if h = 62 ∨ h = 44 then [.dyn, .dyn] else [.dyn], by split <;> rfl, key l⟩
  · rw [if_neg hd']
    have hd : t ≠ .dyn := fun e => hd' (dyn_prec (by rw [← e]; exact hp))
    rw [if_neg hd] at hm
    split at hm
    · rename_i hh
      simp only [Option.some.injEq] at hm
      subst hm
      have hh' : t'.hd = h := by
        by_cases e : t.hd = t'.hd
        · rw [← e]; exact hh
        · rw [prec_head hd' e] at hp; cases hp
      rw [if_pos hh']
      refine ⟨_, rfl, ?_⟩
      cases t with
      | fn a b =>
        rcases fn_prec hp with rfl | ⟨c, d, rfl, p1, p2⟩
        · exact absurd rfl hd'
        · exact (P2.cons p1 (.cons p2 .nil)).get
      | pair a b =>
        rcases pair_prec hp with rfl | ⟨c, d, rfl, p1, p2⟩
        · exact absurd rfl hd'
        · exact (P2.cons p1 (.cons p2 .nil)).get
      | list a =>
        rcases list_prec hp with rfl | ⟨c, rfl, p1⟩
        · exact absurd rfl hd'
        · exact (P2.cons p1 .nil).get
      | box a =>
        rcases box_prec hp with rfl | ⟨c, rfl, p1⟩
        · exact absurd rfl hd'
        · exact (P2.cons p1 .nil).get
      | dyn => exact absurd rfl hd
      | int => intro k; rcases int_prec hp with rfl | rfl; exact absurd rfl hd'; rfl
      | bool => intro k; rcases bool_prec hp with rfl | rfl; exact absurd rfl hd'; rfl
      | text => intro k; rcases text_prec hp with rfl | rfl; exact absurd rfl hd'; rfl
    · cases hm
theorem partT_prec {t t' u : Ty} {h : UInt8} {k p p' : Nat} (hm : partT p t h k = .ok u) (hp : prec t t' = true) : ∃ u', partT p' t' h k = .ok u' ∧ prec u u' = true := by
  unfold partT at hm ⊢
  cases hl : matchT t h with
  | none => rw [hl] at hm; cases hm
  | some l =>
    rw [hl] at hm
    obtain rfl := Except.ok.inj hm
    obtain ⟨l', h1, h2⟩ := matchT_prec hl hp
    rw [h1]
    exact ⟨_, rfl, h2 k⟩
/-- Environments, name by name. -/
inductive EnvR : Env → Env → Prop where
  | nil : EnvR [] []
  | cons {n : ByteArray} {t t' : Ty} {l l' : Env} : prec t t' = true → EnvR l l' → EnvR ((n, t) :: l) ((n, t') :: l')
theorem lookT_prec {g g' : Env} (h : EnvR g g') {s : ByteArray} {t : Ty} (hl : lookT g s = some t) : ∃ t', lookT g' s = some t' ∧ prec t t' = true := by
  induction h with
  | nil => cases hl
  | cons h1 _ ih =>
    simp only [lookT] at hl ⊢
    split at hl
    · rename_i hn
      obtain rfl := Option.some.inj hl
      rw [if_pos hn]
      exact ⟨_, rfl, h1⟩
    · rename_i hn
      rw [if_neg hn]
      exact ih hl
/-- A node with looser annotations. -/
structure Loose (x x' : Nd) : Prop where
  kind : x'.kind = x.kind
  kids : x'.kids = x.kids
  s : x'.s = x.s
  t : prec (noteT x.t) (noteT x'.t) = true
  u : prec (noteT x.u) (noteT x'.u) = true
theorem innerT_prec {x x' : Nd} {k : Nat} {g g' : Env} (h : Loose x x') (hg : EnvR g g') : EnvR (innerT x k g) (innerT x' k g') := by
  have hf : prec (.fn (noteT x.t) (noteT x.u)) (.fn (noteT x'.t) (noteT x'.u)) = true := by simp only [prec, Bool.and_eq_true]; exact ⟨h.t, h.u⟩
  unfold innerT
  rw [h.kind, h.s]
  split
  · exact .cons h.t hg
  split
  · split
    · exact .cons h.t (.cons hf hg)
    · exact hg
  split
  · exact .cons h.t hg
  · exact hg
theorem fitT_ok {s t : Ty} {e : Int} {p : Nat} : fitT false s t e p = .ok () ↔ cons s t = true := by
  unfold fitT
  simp only [Bool.not_false, Bool.true_or, Bool.true_and]
  split
  · rename_i h; exact ⟨fun _ => h, fun _ => rfl⟩
  · rename_i h; exact ⟨(fun h1 => by cases h1), fun h1 => absurd h1 h⟩
theorem fitT_prec {s t s' t' : Ty} {e e' : Int} {p p' : Nat} {u : Unit} (h : fitT false s t e p = .ok u) (h1 : prec s s' = true) (h2 : prec t t' = true) : fitT false s' t' e' p' = .ok () := fitT_ok.2 (cons_prec (fitT_ok.1 h) h1 h2)
theorem eachT_prec {t : Ty} : ∀ {K K' : List (Nat × Ty)}, P2 (K.map Prod.snd) (K'.map Prod.snd) → eachT false t K = .ok () → eachT false t K' = .ok ()
  | [], [], _, _ => rfl
  | [], _ :: _, h, _ => by cases h
  | _ :: _, [], h, _ => by cases h
  | (p, s) :: K, (p', s') :: K', h, he => by
    simp only [List.map_cons] at h
    cases h with
    | cons h1 h2 =>
      simp only [eachT] at he ⊢
      split at he
      · cases he
      · rename_i hf
        rw [fitT_prec hf h1 (prec_refl t)]
        exact eachT_prec h2 he
theorem meetsT_prec {a a' : Nat} : ∀ {K K' : List (Nat × Ty)} {m m' r : Ty}, P2 (K.map Prod.snd) (K'.map Prod.snd) → prec m m' = true → meetsT false a m K = .ok r → ∃ r', meetsT false a' m' K' = .ok r' ∧ prec r r' = true
  | [], [], m, m', r, _, hm, he => by
    simp only [meetsT] at he ⊢
    obtain rfl := Except.ok.inj he
    exact ⟨_, rfl, hm⟩
  | [], _ :: _, _, _, _, h, _, _ => by cases h
  | _ :: _, [], _, _, _, h, _, _ => by cases h
  | (p, s) :: K, (p', s') :: K', m, m', r, h, hm, he => by
    simp only [List.map_cons] at h
    cases h with
    | cons h1 h2 =>
      simp only [meetsT] at he ⊢
      split at he
      · cases he
      · rename_i hf
        split at he
        · rename_i hsz
          have hc := fitT_ok.1 hf
          have hp := prec_meet hc hm h1
          rw [fitT_prec hf hm h1]
          simp only
          rw [if_pos (Nat.le_trans (prec_size hp) hsz)]
          exact meetsT_prec h2 hp he
        · cases he
theorem map_ok {α β : Type} {e : Except Bad α} {f : α → β} {b : β} (h : e.map f = .ok b) : ∃ a, e = .ok a ∧ f a = b := by
  cases e with
  | error x => cases h
  | ok a => exact ⟨a, rfl, Except.ok.inj h⟩
theorem nodeT_prec {x x' : Nd} {g g' : Env} {p p' : Nat} {K K' : List (Nat × Ty)} {t : Ty} (hx : Loose x x') (hg : EnvR g g') (hK : P2 (K.map Prod.snd) (K'.map Prod.snd)) (h : nodeT false x g p K = .ok t) : ∃ t', nodeT false x' g' p' K' = .ok t' ∧ prec t t' = true := by
  unfold nodeT at h ⊢
  rw [hx.kind, hx.s]
  by_cases h1 : x.kind = 1
  · rw [if_pos h1] at h ⊢; obtain rfl := Except.ok.inj h; exact ⟨_, rfl, rfl⟩
  rw [if_neg h1] at h ⊢
  by_cases h2 : x.kind = 2
  · rw [if_pos h2] at h ⊢; obtain rfl := Except.ok.inj h; exact ⟨_, rfl, rfl⟩
  rw [if_neg h2] at h ⊢
  by_cases h3 : x.kind = 3
  · rw [if_pos h3] at h ⊢; obtain rfl := Except.ok.inj h; exact ⟨_, rfl, rfl⟩
  rw [if_neg h3] at h ⊢
  by_cases h4 : x.kind = 4
  · rw [if_pos h4] at h ⊢
    cases hl : lookT g x.s with
    | none => rw [hl] at h; cases h
    | some u =>
      rw [hl] at h
      obtain rfl := Except.ok.inj h
      obtain ⟨t', a1, a2⟩ := lookT_prec hg hl
      rw [a1]
      exact ⟨_, rfl, a2⟩
  rw [if_neg h4] at h ⊢
  by_cases h5 : x.kind = 10 ∨ x.kind = 11 ∨ x.kind = 12 ∨ x.kind = 16
  · rw [if_pos h5] at h ⊢
    obtain ⟨u, a1, rfl⟩ := map_ok h
    rw [eachT_prec hK a1]; exact ⟨_, rfl, rfl⟩
  rw [if_neg h5] at h ⊢
  by_cases h6 : x.kind = 14 ∨ x.kind = 15
  · rw [if_pos h6] at h ⊢
    obtain ⟨u, a1, rfl⟩ := map_ok h
    rw [eachT_prec hK a1]; exact ⟨_, rfl, rfl⟩
  rw [if_neg h6] at h ⊢
  by_cases h7 : x.kind = 13
  · rw [if_pos h7] at h ⊢
    obtain ⟨u, a1, rfl⟩ := map_ok h
    rw [eachT_prec hK a1]; exact ⟨_, rfl, rfl⟩
  rw [if_neg h7] at h ⊢
  by_cases h8 : x.kind = 17
  · rw [if_pos h8] at h ⊢
    obtain ⟨u, a1, rfl⟩ := map_ok h
    rw [eachT_prec hK a1]; exact ⟨_, rfl, rfl⟩
  rw [if_neg h8] at h ⊢
  match K, K', hK with
  | [], [], _ => simp only at h ⊢; obtain rfl := Except.ok.inj h; exact ⟨_, rfl, rfl⟩
  | [], _ :: _, hK => cases hK
  | _ :: _, [], hK => cases hK
  | (p0, t0) :: K1, (p0', t0') :: K1', hK =>
    simp only [List.map_cons] at hK
    cases hK with
    | cons q0 hK1 =>
    simp only at h ⊢
    by_cases a1 : x.kind = 5 ∨ x.kind = 6
    · rw [if_pos a1] at h ⊢
      obtain ⟨u, b1, rfl⟩ := map_ok h
      rw [fitT_prec b1 q0 hx.u]
      exact ⟨_, rfl, by simp only [prec, Bool.and_eq_true]; exact ⟨hx.t, hx.u⟩⟩
    rw [if_neg a1] at h ⊢
    by_cases a2 : x.kind = 19
    · rw [if_pos a2] at h ⊢; exact partT_prec h q0
    rw [if_neg a2] at h ⊢
    by_cases a3 : x.kind = 20
    · rw [if_pos a3] at h ⊢; exact partT_prec h q0
    rw [if_neg a3] at h ⊢
    by_cases a4 : x.kind = 29
    · rw [if_pos a4] at h ⊢
      obtain ⟨u, b1, rfl⟩ := map_ok h
      rw [fitT_prec b1 q0 hx.t]
      exact ⟨_, rfl, hx.t⟩
    rw [if_neg a4] at h ⊢
    by_cases a5 : x.kind = 26
    · rw [if_pos a5] at h ⊢; obtain rfl := Except.ok.inj h; exact ⟨_, rfl, by simpa only [prec] using q0⟩
    rw [if_neg a5] at h ⊢
    by_cases a6 : x.kind = 27
    · rw [if_pos a6] at h ⊢; exact partT_prec h q0
    rw [if_neg a6] at h ⊢
    by_cases a7 : x.kind = 22
    · rw [if_pos a7] at h ⊢; exact partT_prec h q0
    rw [if_neg a7] at h ⊢
    by_cases a8 : x.kind = 23
    · rw [if_pos a8] at h ⊢
      obtain ⟨u, b1, rfl⟩ := map_ok h
      obtain ⟨u', b2, b3⟩ := partT_prec (p' := p0') b1 q0
      rw [b2]
      exact ⟨_, rfl, by simpa only [prec] using b3⟩
    rw [if_neg a8] at h ⊢
    by_cases a9 : x.kind = 24
    · rw [if_pos a9] at h ⊢
      obtain ⟨u, b1, rfl⟩ := map_ok h
      obtain ⟨u', b2, b3⟩ := partT_prec (p' := p0') b1 q0
      rw [b2]
      exact ⟨_, rfl, rfl⟩
    rw [if_neg a9] at h ⊢
    by_cases b1 : x.kind = 21
    · rw [if_pos b1] at h ⊢
      obtain ⟨u, c1, rfl⟩ := map_ok h
      obtain ⟨u', c2, c3⟩ := meetsT_prec (a' := p') hK1 q0 c1
      rw [c2]
      exact ⟨_, rfl, by simpa only [prec] using c3⟩
    rw [if_neg b1] at h ⊢
    match K1, K1', hK1 with
    | [], [], _ => simp only at h ⊢; obtain rfl := Except.ok.inj h; exact ⟨_, rfl, rfl⟩
    | [], _ :: _, hK1 => cases hK1
    | _ :: _, [], hK1 => cases hK1
    | (p1, t1) :: K2, (p1', t1') :: K2', hK1 =>
      simp only [List.map_cons] at hK1
      cases hK1 with
      | cons q1 hK2 =>
      simp only at h ⊢
      by_cases b2 : x.kind = 8
      · rw [if_pos b2] at h ⊢
        obtain ⟨u, c1, rfl⟩ := map_ok h
        rw [fitT_prec c1 q0 hx.t]
        exact ⟨_, rfl, q1⟩
      rw [if_neg b2] at h ⊢
      by_cases b3 : x.kind = 7
      · rw [if_pos b3] at h ⊢
        cases hm : matchT t0 62 with
        | none => rw [hm] at h; cases h
        | some l =>
          rw [hm] at h
          obtain ⟨u, c1, rfl⟩ := map_ok h
          obtain ⟨l', c2, c3⟩ := matchT_prec hm q0
          rw [c2]
          simp only
          rw [fitT_prec c1 q1 (c3 0)]
          exact ⟨_, rfl, c3 1⟩
      rw [if_neg b3] at h ⊢
      by_cases b4 : x.kind = 9
      · rw [if_pos b4] at h ⊢
        split at h
        · cases h
        · rename_i hf
          rw [fitT_prec hf q0 (prec_refl _)]
          exact meetsT_prec hK2 q1 h
      rw [if_neg b4] at h ⊢
      by_cases b5 : x.kind = 18
      · rw [if_pos b5] at h ⊢; obtain rfl := Except.ok.inj h; exact ⟨_, rfl, by simp only [prec, Bool.and_eq_true]; exact ⟨q0, q1⟩⟩
      rw [if_neg b5] at h ⊢
      by_cases b6 : x.kind = 25
      · rw [if_pos b6] at h ⊢
        cases hm : matchT t1 108 with
        | none => rw [hm] at h; cases h
        | some l =>
          rw [hm] at h
          obtain ⟨u, c1, rfl⟩ := map_ok h
          obtain ⟨l', c2, c3⟩ := matchT_prec hm q1
          rw [c2]
          simp only
          rw [fitT_prec c1 q0 (c3 0)]
          exact ⟨_, rfl, by simpa only [prec] using c3 0⟩
      rw [if_neg b6] at h ⊢
      cases hm : matchT t0 120 with
      | none => rw [hm] at h; cases h
      | some l =>
        rw [hm] at h
        obtain ⟨u, c1, rfl⟩ := map_ok h
        obtain ⟨l', c2, c3⟩ := matchT_prec hm q0
        rw [c2]
        simp only
        rw [fitT_prec c1 q1 (c3 0)]
        exact ⟨_, rfl, c3 0⟩
/-- Forests, node by node. -/
inductive FR : F → F → Prop where
  | nil : FR .nil .nil
  | cons {x x' : Nd} {ks ks' r r' : F} : Loose x x' → FR ks ks' → FR r r' → FR (.cons x ks r) (.cons x' ks' r')
theorem FR.len {f f' : F} (h : FR f f') : f'.flat.length = f.flat.length := by
  induction h with
  | nil => rfl
  | cons _ _ _ i1 i2 => simp only [F.flat, List.length_cons, List.length_append, i1, i2]
inductive K2 : List (Nat × List Ty) → List (Nat × List Ty) → Prop where
  | nil : K2 [] []
  | cons {p p' : Nat} {l l' : List Ty} {K K' : List (Nat × List Ty)} : P2 l l' → K2 K K' → K2 ((p, l) :: K) ((p', l') :: K')
theorem K2.heads {K K' : List (Nat × List Ty)} (h : K2 K K') : P2 ((K.map fun a => (a.1, a.2.headD Ty.dyn)).map Prod.snd) ((K'.map fun a => (a.1, a.2.headD Ty.dyn)).map Prod.snd) := by
  induction h with
  | nil => exact .nil
  | cons h1 _ ih =>
    refine .cons ?_ ih
    have := h1.get 0
    cases h1 with
    | nil => rfl
    | cons h2 _ => exact h2
theorem K2.flat {K K' : List (Nat × List Ty)} (h : K2 K K') : P2 (K.map Prod.snd).flatten (K'.map Prod.snd).flatten := by
  induction h with
  | nil => exact .nil
  | cons h1 _ ih => exact h1.append ih
theorem chk_prec {f f' : F} (h : FR f f') : ∀ (g g' : Nat → Env) (k p p' : Nat) (K : List (Nat × List Ty)), (∀ j, EnvR (g j) (g' j)) → chk false f g k p = .ok K → ∃ K', chk false f' g' k p' = .ok K' ∧ K2 K K' := by
  induction h with
  | nil =>
    intro g g' k p p' K _ hc
    simp only [chk, Except.ok.injEq] at hc
    subst hc
    exact ⟨[], rfl, .nil⟩
  | @cons x x' ks ks' r r' hx h1 h2 i1 i2 =>
    intro g g' k p p' K hg hc
    obtain ⟨K1, t, R, a1, a2, a3, a4, a5, rfl⟩ := F.chk_cons hc
    obtain ⟨K1', b2, c2⟩ := i1 _ (fun j => innerT x' j (g' k)) 0 (p + 1) (p' + 1) K1 (fun j => innerT_prec hx (hg k)) a2
    obtain ⟨t', b3, c3⟩ := nodeT_prec (p' := p') hx (hg k) c2.heads a3
    obtain ⟨R', b5, c5⟩ := i2 g g' (k + 1) _ (p' + 1 + ks'.flat.length) R hg a5
    have hf : prec (.fn (noteT x.t) (noteT x.u)) (.fn (noteT x'.t) (noteT x'.u)) = true := by simp only [prec, Bool.and_eq_true]; exact ⟨hx.t, hx.u⟩
    refine ⟨_, F.chk_mk (fun h56 => Nat.le_trans (prec_size hf) (a1 (by rw [← hx.kind]; exact h56))) b2 b3 (Nat.le_trans (prec_size c3) a4) b5, .cons (.cons c3 c2.flat) c5⟩
/-- A list of nodes with looser annotations has the same parts. -/
theorem FR.of : ∀ (f : F) (T' : List Nd), f.Ok → T'.length = f.flat.length → (∀ (i : Nat) x x', f.flat[i]? = some x → T'[i]? = some x' → Loose x x') → ∃ f', f'.flat = T' ∧ f'.Ok ∧ f'.cnt = f.cnt ∧ f'.hgt = f.hgt ∧ FR f f'
  | .nil, T', _, hl, _ => by
    simp only [F.flat, List.length_nil] at hl
    obtain rfl := List.eq_nil_of_length_eq_zero hl
    exact ⟨.nil, rfl, trivial, rfl, rfl, .nil⟩
  | .cons x ks r, T', hO, hl, hT => by
    simp only [F.flat, List.length_cons, List.length_append] at hl
    cases T' with
    | nil => simp at hl
    | cons x' T' =>
      rw [List.length_cons] at hl
      have hx := hT 0 x x' rfl rfl
      obtain ⟨ks', k1, k2, k3, k4, k5⟩ := FR.of ks (T'.take ks.flat.length) hO.2.1 (by rw [List.length_take]; omega) (fun i y y' h1 h2 => by
        have hi := (List.getElem?_eq_some_iff.1 h1).1
        rw [List.getElem?_take, if_pos hi] at h2
        exact hT (i + 1) y y' (by simp only [F.flat]; rw [List.getElem?_cons_succ, List.getElem?_append_left hi]; exact h1) (by rw [List.getElem?_cons_succ]; exact h2))
      obtain ⟨r', r1, r2, r3, r4, r5⟩ := FR.of r (T'.drop ks.flat.length) hO.2.2 (by rw [List.length_drop]; omega) (fun i y y' h1 h2 => by
        rw [List.getElem?_drop] at h2
        exact hT (ks.flat.length + i + 1) y y' (by simp only [F.flat]; rw [List.getElem?_cons_succ, List.getElem?_append_right (by omega), Nat.add_sub_cancel_left]; exact h1) (by rw [List.getElem?_cons_succ]; exact h2))
      refine ⟨.cons x' ks' r', ?_, ⟨by rw [k3, hO.1, hx.kids], k2, r2⟩, by simp only [F.cnt, r3], by simp only [F.hgt, k4, r4], .cons hx k5 r5⟩
      simp only [F.flat]
      rw [k1, r1, List.take_append_drop]
end Culp.Tr

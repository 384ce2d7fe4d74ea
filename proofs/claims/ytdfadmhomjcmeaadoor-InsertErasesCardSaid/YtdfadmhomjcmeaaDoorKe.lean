
/- Plain: less precise annotations: a tree is typed still, with less precise types. -/
import Derived.Test.YtdfadmhomjcmeaaDoorKb
namespace Culp
set_option linter.unusedSimpArgs false
set_option linter.unusedVariables false
theorem prec_refl : ∀ s : Ty, prec s s = true := by
  intro s
  induction s with
  | fn a b ha hb => simp [prec, ha, hb]
  | pair a b ha hb => simp [prec, ha, hb]
  | list a ha => simp [prec, ha]
  | box a ha => simp [prec, ha]
  | _ => rfl
theorem dyn_prec {t : Ty} (h : prec .dyn t = true) : t = .dyn := by cases t <;> first | rfl | (simp [prec] at h)
theorem int_prec {t : Ty} (h : prec .int t = true) : t = .dyn ∨ t = .int := by cases t <;> first | (simp; done) | (simp [prec] at h)
theorem bool_prec {t : Ty} (h : prec .bool t = true) : t = .dyn ∨ t = .bool := by cases t <;> first | (simp; done) | (simp [prec] at h)
theorem text_prec {t : Ty} (h : prec .text t = true) : t = .dyn ∨ t = .text := by cases t <;> first | (simp; done) | (simp [prec] at h)
theorem fn_prec {a b t : Ty} (h : prec (.fn a b) t = true) : t = .dyn ∨ ∃ c d, t = .fn c d ∧ prec a c = true ∧ prec b d = true := by
  cases t with
  | dyn => exact .inl rfl
  | fn c d => simp only [prec, Bool.and_eq_true] at h; exact .inr ⟨c, d, rfl, h⟩
  | _ => simp [prec] at h
theorem pair_prec {a b t : Ty} (h : prec (.pair a b) t = true) : t = .dyn ∨ ∃ c d, t = .pair c d ∧ prec a c = true ∧ prec b d = true := by
  cases t with
  | dyn => exact .inl rfl
  | pair c d => simp only [prec, Bool.and_eq_true] at h; exact .inr ⟨c, d, rfl, h⟩
  | _ => simp [prec] at h
theorem list_prec {a t : Ty} (h : prec (.list a) t = true) : t = .dyn ∨ ∃ c, t = .list c ∧ prec a c = true := by
  cases t with
  | dyn => exact .inl rfl
  | list c => simp only [prec] at h; exact .inr ⟨c, rfl, h⟩
  | _ => simp [prec] at h
theorem box_prec {a t : Ty} (h : prec (.box a) t = true) : t = .dyn ∨ ∃ c, t = .box c ∧ prec a c = true := by
  cases t with
  | dyn => exact .inl rfl
  | box c => simp only [prec] at h; exact .inr ⟨c, rfl, h⟩
  | _ => simp [prec] at h
theorem cons_prec : ∀ {s t s' t' : Ty}, cons s t = true → prec s s' = true → prec t t' = true → cons s' t' = true := by
  intro s
  induction s with
  | dyn => intro t s' t' _ h1 _; rw [dyn_prec h1]; simp
  | int =>
    intro t s' t' h h1 h2
    rcases int_prec h1 with rfl | rfl
    · simp
    · cases t <;> first | (rw [dyn_prec h2]; simp) | (rcases int_prec h2 with rfl | rfl <;> rfl) | (simp [cons] at h)
  | bool =>
    intro t s' t' h h1 h2
    rcases bool_prec h1 with rfl | rfl
    · simp
    · cases t <;> first | (rw [dyn_prec h2]; simp) | (rcases bool_prec h2 with rfl | rfl <;> rfl) | (simp [cons] at h)
  | text =>
    intro t s' t' h h1 h2
    rcases text_prec h1 with rfl | rfl
    · simp
    · cases t <;> first | (rw [dyn_prec h2]; simp) | (rcases text_prec h2 with rfl | rfl <;> rfl) | (simp [cons] at h)
  | fn a b ha hb =>
    intro t s' t' h h1 h2
    rcases fn_prec h1 with rfl | ⟨c, d, rfl, p1, p2⟩
    · simp
    cases t with
    | dyn => rw [dyn_prec h2]; simp
    | fn e f =>
      simp only [cons, Bool.and_eq_true] at h
      rcases fn_prec h2 with rfl | ⟨e', f', rfl, q1, q2⟩
      · simp
      · simp only [cons, Bool.and_eq_true]; exact ⟨ha h.1 p1 q1, hb h.2 p2 q2⟩
    | _ => simp [cons] at h
  | pair a b ha hb =>
    intro t s' t' h h1 h2
    rcases pair_prec h1 with rfl | ⟨c, d, rfl, p1, p2⟩
    · simp
    cases t with
    | dyn => rw [dyn_prec h2]; simp
    | pair e f =>
      simp only [cons, Bool.and_eq_true] at h
      rcases pair_prec h2 with rfl | ⟨e', f', rfl, q1, q2⟩
      · simp
      · simp only [cons, Bool.and_eq_true]; exact ⟨ha h.1 p1 q1, hb h.2 p2 q2⟩
    | _ => simp [cons] at h
  | list a ha =>
    intro t s' t' h h1 h2
    rcases list_prec h1 with rfl | ⟨c, rfl, p1⟩
    · simp
    cases t with
    | dyn => rw [dyn_prec h2]; simp
    | list e =>
      simp only [cons] at h
      rcases list_prec h2 with rfl | ⟨e', rfl, q1⟩
      · simp
      · simp only [cons]; exact ha h p1 q1
    | _ => simp [cons] at h
  | box a ha =>
    intro t s' t' h h1 h2
    rcases box_prec h1 with rfl | ⟨c, rfl, p1⟩
    · simp
    cases t with
    | dyn => rw [dyn_prec h2]; simp
    | box e =>
      simp only [cons] at h
      rcases box_prec h2 with rfl | ⟨e', rfl, q1⟩
      · simp
      · simp only [cons]; exact ha h p1 q1
    | _ => simp [cons] at h
theorem prec_trans : ∀ {s t u : Ty}, prec s t = true → prec t u = true → prec s u = true := by
  intro s
  induction s with
  | dyn => intro t u h1 h2; rw [dyn_prec h1] at h2; rw [dyn_prec h2]; rfl
  | int => intro t u h1 h2; rcases int_prec h1 with rfl | rfl; (rw [dyn_prec h2]; rfl); exact h2
  | bool => intro t u h1 h2; rcases bool_prec h1 with rfl | rfl; (rw [dyn_prec h2]; rfl); exact h2
  | text => intro t u h1 h2; rcases text_prec h1 with rfl | rfl; (rw [dyn_prec h2]; rfl); exact h2
  | fn a b ha hb =>
    intro t u h1 h2
    rcases fn_prec h1 with rfl | ⟨c, d, rfl, p1, p2⟩
    · rw [dyn_prec h2]; simp
    rcases fn_prec h2 with rfl | ⟨e, f, rfl, q1, q2⟩
    · simp
    · simp only [prec, Bool.and_eq_true]; exact ⟨ha p1 q1, hb p2 q2⟩
  | pair a b ha hb =>
    intro t u h1 h2
    rcases pair_prec h1 with rfl | ⟨c, d, rfl, p1, p2⟩
    · rw [dyn_prec h2]; simp
    rcases pair_prec h2 with rfl | ⟨e, f, rfl, q1, q2⟩
    · simp
    · simp only [prec, Bool.and_eq_true]; exact ⟨ha p1 q1, hb p2 q2⟩
  | list a ha =>
    intro t u h1 h2
    rcases list_prec h1 with rfl | ⟨c, rfl, p1⟩
    · rw [dyn_prec h2]; simp
    rcases list_prec h2 with rfl | ⟨e, rfl, q1⟩
    · simp
    · simp only [prec]; exact ha p1 q1
  | box a ha =>
    intro t u h1 h2
    rcases box_prec h1 with rfl | ⟨c, rfl, p1⟩
    · rw [dyn_prec h2]; simp
    rcases box_prec h2 with rfl | ⟨e, rfl, q1⟩
    · simp
    · simp only [prec]; exact ha p1 q1
/-- The meet is at least as precise as either. -/
theorem meet_prec : ∀ {s t : Ty}, cons s t = true → prec (meet s t) s = true ∧ prec (meet s t) t = true := by
  intro s
  induction s with
  | dyn => intro t _; exact ⟨by simp, by simpa using prec_refl t⟩
  | int => intro t h; cases t <;> first | exact ⟨rfl, rfl⟩ | (simp [cons] at h)
  | bool => intro t h; cases t <;> first | exact ⟨rfl, rfl⟩ | (simp [cons] at h)
  | text => intro t h; cases t <;> first | exact ⟨rfl, rfl⟩ | (simp [cons] at h)
  | fn a b ha hb =>
    intro t h
    cases t with
    | dyn => exact ⟨by simpa using prec_refl _, by simp⟩
    | fn c d =>
      simp only [cons, Bool.and_eq_true] at h
      simp only [meet, prec, Bool.and_eq_true]
      exact ⟨⟨(ha h.1).1, (hb h.2).1⟩, ⟨(ha h.1).2, (hb h.2).2⟩⟩
    | _ => simp [cons] at h
  | pair a b ha hb =>
    intro t h
    cases t with
    | dyn => exact ⟨by simpa using prec_refl _, by simp⟩
    | pair c d =>
      simp only [cons, Bool.and_eq_true] at h
      simp only [meet, prec, Bool.and_eq_true]
      exact ⟨⟨(ha h.1).1, (hb h.2).1⟩, ⟨(ha h.1).2, (hb h.2).2⟩⟩
    | _ => simp [cons] at h
  | list a ha =>
    intro t h
    cases t with
    | dyn => exact ⟨by simpa using prec_refl _, by simp⟩
    | list c =>
      simp only [cons] at h
      simp only [meet, prec]
      exact ha h
    | _ => simp [cons] at h
  | box a ha =>
    intro t h
    cases t with
    | dyn => exact ⟨by simpa using prec_refl _, by simp⟩
    | box c =>
      simp only [cons] at h
      simp only [meet, prec]
      exact ha h
    | _ => simp [cons] at h
/-- What is at least as precise as both is at least as precise as their meet. -/
theorem meet_least : ∀ {u s t : Ty}, prec u s = true → prec u t = true → prec u (meet s t) = true := by
  intro u
  induction u with
  | dyn => intro s t h1 h2; rw [dyn_prec h1, dyn_prec h2]; rfl
  | int => intro s t h1 h2; rcases int_prec h1 with rfl | rfl <;> rcases int_prec h2 with rfl | rfl <;> rfl
  | bool => intro s t h1 h2; rcases bool_prec h1 with rfl | rfl <;> rcases bool_prec h2 with rfl | rfl <;> rfl
  | text => intro s t h1 h2; rcases text_prec h1 with rfl | rfl <;> rcases text_prec h2 with rfl | rfl <;> rfl
  | fn a b ha hb =>
    intro s t h1 h2
    rcases fn_prec h1 with rfl | ⟨c, d, rfl, p1, p2⟩
    · simpa using h2
    rcases fn_prec h2 with rfl | ⟨e, f, rfl, q1, q2⟩
    · simpa using h1
    · simp only [meet, prec, Bool.and_eq_true]; exact ⟨ha p1 q1, hb p2 q2⟩
  | pair a b ha hb =>
    intro s t h1 h2
    rcases pair_prec h1 with rfl | ⟨c, d, rfl, p1, p2⟩
    · simpa using h2
    rcases pair_prec h2 with rfl | ⟨e, f, rfl, q1, q2⟩
    · simpa using h1
    · simp only [meet, prec, Bool.and_eq_true]; exact ⟨ha p1 q1, hb p2 q2⟩
  | list a ha =>
    intro s t h1 h2
    rcases list_prec h1 with rfl | ⟨c, rfl, p1⟩
    · simpa using h2
    rcases list_prec h2 with rfl | ⟨e, rfl, q1⟩
    · simpa using h1
    · simp only [meet, prec]; exact ha p1 q1
  | box a ha =>
    intro s t h1 h2
    rcases box_prec h1 with rfl | ⟨c, rfl, p1⟩
    · simpa using h2
    rcases box_prec h2 with rfl | ⟨e, rfl, q1⟩
    · simpa using h1
    · simp only [meet, prec]; exact ha p1 q1
theorem prec_meet {s t s' t' : Ty} (h : cons s t = true) (h1 : prec s s' = true) (h2 : prec t t' = true) : prec (meet s t) (meet s' t') = true :=
  meet_least (prec_trans (meet_prec h).1 h1) (prec_trans (meet_prec h).2 h2)
theorem prec_size : ∀ {s s' : Ty}, prec s s' = true → s'.enc.length ≤ s.enc.length := by
  intro s
  have key : ∀ s : Ty, (Ty.dyn).enc.length ≤ s.enc.length := fun s => Ty.enc_pos s
  induction s with
  | fn a b ha hb =>
    intro s' h
    rcases fn_prec h with rfl | ⟨c, d, rfl, p1, p2⟩
    · exact key _
    · have := ha p1
      have := hb p2
      simp only [Ty.enc, List.length_cons, List.length_append]
      omega
  | pair a b ha hb =>
    intro s' h
    rcases pair_prec h with rfl | ⟨c, d, rfl, p1, p2⟩
    · exact key _
    · have := ha p1
      have := hb p2
      simp only [Ty.enc, List.length_cons, List.length_append]
      omega
  | list a ha =>
    intro s' h
    rcases list_prec h with rfl | ⟨c, rfl, p1⟩
    · exact key _
    · have := ha p1
      simp only [Ty.enc, List.length_cons]
      omega
  | box a ha =>
    intro s' h
    rcases box_prec h with rfl | ⟨c, rfl, p1⟩
    · exact key _
    · have := ha p1
      simp only [Ty.enc, List.length_cons]
      omega
  | dyn => intro s' h; rw [dyn_prec h]; exact Nat.le_refl _
  | int => intro s' h; rcases int_prec h with rfl | rfl <;> exact Nat.le_refl _
  | bool => intro s' h; rcases bool_prec h with rfl | rfl <;> exact Nat.le_refl _
  | text => intro s' h; rcases text_prec h with rfl | rfl <;> exact Nat.le_refl _
/-- Part by part. -/
inductive P2 : List Ty → List Ty → Prop where
  | nil : P2 [] []
  | cons {s t : Ty} {l m : List Ty} : prec s t = true → P2 l m → P2 (s :: l) (t :: m)
theorem P2.len {l m : List Ty} (h : P2 l m) : l.length = m.length := by
  induction h with
  | nil => rfl
  | cons _ _ ih => simp [ih]
theorem P2.get {l m : List Ty} (h : P2 l m) : ∀ k, prec (l.getD k .dyn) (m.getD k .dyn) = true := by
  induction h with
  | nil => intro k; rfl
  | cons h1 _ ih =>
    intro k
    cases k with
    | zero => exact h1
    | succ k => exact ih k
theorem P2.append {l m l' m' : List Ty} (h : P2 l m) (k : P2 l' m') : P2 (l ++ l') (m ++ m') := by
  induction h with
  | nil => exact k
  | cons h1 _ ih => exact .cons h1 ih
end Culp

/- Plain: the static guarantee. -/
namespace Culp.Tr
set_option linter.unusedSimpArgs false
set_option linter.unusedVariables false
open Culp
theorem matchT_prec {t t' : Ty} {h : UInt8} {l : List Ty} (hm : matchT t h = some l) (hp : prec t t' = true) : ∃ l', matchT t' h = some l' ∧ ∀ k, prec (l.getD k .dyn) (l'.getD k .dyn) = true := by
  have key : ∀ (l : List Ty) (k : Nat), prec (l.getD k .dyn) ((if h = 62 ∨ h = 44 then [Ty.dyn, .dyn] else [.dyn]).getD k .dyn) = true := by
    intro l k
    have : (if h = 62 ∨ h = 44 then [Ty.dyn, .dyn] else [.dyn]).getD k .dyn = .dyn := by
      split
      · match k with
        | 0 => rfl
        | 1 => rfl
        | k + 2 => rfl
      · match k with
        | 0 => rfl
        | k + 1 => rfl
    rw [this]
    simp
  unfold matchT at hm ⊢
  by_cases hd' : t' = .dyn
  · rw [if_pos hd']
    refine ⟨if h = 62 ∨ h = 44 then [.dyn, .dyn] else [.dyn], by split <;> rfl, key l⟩
  · rw [if_neg hd']
    have hd : t ≠ .dyn := fun e => hd' (dyn_prec (by rw [← e]; exact hp))
    rw [if_neg hd] at hm
    split at hm
    · rename_i hh
      simp only [Option.some.injEq] at hm
      subst hm
      have hh' : t'.hd = h := by
        by_cases e : t.hd = t'.hd
        · rw [← e]; exact hh
        · rw [prec_head hd' e] at hp; cases hp
      rw [if_pos hh']
      refine ⟨_, rfl, ?_⟩
      cases t with
      | fn a b =>
        rcases fn_prec hp with rfl | ⟨c, d, rfl, p1, p2⟩
        · exact absurd rfl hd'
        · exact (P2.cons p1 (.cons p2 .nil)).get
      | pair a b =>
        rcases pair_prec hp with rfl | ⟨c, d, rfl, p1, p2⟩
        · exact absurd rfl hd'
        · exact (P2.cons p1 (.cons p2 .nil)).get
      | list a =>
        rcases list_prec hp with rfl | ⟨c, rfl, p1⟩
        · exact absurd rfl hd'
        · exact (P2.cons p1 .nil).get
      | box a =>
        rcases box_prec hp with rfl | ⟨c, rfl, p1⟩
        · exact absurd rfl hd'
        · exact (P2.cons p1 .nil).get
      | dyn => exact absurd rfl hd
      | int => intro k; rcases int_prec hp with rfl | rfl; exact absurd rfl hd'; rfl
      | bool => intro k; rcases bool_prec hp with rfl | rfl; exact absurd rfl hd'; rfl
      | text => intro k; rcases text_prec hp with rfl | rfl; exact absurd rfl hd'; rfl
    · cases hm
theorem partT_prec {t t' u : Ty} {h : UInt8} {k p p' : Nat} (hm : partT p t h k = .ok u) (hp : prec t t' = true) : ∃ u', partT p' t' h k = .ok u' ∧ prec u u' = true := by
  unfold partT at hm ⊢
  cases hl : matchT t h with
  | none => rw [hl] at hm; cases hm
  | some l =>
    rw [hl] at hm
    obtain rfl := Except.ok.inj hm
    obtain ⟨l', h1, h2⟩ := matchT_prec hl hp
    rw [h1]
    exact ⟨_, rfl, h2 k⟩
/-- Environments, name by name. -/
inductive EnvR : Env → Env → Prop where
  | nil : EnvR [] []
  | cons {n : ByteArray} {t t' : Ty} {l l' : Env} : prec t t' = true → EnvR l l' → EnvR ((n, t) :: l) ((n, t') :: l')
theorem lookT_prec {g g' : Env} (h : EnvR g g') {s : ByteArray} {t : Ty} (hl : lookT g s = some t) : ∃ t', lookT g' s = some t' ∧ prec t t' = true := by
  induction h with
  | nil => cases hl
  | cons h1 _ ih =>
    simp only [lookT] at hl ⊢
    split at hl
    · rename_i hn
      obtain rfl := Option.some.inj hl
      rw [if_pos hn]
      exact ⟨_, rfl, h1⟩
    · rename_i hn
      rw [if_neg hn]
      exact ih hl
/-- A node with looser annotations. -/
structure Loose (x x' : Nd) : Prop where
  kind : x'.kind = x.kind
  kids : x'.kids = x.kids
  s : x'.s = x.s
  t : prec (noteT x.t) (noteT x'.t) = true
  u : prec (noteT x.u) (noteT x'.u) = true
theorem innerT_prec {x x' : Nd} {k : Nat} {g g' : Env} (h : Loose x x') (hg : EnvR g g') : EnvR (innerT x k g) (innerT x' k g') := by
  have hf : prec (.fn (noteT x.t) (noteT x.u)) (.fn (noteT x'.t) (noteT x'.u)) = true := by simp only [prec, Bool.and_eq_true]; exact ⟨h.t, h.u⟩
  unfold innerT
  rw [h.kind, h.s]
  split
  · exact .cons h.t hg
  split
  · split
    · exact .cons h.t (.cons hf hg)
    · exact hg
  split
  · exact .cons h.t hg
  · exact hg
theorem fitT_ok {s t : Ty} {e : Int} {p : Nat} : fitT false s t e p = .ok () ↔ cons s t = true := by
  unfold fitT
  simp only [Bool.not_false, Bool.true_or, Bool.true_and]
  split
  · rename_i h; exact ⟨fun _ => h, fun _ => rfl⟩
  · rename_i h; exact ⟨(fun h1 => by cases h1), fun h1 => absurd h1 h⟩
theorem fitT_prec {s t s' t' : Ty} {e e' : Int} {p p' : Nat} {u : Unit} (h : fitT false s t e p = .ok u) (h1 : prec s s' = true) (h2 : prec t t' = true) : fitT false s' t' e' p' = .ok () := fitT_ok.2 (cons_prec (fitT_ok.1 h) h1 h2)
theorem eachT_prec {t : Ty} : ∀ {K K' : List (Nat × Ty)}, P2 (K.map Prod.snd) (K'.map Prod.snd) → eachT false t K = .ok () → eachT false t K' = .ok ()
  | [], [], _, _ => rfl
  | [], _ :: _, h, _ => by cases h
  | _ :: _, [], h, _ => by cases h
  | (p, s) :: K, (p', s') :: K', h, he => by
    simp only [List.map_cons] at h
    cases h with
    | cons h1 h2 =>
      simp only [eachT] at he ⊢
      split at he
      · cases he
      · rename_i hf
        rw [fitT_prec hf h1 (prec_refl t)]
        exact eachT_prec h2 he
theorem meetsT_prec {a a' : Nat} : ∀ {K K' : List (Nat × Ty)} {m m' r : Ty}, P2 (K.map Prod.snd) (K'.map Prod.snd) → prec m m' = true → meetsT false a m K = .ok r → ∃ r', meetsT false a' m' K' = .ok r' ∧ prec r r' = true
  | [], [], m, m', r, _, hm, he => by
    simp only [meetsT] at he ⊢
    obtain rfl := Except.ok.inj he
    exact ⟨_, rfl, hm⟩
  | [], _ :: _, _, _, _, h, _, _ => by cases h
  | _ :: _, [], _, _, _, h, _, _ => by cases h
  | (p, s) :: K, (p', s') :: K', m, m', r, h, hm, he => by
    simp only [List.map_cons] at h
    cases h with
    | cons h1 h2 =>
      simp only [meetsT] at he ⊢
      split at he
      · cases he
      · rename_i hf
        split at he
        · rename_i hsz
          have hc := fitT_ok.1 hf
          have hp := prec_meet hc hm h1
          rw [fitT_prec hf hm h1]
          simp only
          rw [if_pos (Nat.le_trans (prec_size hp) hsz)]
          exact meetsT_prec h2 hp he
        · cases he
theorem map_ok {α β : Type} {e : Except Bad α} {f : α → β} {b : β} (h : e.map f = .ok b) : ∃ a, e = .ok a ∧ f a = b := by
  cases e with
  | error x => cases h
  | ok a => exact ⟨a, rfl, Except.ok.inj h⟩
theorem nodeT_prec {x x' : Nd} {g g' : Env} {p p' : Nat} {K K' : List (Nat × Ty)} {t : Ty} (hx : Loose x x') (hg : EnvR g g') (hK : P2 (K.map Prod.snd) (K'.map Prod.snd)) (h : nodeT false x g p K = .ok t) : ∃ t', nodeT false x' g' p' K' = .ok t' ∧ prec t t' = true := by
  unfold nodeT at h ⊢
  rw [hx.kind, hx.s]
  by_cases h1 : x.kind = 1
  · rw [if_pos h1] at h ⊢; obtain rfl := Except.ok.inj h; exact ⟨_, rfl, rfl⟩
  rw [if_neg h1] at h ⊢
  by_cases h2 : x.kind = 2
  · rw [if_pos h2] at h ⊢; obtain rfl := Except.ok.inj h; exact ⟨_, rfl, rfl⟩
  rw [if_neg h2] at h ⊢
  by_cases h3 : x.kind = 3
  · rw [if_pos h3] at h ⊢; obtain rfl := Except.ok.inj h; exact ⟨_, rfl, rfl⟩
  rw [if_neg h3] at h ⊢
  by_cases h4 : x.kind = 4
  · rw [if_pos h4] at h ⊢
    cases hl : lookT g x.s with
    | none => rw [hl] at h; cases h
    | some u =>
      rw [hl] at h
      obtain rfl := Except.ok.inj h
      obtain ⟨t', a1, a2⟩ := lookT_prec hg hl
      rw [a1]
      exact ⟨_, rfl, a2⟩
  rw [if_neg h4] at h ⊢
  by_cases h5 : x.kind = 10 ∨ x.kind = 11 ∨ x.kind = 12 ∨ x.kind = 16
  · rw [if_pos h5] at h ⊢
    obtain ⟨u, a1, rfl⟩ := map_ok h
    rw [eachT_prec hK a1]; exact ⟨_, rfl, rfl⟩
  rw [if_neg h5] at h ⊢
  by_cases h6 : x.kind = 14 ∨ x.kind = 15
  · rw [if_pos h6] at h ⊢
    obtain ⟨u, a1, rfl⟩ := map_ok h
    rw [eachT_prec hK a1]; exact ⟨_, rfl, rfl⟩
  rw [if_neg h6] at h ⊢
  by_cases h7 : x.kind = 13
  · rw [if_pos h7] at h ⊢
    obtain ⟨u, a1, rfl⟩ := map_ok h
    rw [eachT_prec hK a1]; exact ⟨_, rfl, rfl⟩
  rw [if_neg h7] at h ⊢
  by_cases h8 : x.kind = 17
  · rw [if_pos h8] at h ⊢
    obtain ⟨u, a1, rfl⟩ := map_ok h
    rw [eachT_prec hK a1]; exact ⟨_, rfl, rfl⟩
  rw [if_neg h8] at h ⊢
  match K, K', hK with
  | [], [], _ => simp only at h ⊢; obtain rfl := Except.ok.inj h; exact ⟨_, rfl, rfl⟩
  | [], _ :: _, hK => cases hK
  | _ :: _, [], hK => cases hK
  | (p0, t0) :: K1, (p0', t0') :: K1', hK =>
    simp only [List.map_cons] at hK
    cases hK with
    | cons q0 hK1 =>
    simp only at h ⊢
    by_cases a1 : x.kind = 5 ∨ x.kind = 6
    · rw [if_pos a1] at h ⊢
      obtain ⟨u, b1, rfl⟩ := map_ok h
      rw [fitT_prec b1 q0 hx.u]
      exact ⟨_, rfl, by simp only [prec, Bool.and_eq_true]; exact ⟨hx.t, hx.u⟩⟩
    rw [if_neg a1] at h ⊢
    by_cases a2 : x.kind = 19
    · rw [if_pos a2] at h ⊢; exact partT_prec h q0
    rw [if_neg a2] at h ⊢
    by_cases a3 : x.kind = 20
    · rw [if_pos a3] at h ⊢; exact partT_prec h q0
    rw [if_neg a3] at h ⊢
    by_cases a4 : x.kind = 29
    · rw [if_pos a4] at h ⊢
      obtain ⟨u, b1, rfl⟩ := map_ok h
      rw [fitT_prec b1 q0 hx.t]
      exact ⟨_, rfl, hx.t⟩
    rw [if_neg a4] at h ⊢
    by_cases a5 : x.kind = 26
    · rw [if_pos a5] at h ⊢; obtain rfl := Except.ok.inj h; exact ⟨_, rfl, by simpa only [prec] using q0⟩
    rw [if_neg a5] at h ⊢
    by_cases a6 : x.kind = 27
    · rw [if_pos a6] at h ⊢; exact partT_prec h q0
    rw [if_neg a6] at h ⊢
    by_cases a7 : x.kind = 22
    · rw [if_pos a7] at h ⊢; exact partT_prec h q0
    rw [if_neg a7] at h ⊢
    by_cases a8 : x.kind = 23
    · rw [if_pos a8] at h ⊢
      obtain ⟨u, b1, rfl⟩ := map_ok h
      obtain ⟨u', b2, b3⟩ := partT_prec (p' := p0') b1 q0
      rw [b2]
      exact ⟨_, rfl, by simpa only [prec] using b3⟩
    rw [if_neg a8] at h ⊢
    by_cases a9 : x.kind = 24
    · rw [if_pos a9] at h ⊢
      obtain ⟨u, b1, rfl⟩ := map_ok h
      obtain ⟨u', b2, b3⟩ := partT_prec (p' := p0') b1 q0
      rw [b2]
      exact ⟨_, rfl, rfl⟩
    rw [if_neg a9] at h ⊢
    by_cases b1 : x.kind = 21
    · rw [if_pos b1] at h ⊢
      obtain ⟨u, c1, rfl⟩ := map_ok h
      obtain ⟨u', c2, c3⟩ := meetsT_prec (a' := p') hK1 q0 c1
      rw [c2]
      exact ⟨_, rfl, by simpa only [prec] using c3⟩
    rw [if_neg b1] at h ⊢
    match K1, K1', hK1 with
    | [], [], _ => simp only at h ⊢; obtain rfl := Except.ok.inj h; exact ⟨_, rfl, rfl⟩
    | [], _ :: _, hK1 => cases hK1
    | _ :: _, [], hK1 => cases hK1
    | (p1, t1) :: K2, (p1', t1') :: K2', hK1 =>
      simp only [List.map_cons] at hK1
      cases hK1 with
      | cons q1 hK2 =>
      simp only at h ⊢
      by_cases b2 : x.kind = 8
      · rw [if_pos b2] at h ⊢
        obtain ⟨u, c1, rfl⟩ := map_ok h
        rw [fitT_prec c1 q0 hx.t]
        exact ⟨_, rfl, q1⟩
      rw [if_neg b2] at h ⊢
      by_cases b3 : x.kind = 7
      · rw [if_pos b3] at h ⊢
        cases hm : matchT t0 62 with
        | none => rw [hm] at h; cases h
        | some l =>
          rw [hm] at h
          obtain ⟨u, c1, rfl⟩ := map_ok h
          obtain ⟨l', c2, c3⟩ := matchT_prec hm q0
          rw [c2]
          simp only
          rw [fitT_prec c1 q1 (c3 0)]
          exact ⟨_, rfl, c3 1⟩
      rw [if_neg b3] at h ⊢
      by_cases b4 : x.kind = 9
      · rw [if_pos b4] at h ⊢
        split at h
        · cases h
        · rename_i hf
          rw [fitT_prec hf q0 (prec_refl _)]
          exact meetsT_prec hK2 q1 h
      rw [if_neg b4] at h ⊢
      by_cases b5 : x.kind = 18
      · rw [if_pos b5] at h ⊢; obtain rfl := Except.ok.inj h; exact ⟨_, rfl, by simp only [prec, Bool.and_eq_true]; exact ⟨q0, q1⟩⟩
      rw [if_neg b5] at h ⊢
      by_cases b6 : x.kind = 25
      · rw [if_pos b6] at h ⊢
        cases hm : matchT t1 108 with
        | none => rw [hm] at h; cases h
        | some l =>
          rw [hm] at h
          obtain ⟨u, c1, rfl⟩ := map_ok h
          obtain ⟨l', c2, c3⟩ := matchT_prec hm q1
          rw [c2]
          simp only
          rw [fitT_prec c1 q0 (c3 0)]
          exact ⟨_, rfl, by simpa only [prec] using c3 0⟩
      rw [if_neg b6] at h ⊢
      cases hm : matchT t0 120 with
      | none => rw [hm] at h; cases h
      | some l =>
        rw [hm] at h
        obtain ⟨u, c1, rfl⟩ := map_ok h
        obtain ⟨l', c2, c3⟩ := matchT_prec hm q0
        rw [c2]
        simp only
        rw [fitT_prec c1 q1 (c3 0)]
        exact ⟨_, rfl, c3 0⟩
/-- Forests, node by node. -/
inductive FR : F → F → Prop where
  | nil : FR .nil .nil
  | cons {x x' : Nd} {ks ks' r r' : F} : Loose x x' → FR ks ks' → FR r r' → FR (.cons x ks r) (.cons x' ks' r')
theorem FR.len {f f' : F} (h : FR f f') : f'.flat.length = f.flat.length := by
  induction h with
  | nil => rfl
  | cons _ _ _ i1 i2 => simp only [F.flat, List.length_cons, List.length_append, i1, i2]
inductive K2 : List (Nat × List Ty) → List (Nat × List Ty) → Prop where
  | nil : K2 [] []
  | cons {p p' : Nat} {l l' : List Ty} {K K' : List (Nat × List Ty)} : P2 l l' → K2 K K' → K2 ((p, l) :: K) ((p', l') :: K')
theorem K2.heads {K K' : List (Nat × List Ty)} (h : K2 K K') : P2 ((K.map fun a => (a.1, a.2.headD Ty.dyn)).map Prod.snd) ((K'.map fun a => (a.1, a.2.headD Ty.dyn)).map Prod.snd) := by
  induction h with
  | nil => exact .nil
  | cons h1 _ ih =>
    refine .cons ?_ ih
    have := h1.get 0
    cases h1 with
    | nil => rfl
    | cons h2 _ => exact h2
theorem K2.flat {K K' : List (Nat × List Ty)} (h : K2 K K') : P2 (K.map Prod.snd).flatten (K'.map Prod.snd).flatten := by
  induction h with
  | nil => exact .nil
  | cons h1 _ ih => exact h1.append ih
theorem chk_prec {f f' : F} (h : FR f f') : ∀ (g g' : Nat → Env) (k p p' : Nat) (K : List (Nat × List Ty)), (∀ j, EnvR (g j) (g' j)) → chk false f g k p = .ok K → ∃ K', chk false f' g' k p' = .ok K' ∧ K2 K K' := by
  induction h with
  | nil =>
    intro g g' k p p' K _ hc
    simp only [chk, Except.ok.injEq] at hc
    subst hc
    exact ⟨[], rfl, .nil⟩
  | @cons x x' ks ks' r r' hx h1 h2 i1 i2 =>
    intro g g' k p p' K hg hc
    obtain ⟨K1, t, R, a1, a2, a3, a4, a5, rfl⟩ := F.chk_cons hc
    obtain ⟨K1', b2, c2⟩ := i1 _ (fun j => innerT x' j (g' k)) 0 (p + 1) (p' + 1) K1 (fun j => innerT_prec hx (hg k)) a2
    obtain ⟨t', b3, c3⟩ := nodeT_prec (p' := p') hx (hg k) c2.heads a3
    obtain ⟨R', b5, c5⟩ := i2 g g' (k + 1) _ (p' + 1 + ks'.flat.length) R hg a5
    have hf : prec (.fn (noteT x.t) (noteT x.u)) (.fn (noteT x'.t) (noteT x'.u)) = true := by simp only [prec, Bool.and_eq_true]; exact ⟨hx.t, hx.u⟩
    refine ⟨_, F.chk_mk (fun h56 => Nat.le_trans (prec_size hf) (a1 (by rw [← hx.kind]; exact h56))) b2 b3 (Nat.le_trans (prec_size c3) a4) b5, .cons (.cons c3 c2.flat) c5⟩
/-- A list of nodes with looser annotations has the same parts. -/
theorem FR.of : ∀ (f : F) (T' : List Nd), f.Ok → T'.length = f.flat.length → (∀ (i : Nat) x x', f.flat[i]? = some x → T'[i]? = some x' → Loose x x') → ∃ f', f'.flat = T' ∧ f'.Ok ∧ f'.cnt = f.cnt ∧ f'.hgt = f.hgt ∧ FR f f'
  | .nil, T', _, hl, _ => by
    simp only [F.flat, List.length_nil] at hl
    obtain rfl := List.eq_nil_of_length_eq_zero hl
    exact ⟨.nil, rfl, trivial, rfl, rfl, .nil⟩
  | .cons x ks r, T', hO, hl, hT => by
    simp only [F.flat, List.length_cons, List.length_append] at hl
    cases T' with
    | nil => simp at hl
    | cons x' T' =>
      rw [List.length_cons] at hl
      have hx := hT 0 x x' rfl rfl
      obtain ⟨ks', k1, k2, k3, k4, k5⟩ := FR.of ks (T'.take ks.flat.length) hO.2.1 (by rw [List.length_take]; omega) (fun i y y' h1 h2 => by
        have hi := (List.getElem?_eq_some_iff.1 h1).1
        rw [List.getElem?_take, if_pos hi] at h2
        exact hT (i + 1) y y' (by simp only [F.flat]; rw [List.getElem?_cons_succ, List.getElem?_append_left hi]; exact h1) (by rw [List.getElem?_cons_succ]; exact h2))
      obtain ⟨r', r1, r2, r3, r4, r5⟩ := FR.of r (T'.drop ks.flat.length) hO.2.2 (by rw [List.length_drop]; omega) (fun i y y' h1 h2 => by
        rw [List.getElem?_drop] at h2
        exact hT (ks.flat.length + i + 1) y y' (by simp only [F.flat]; rw [List.getElem?_cons_succ, List.getElem?_append_right (by omega), Nat.add_sub_cancel_left]; exact h1) (by rw [List.getElem?_cons_succ]; exact h2))
      refine ⟨.cons x' ks' r', ?_, ⟨by rw [k3, hO.1, hx.kids], k2, r2⟩, by simp only [F.cnt, r3], by simp only [F.hgt, k4, r4], .cons hx k5 r5⟩
      simp only [F.flat]
      rw [k1, r1, List.take_append_drop]
end Culp.Tr

/- Plain: without the unknown type consistent is the same. -/
namespace Culp
set_option linter.unusedSimpArgs false
set_option linter.unusedVariables false
/-- A type without the unknown one. -/
def Ty.solid : Ty → Bool
  | .dyn => false
  | .int => true
  | .bool => true
  | .text => true
  | .fn a b => a.solid && b.solid
  | .pair a b => a.solid && b.solid
  | .list a => a.solid
  | .box a => a.solid
theorem cons_solid : ∀ {s t : Ty}, s.solid = true → t.solid = true → cons s t = decide (s = t) := by
  intro s
  induction s with
  | dyn => intro t h _; cases h
  | int => intro t _ h; cases t <;> first | rfl | (cases h)
  | bool => intro t _ h; cases t <;> first | rfl | (cases h)
  | text => intro t _ h; cases t <;> first | rfl | (cases h)
  | fn a b ha hb =>
    intro t h h'
    cases t <;> first | rfl | (cases h'; done) | skip
    simp only [Ty.solid, Bool.and_eq_true] at h h'
    simp only [cons, ha h.1 h'.1, hb h.2 h'.2, Ty.fn.injEq, Bool.decide_and]
  | pair a b ha hb =>
    intro t h h'
    cases t <;> first | rfl | (cases h'; done) | skip
    simp only [Ty.solid, Bool.and_eq_true] at h h'
    simp only [cons, ha h.1 h'.1, hb h.2 h'.2, Ty.pair.injEq, Bool.decide_and]
  | list a ha =>
    intro t h h'
    cases t <;> first | rfl | (cases h'; done) | skip
    simp only [Ty.solid] at h h'
    simp only [cons, ha h h', Ty.list.injEq]
  | box a ha =>
    intro t h h'
    cases t <;> first | rfl | (cases h'; done) | skip
    simp only [Ty.solid] at h h'
    simp only [cons, ha h h', Ty.box.injEq]
theorem meet_solid {s t : Ty} (h : cons s t = true) (hs : s.solid = true) (ht : t.solid = true) : meet s t = s := by
  rw [cons_solid hs ht, decide_eq_true_eq] at h
  subst h
  have : ∀ u : Ty, meet u u = u := by
    intro u
    induction u with
    | fn a b ha hb => simp [meet, ha, hb]
    | pair a b ha hb => simp [meet, ha, hb]
    | list a ha => simp [meet, ha]
    | box a ha => simp [meet, ha]
    | _ => rfl
  exact this s
theorem solid_kids {t u : Ty} (h : t.solid = true) (hu : u ∈ t.kids) : u.solid = true := by
  cases t <;> simp [Ty.kids] at hu
  · simp only [Ty.solid, Bool.and_eq_true] at h
    rcases hu with rfl | rfl
    · exact h.1
    · exact h.2
  · simp only [Ty.solid, Bool.and_eq_true] at h
    rcases hu with rfl | rfl
    · exact h.1
    · exact h.2
  · subst hu; exact h
  · subst hu; exact h
end Culp
namespace Culp.Tr
set_option linter.unusedSimpArgs false
set_option linter.unusedVariables false
open Culp
def EnvS (g : Env) : Prop := ∀ a ∈ g, a.2.solid = true
/-- A node without the unknown type. -/
structure Stat (x : Nd) : Prop where
  t : x.kind = 5 ∨ x.kind = 6 ∨ x.kind = 8 ∨ x.kind = 29 → (noteT x.t).solid = true
  u : x.kind = 5 ∨ x.kind = 6 → (noteT x.u).solid = true
  kids : x.kind = 21 → x.kids ≠ 0
theorem lookT_solid {g : Env} (h : EnvS g) {s : ByteArray} {t : Ty} (hl : lookT g s = some t) : t.solid = true := by
  induction g with
  | nil => cases hl
  | cons a g ih =>
    obtain ⟨n, u⟩ := a
    simp only [lookT] at hl
    split at hl
    · obtain rfl := Option.some.inj hl
      exact h (n, u) List.mem_cons_self
    · exact ih (fun b hb => h b (List.mem_cons_of_mem _ hb)) hl
theorem innerT_solid {x : Nd} {k : Nat} {g : Env} (hx : Stat x) (hg : EnvS g) : EnvS (innerT x k g) := by
  unfold innerT
  by_cases h5 : x.kind = 5
  · rw [if_pos h5]
    intro a ha
    rcases List.mem_cons.1 ha with rfl | ha
    · exact hx.t (.inl h5)
    · exact hg a ha
  rw [if_neg h5]
  by_cases h6 : x.kind = 6
  · rw [if_pos h6]
    split
    · intro a ha
      rcases List.mem_cons.1 ha with rfl | ha
      · exact hx.t (.inr (.inl h6))
      rcases List.mem_cons.1 ha with rfl | ha
      · simp only [Ty.solid, Bool.and_eq_true]; exact ⟨hx.t (.inr (.inl h6)), hx.u (.inr h6)⟩
      · exact hg a ha
    · exact hg
  rw [if_neg h6]
  split
  · rename_i h8
    intro a ha
    rcases List.mem_cons.1 ha with rfl | ha
    · exact hx.t (.inr (.inr (.inl h8.1)))
    · exact hg a ha
  · exact hg
theorem fitT_solid {s t : Ty} {e : Int} {p : Nat} (hs : s.solid = true) (ht : t.solid = true) : fitT false s t e p = fitT true s t e p := by
  unfold fitT
  rw [cons_solid hs ht]
  simp
def AllS (K : List (Nat × Ty)) : Prop := ∀ a ∈ K, a.2.solid = true
theorem eachT_solid {t : Ty} (ht : t.solid = true) : ∀ {K : List (Nat × Ty)}, AllS K → eachT false t K = eachT true t K
  | [], _ => rfl
  | (p, s) :: K, h => by
    simp only [eachT]
    rw [fitT_solid (h (p, s) List.mem_cons_self) ht, eachT_solid ht (fun a ha => h a (List.mem_cons_of_mem _ ha))]
theorem fitT_cons {same : Bool} {s t : Ty} {e : Int} {p : Nat} {u : Unit} (h : fitT same s t e p = .ok u) : cons s t = true := by
  unfold fitT at h
  split at h
  · rename_i h1; simp only [Bool.and_eq_true] at h1; exact h1.2
  · cases h
theorem meetsT_solid {a : Nat} : ∀ {K : List (Nat × Ty)} {m : Ty}, AllS K → m.solid = true → meetsT false a m K = meetsT true a m K ∧ ∀ r, meetsT true a m K = .ok r → r.solid = true
  | [], m, _, hm => ⟨rfl, fun r hr => by simp only [meetsT] at hr; obtain rfl := Except.ok.inj hr; exact hm⟩
  | (p, s) :: K, m, h, hm => by
    have hs := h (p, s) List.mem_cons_self
    have h2 := fun m' => meetsT_solid (a := a) (K := K) (m := m') (fun b hb => h b (List.mem_cons_of_mem _ hb))
    simp only [meetsT]
    rw [fitT_solid hm hs]
    cases hf : fitT true m s 25 p with
    | error b => exact ⟨rfl, fun r hr => by cases hr⟩
    | ok u =>
      have hmm := meet_solid (fitT_cons hf) hm hs
      simp only
      rw [hmm]
      split
      · exact h2 m hm
      · exact ⟨rfl, fun r hr => by cases hr⟩
theorem matchT_solid {t : Ty} {h : UInt8} {l : List Ty} (ht : t.solid = true) (hm : matchT t h = some l) : t.hd = h ∧ l = t.kids := by
  unfold matchT at hm
  have hd : t ≠ .dyn := by rintro rfl; cases ht
  rw [if_neg hd] at hm
  split at hm
  · rename_i hh
    exact ⟨hh, (Option.some.inj hm).symm⟩
  · cases hm
theorem getD_solid {t : Ty} {k : Nat} (ht : t.solid = true) (hk : k < t.kids.length) : (t.kids.getD k .dyn).solid = true := by
  rw [List.getD_eq_getElem?_getD, List.getElem?_eq_getElem hk]
  exact solid_kids ht (List.getElem_mem hk)
theorem hd_two {t : Ty} (h : t.hd = 62 ∨ t.hd = 44) : t.kids.length = 2 := by cases t <;> first | rfl | (rcases h with h | h <;> cases h)
theorem hd_one {t : Ty} (h : t.hd = 108 ∨ t.hd = 120) : t.kids.length = 1 := by cases t <;> first | rfl | (rcases h with h | h <;> cases h)
theorem partT_solid {t u : Ty} {h : UInt8} {k p : Nat} (ht : t.solid = true) (hh : (h = 62 ∨ h = 44) ∧ k < 2 ∨ (h = 108 ∨ h = 120) ∧ k < 1) (hm : partT p t h k = .ok u) : u.solid = true := by
  unfold partT at hm
  split at hm
  · cases hm
  · rename_i l hl
    obtain rfl := Except.ok.inj hm
    obtain ⟨h1, rfl⟩ := matchT_solid ht hl
    refine getD_solid ht ?_
    rcases hh with ⟨h2, h3⟩ | ⟨h2, h3⟩
    · rw [hd_two (by rw [h1]; exact h2)]; exact h3
    · rw [hd_one (by rw [h1]; exact h2)]; exact h3
theorem map_ok' {α β : Type} {e : Except Bad α} {f : α → β} {b : β} (h : e.map f = .ok b) : ∃ a, e = .ok a ∧ f a = b := by
  cases e with
  | error x => cases h
  | ok a => exact ⟨a, rfl, Except.ok.inj h⟩
/-- How many kids a node has, as its typing asks. -/
def Arr (x : Nd) (n : Nat) : Prop := x.kind ≠ 30 ∧ ((n : Int) = arit x.kind ∨ (x.kind = 21 ∧ n ≠ 0))
theorem same_map {α β : Type} {e e' : Except Bad α} {f : α → β} (h : e = e') : e.map f = e'.map f := by rw [h]
theorem nodeT_solid {x : Nd} {g : Env} {p : Nat} {K : List (Nat × Ty)} (hx : Stat x) (hg : EnvS g) (hK : AllS K) (hA : Arr x K.length) : nodeT false x g p K = nodeT true x g p K ∧ ∀ t, nodeT true x g p K = .ok t → t.solid = true := by
  unfold nodeT
  by_cases h1 : x.kind = 1
  · simp only [if_pos h1]; exact ⟨trivial, fun t h => by obtain rfl := Except.ok.inj h; rfl⟩
  simp only [if_neg h1]
  by_cases h2 : x.kind = 2
  · simp only [if_pos h2]; exact ⟨trivial, fun t h => by obtain rfl := Except.ok.inj h; rfl⟩
  simp only [if_neg h2]
  by_cases h3 : x.kind = 3
  · simp only [if_pos h3]; exact ⟨trivial, fun t h => by obtain rfl := Except.ok.inj h; rfl⟩
  simp only [if_neg h3]
  by_cases h4 : x.kind = 4
  · simp only [if_pos h4]
    refine ⟨trivial, fun t h => ?_⟩
    cases hl : lookT g x.s with
    | none => rw [hl] at h; cases h
    | some u => rw [hl] at h; obtain rfl := Except.ok.inj h; exact lookT_solid hg hl
  simp only [if_neg h4]
  by_cases h5 : x.kind = 10 ∨ x.kind = 11 ∨ x.kind = 12 ∨ x.kind = 16
  · simp only [if_pos h5]
    exact ⟨same_map (eachT_solid rfl hK), fun t h => by obtain ⟨_, _, rfl⟩ := map_ok' h; rfl⟩
  simp only [if_neg h5]
  by_cases h6 : x.kind = 14 ∨ x.kind = 15
  · simp only [if_pos h6]
    exact ⟨same_map (eachT_solid rfl hK), fun t h => by obtain ⟨_, _, rfl⟩ := map_ok' h; rfl⟩
  simp only [if_neg h6]
  by_cases h7 : x.kind = 13
  · simp only [if_pos h7]
    exact ⟨same_map (eachT_solid rfl hK), fun t h => by obtain ⟨_, _, rfl⟩ := map_ok' h; rfl⟩
  simp only [if_neg h7]
  by_cases h8 : x.kind = 17
  · simp only [if_pos h8]
    exact ⟨same_map (eachT_solid rfl hK), fun t h => by obtain ⟨_, _, rfl⟩ := map_ok' h; rfl⟩
  simp only [if_neg h8]
  obtain ⟨hA0, hA⟩ := hA
  match K, hK, hA with
  | [], _, hA =>
    exfalso
    simp only [List.length_nil, ne_eq, not_true, and_false, or_false] at hA
    unfold arit at hA
    (repeat' split at hA) <;> omega
  | (p0, t0) :: K1, hK, hA =>
    have s0 := hK (p0, t0) List.mem_cons_self
    have hK1 : AllS K1 := fun a ha => hK a (List.mem_cons_of_mem _ ha)
    simp only at s0
    simp only
    by_cases a1 : x.kind = 5 ∨ x.kind = 6
    · simp only [if_pos a1]
      have su := hx.u a1
      have st := hx.t (a1.elim .inl (fun h => .inr (.inl h)))
      exact ⟨same_map (fitT_solid s0 su), fun t h => by obtain ⟨_, _, rfl⟩ := map_ok' h; simp only [Ty.solid, Bool.and_eq_true]; exact ⟨st, su⟩⟩
    simp only [if_neg a1]
    by_cases a2 : x.kind = 19
    · simp only [if_pos a2]; exact ⟨trivial, fun t h => partT_solid s0 (.inl ⟨.inr rfl, by decide⟩) h⟩
    simp only [if_neg a2]
    by_cases a3 : x.kind = 20
    · simp only [if_pos a3]; exact ⟨trivial, fun t h => partT_solid s0 (.inl ⟨.inr rfl, by decide⟩) h⟩
    simp only [if_neg a3]
    by_cases a4 : x.kind = 29
    · simp only [if_pos a4]
      have st := hx.t (.inr (.inr (.inr a4)))
      exact ⟨same_map (fitT_solid s0 st), fun t h => by obtain ⟨_, _, rfl⟩ := map_ok' h; exact st⟩
    simp only [if_neg a4]
    by_cases a5 : x.kind = 26
    · simp only [if_pos a5]; exact ⟨trivial, fun t h => by obtain rfl := Except.ok.inj h; exact s0⟩
    simp only [if_neg a5]
    by_cases a6 : x.kind = 27
    · simp only [if_pos a6]; exact ⟨trivial, fun t h => partT_solid s0 (.inr ⟨.inr rfl, by decide⟩) h⟩
    simp only [if_neg a6]
    by_cases a7 : x.kind = 22
    · simp only [if_pos a7]; exact ⟨trivial, fun t h => partT_solid s0 (.inr ⟨.inl rfl, by decide⟩) h⟩
    simp only [if_neg a7]
    by_cases a8 : x.kind = 23
    · simp only [if_pos a8]; exact ⟨trivial, fun t h => by obtain ⟨u, hu, rfl⟩ := map_ok' h; exact partT_solid (u := u) (t := t0) (h := 108) (k := 0) (p := p0) s0 (.inr ⟨.inl rfl, by decide⟩) hu⟩
    simp only [if_neg a8]
    by_cases a9 : x.kind = 24
    · simp only [if_pos a9]; exact ⟨trivial, fun t h => by obtain ⟨u, hu, rfl⟩ := map_ok' h; rfl⟩
    simp only [if_neg a9]
    by_cases b1 : x.kind = 21
    · simp only [if_pos b1]
      have hm := meetsT_solid (a := p) hK1 s0
      exact ⟨same_map hm.1, fun t h => by obtain ⟨u, hu, rfl⟩ := map_ok' h; exact hm.2 u hu⟩
    simp only [if_neg b1]
    match K1, hK1, hA with
    | [], _, hA =>
      exfalso
      simp only [List.length_cons, List.length_nil] at hA
      rcases hA with hA | ⟨hA, _⟩
      · unfold arit at hA
        (repeat' split at hA) <;> omega
      · exact b1 hA
    | (p1, t1) :: K2, hK1, hA =>
      have s1 := hK1 (p1, t1) List.mem_cons_self
      have hK2 : AllS K2 := fun a ha => hK1 a (List.mem_cons_of_mem _ ha)
      simp only at s1
      simp only
      by_cases b2 : x.kind = 8
      · simp only [if_pos b2]
        have st := hx.t (.inr (.inr (.inl b2)))
        exact ⟨same_map (fitT_solid s0 st), fun t h => by obtain ⟨_, _, rfl⟩ := map_ok' h; exact s1⟩
      simp only [if_neg b2]
      by_cases b3 : x.kind = 7
      · simp only [if_pos b3]
        cases hm : matchT t0 62 with
        | none => exact ⟨rfl, fun t h => by cases h⟩
        | some l =>
          obtain ⟨hh, rfl⟩ := matchT_solid s0 hm
          have h2 := hd_two (.inl hh)
          exact ⟨same_map (fitT_solid s1 (getD_solid s0 (by omega))), fun t h => by obtain ⟨_, _, rfl⟩ := map_ok' h; exact getD_solid s0 (by omega)⟩
      simp only [if_neg b3]
      by_cases b4 : x.kind = 9
      · simp only [if_pos b4]
        rw [fitT_solid (t := .bool) s0 rfl]
        cases fitT true t0 .bool 23 p0 with
        | error b => exact ⟨rfl, fun t h => by cases h⟩
        | ok u => exact meetsT_solid hK2 s1
      simp only [if_neg b4]
      by_cases b5 : x.kind = 18
      · simp only [if_pos b5]; exact ⟨trivial, fun t h => by obtain rfl := Except.ok.inj h; simp only [Ty.solid, Bool.and_eq_true]; exact ⟨s0, s1⟩⟩
      simp only [if_neg b5]
      by_cases b6 : x.kind = 25
      · simp only [if_pos b6]
        cases hm : matchT t1 108 with
        | none => exact ⟨rfl, fun t h => by cases h⟩
        | some l =>
          obtain ⟨hh, rfl⟩ := matchT_solid s1 hm
          have h2 := hd_one (.inl hh)
          exact ⟨same_map (fitT_solid s0 (getD_solid s1 (by omega))), fun t h => by obtain ⟨_, _, rfl⟩ := map_ok' h; exact getD_solid s1 (by omega)⟩
      simp only [if_neg b6]
      cases hm : matchT t0 120 with
      | none => exact ⟨rfl, fun t h => by cases h⟩
      | some l =>
        obtain ⟨hh, rfl⟩ := matchT_solid s0 hm
        have h2 := hd_one (.inr hh)
        exact ⟨same_map (fitT_solid s1 (getD_solid s0 (by omega))), fun t h => by obtain ⟨_, _, rfl⟩ := map_ok' h; exact getD_solid s0 (by omega)⟩
def AllS2 (K : List (Nat × List Ty)) : Prop := ∀ a ∈ K, a.2 ≠ [] ∧ ∀ t ∈ a.2, t.solid = true
/-- A forest's nodes are without the unknown type, and have as many kids as they must. -/
def StatF : F → Prop
  | .nil => True
  | .cons x ks r => Stat x ∧ Arr x ks.cnt ∧ StatF ks ∧ StatF r
theorem chk_cnt {same : Bool} : ∀ (f : F) (g : Nat → Env) (k p : Nat) (K : List (Nat × List Ty)), chk same f g k p = .ok K → K.length = f.cnt
  | .nil, g, k, p, K, h => by
    simp only [chk, Except.ok.injEq] at h
    subst h
    rfl
  | .cons x ks r, g, k, p, K, h => by
    obtain ⟨K1, t, R, _, _, _, _, h5, rfl⟩ := F.chk_cons h
    rw [List.length_cons, chk_cnt r g (k + 1) _ R h5, F.cnt]
theorem chk_solid : ∀ (f : F) (g : Nat → Env) (k p : Nat), StatF f → (∀ j, EnvS (g j)) → chk false f g k p = chk true f g k p ∧ ∀ K, chk true f g k p = .ok K → AllS2 K
  | .nil, g, k, p, _, _ => ⟨rfl, fun K h => by simp only [chk, Except.ok.injEq] at h; subst h; intro a ha; cases ha⟩
  | .cons x ks r, g, k, p, hf, hg => by
    obtain ⟨hx, hA, hk, hr⟩ := hf
    obtain ⟨k1, k2⟩ := chk_solid ks (fun j => innerT x j (g k)) 0 (p + 1) hk (fun j => innerT_solid hx (hg k))
    obtain ⟨r1, r2⟩ := chk_solid r g (k + 1) (p + 1 + ks.flat.length) hr hg
    have hn : ∀ K1, chk true ks (fun j => innerT x j (g k)) 0 (p + 1) = .ok K1 → nodeT false x (g k) p (K1.map fun a => (a.1, a.2.headD .dyn)) = nodeT true x (g k) p (K1.map fun a => (a.1, a.2.headD .dyn)) ∧ ∀ t, nodeT true x (g k) p (K1.map fun a => (a.1, a.2.headD .dyn)) = .ok t → t.solid = true := fun K1 hK1 => by
      refine nodeT_solid hx (hg k) ?_ (by rw [List.length_map, chk_cnt _ _ _ _ _ hK1]; exact hA)
      intro b hb
      rw [List.mem_map] at hb
      obtain ⟨a, ha, rfl⟩ := hb
      obtain ⟨h1, h2⟩ := k2 K1 hK1 a ha
      cases hl : a.2 with
      | nil => exact absurd hl h1
      | cons t l => exact h2 t (by rw [hl]; exact List.mem_cons_self)
    constructor
    · simp only [chk]
      rw [k1, r1]
      split
      · rfl
      · cases hK1 : chk true ks (fun j => innerT x j (g k)) 0 (p + 1) with
        | error b => rfl
        | ok K1 =>
          simp only
          rw [(hn K1 hK1).1]
    · intro K h
      obtain ⟨K1, t, R, _, h2, h3, _, h5, rfl⟩ := F.chk_cons h
      intro a ha
      rcases List.mem_cons.1 ha with rfl | ha
      · refine ⟨by simp, fun u hu => ?_⟩
        rcases List.mem_cons.1 hu with rfl | hu
        · exact (hn K1 h2).2 _ h3
        · rw [List.mem_flatten] at hu
          obtain ⟨l, hl, hul⟩ := hu
          rw [List.mem_map] at hl
          obtain ⟨b, hb, rfl⟩ := hl
          exact (k2 K1 h2 b hb).2 u hul
      · exact r2 R h5 a ha
end Culp.Tr


/- Plain: the types of a tree's nodes, or the first refusal. -/
import Derived.Test.YtdfadmhomjcmeaaDoorFs
import Derived.Test.YtdfadmhomjcmeaaDoorR4W
namespace Culp
set_option linter.unusedSimpArgs false
set_option linter.unusedVariables false
/-- The most general type that is at least as precise as two consistent ones. -/
def meet : Ty → Ty → Ty
  | .dyn, t => t
  | s, .dyn => s
  | .fn a b, .fn c d => .fn (meet a c) (meet b d)
  | .pair a b, .pair c d => .pair (meet a c) (meet b d)
  | .list a, .list c => .list (meet a c)
  | .box a, .box c => .box (meet a c)
  | s, _ => s
theorem cons_comm : ∀ s t : Ty, cons s t = cons t s := by
  intro s
  induction s with
  | dyn => intro t; simp
  | int => intro t; cases t <;> rfl
  | bool => intro t; cases t <;> rfl
  | text => intro t; cases t <;> rfl
  | fn a b ha hb => intro t; cases t <;> simp [cons, ha, hb]
  | pair a b ha hb => intro t; cases t <;> simp [cons, ha, hb]
  | list a ha => intro t; cases t <;> simp [cons, ha]
  | box a ha => intro t; cases t <;> simp [cons, ha]
@[simp] theorem meet_dyn (s : Ty) : meet s .dyn = s := by cases s <;> rfl
@[simp] theorem dyn_meet (s : Ty) : meet .dyn s = s := rfl
end Culp
namespace Culp.Tr
set_option linter.unusedSimpArgs false
set_option linter.unusedVariables false
/-- Names with their types, the innermost first. -/
abbrev Env := List (ByteArray × Ty)
abbrev Bad := Int × Nat
/-- An annotation, read. -/
def noteT (s : ByteArray) : Ty := if s.size = 0 then .dyn else (tyOf s).getD .dyn
/-- The parts of a type of a head; of the unknown one as many unknown ones. -/
def matchT (t : Ty) (h : UInt8) : Option (List Ty) :=
  if t = .dyn then (if h = 62 ∨ h = 44 then some [.dyn, .dyn] else some [.dyn])
  else if t.hd = h then some t.kids else none
def partT (p : Nat) (t : Ty) (h : UInt8) (k : Nat) : Except Bad Ty := match matchT t h with
  | none => .error (24, p)
  | some l => .ok (l.getD k .dyn)
/-- Two types that must be consistent; the same, if it is asked for. -/
def fitT (same : Bool) (s t : Ty) (e : Int) (p : Nat) : Except Bad Unit := if (!same || decide (s = t)) && cons s t then .ok () else .error (e, p)
def eachT (same : Bool) (t : Ty) : List (Nat × Ty) → Except Bad Unit
  | [] => .ok ()
  | (p, s) :: l => match fitT same s t 23 p with
    | .error b => .error b
    | .ok _ => eachT same t l
/-- The meet of some types with one that stands first. -/
def meetsT (same : Bool) (at_ : Nat) : Ty → List (Nat × Ty) → Except Bad Ty
  | m, [] => .ok m
  | m, (p, s) :: l => match fitT same m s 25 p with
    | .error b => .error b
    | .ok _ => if (meet m s).enc.length ≤ 64 then meetsT same at_ (meet m s) l else .error (21, at_)
def lookT : Env → ByteArray → Option Ty
  | [], _ => none
  | (n, t) :: l, s => if n = s then some t else lookT l s
/-- What a node's kid number k finds bound. -/
def innerT (x : Nd) (k : Nat) (env : Env) : Env :=
  if x.kind = 5 then (x.s, noteT x.t) :: env
  else if x.kind = 6 then (match two x.s.data.toList with | some (a, b) => (⟨b.toArray⟩, noteT x.t) :: (⟨a.toArray⟩, .fn (noteT x.t) (noteT x.u)) :: env | none => env)
  else if x.kind = 8 ∧ k = 1 then (x.s, noteT x.t) :: env
  else env
/-- A node's type out of its kids'. -/
def nodeT (same : Bool) (x : Nd) (env : Env) (p : Nat) (K : List (Nat × Ty)) : Except Bad Ty :=
  if x.kind = 1 then .ok .int
  else if x.kind = 2 then .ok .text
  else if x.kind = 3 then .ok .bool
  else if x.kind = 4 then (match lookT env x.s with | some t => .ok t | none => .error (22, p))
  else if x.kind = 10 ∨ x.kind = 11 ∨ x.kind = 12 ∨ x.kind = 16 then (eachT same .int K).map fun _ => .int
  else if x.kind = 14 ∨ x.kind = 15 then (eachT same .int K).map fun _ => .bool
  else if x.kind = 13 then (eachT same .text K).map fun _ => .text
  else if x.kind = 17 then (eachT same .text K).map fun _ => .int
  else match K with
    | [] => .ok (.list .dyn)
    | (p0, t0) :: K' =>
      if x.kind = 5 ∨ x.kind = 6 then (fitT same t0 (noteT x.u) 23 p0).map fun _ => .fn (noteT x.t) (noteT x.u)
      else if x.kind = 19 then partT p0 t0 44 0
      else if x.kind = 20 then partT p0 t0 44 1
      else if x.kind = 29 then (fitT same t0 (noteT x.t) 23 p).map fun _ => noteT x.t
      else if x.kind = 26 then .ok (.box t0)
      else if x.kind = 27 then partT p0 t0 120 0
      else if x.kind = 22 then partT p0 t0 108 0
      else if x.kind = 23 then (partT p0 t0 108 0).map .list
      else if x.kind = 24 then (partT p0 t0 108 0).map fun _ => .bool
      else if x.kind = 21 then (meetsT same p t0 K').map .list
      else match K' with
        | [] => .ok .dyn
        | (p1, t1) :: K'' =>
          if x.kind = 8 then (fitT same t0 (noteT x.t) 23 p0).map fun _ => t1
          else if x.kind = 7 then (match matchT t0 62 with
            | none => .error (24, p0)
            | some l => (fitT same t1 (l.getD 0 .dyn) 23 p1).map fun _ => l.getD 1 .dyn)
          else if x.kind = 9 then (match fitT same t0 .bool 23 p0 with
            | .error b => .error b
            | .ok _ => meetsT same p t1 K'')
          else if x.kind = 18 then .ok (.pair t0 t1)
          else if x.kind = 25 then (match matchT t1 108 with
            | none => .error (24, p1)
            | some l => (fitT same t0 (l.getD 0 .dyn) 23 p0).map fun _ => .list (l.getD 0 .dyn))
          else (match matchT t0 120 with
            | none => .error (24, p0)
            | some l => (fitT same t1 (l.getD 0 .dyn) 23 p1).map fun _ => l.getD 0 .dyn)
/-- A type that must not be too large. -/
def sizeT (p : Nat) (t : Ty) : Except Bad Ty := if t.enc.length ≤ 64 then .ok t else .error (21, p)
/-- The parts of a forest, each with its place and its nodes' types: its own first. -/
def chk (same : Bool) : F → (Nat → Env) → Nat → Nat → Except Bad (List (Nat × List Ty))
  | .nil, _, _, _ => .ok []
  | .cons x ks r, env, k, p =>
    match (if x.kind = 5 ∨ x.kind = 6 then (sizeT p (.fn (noteT x.t) (noteT x.u))).map fun _ => () else .ok ()) with
    | .error b => .error b
    | .ok _ => match chk same ks (fun j => innerT x j (env k)) 0 (p + 1) with
      | .error b => .error b
      | .ok K => match nodeT same x (env k) p (K.map fun a => (a.1, a.2.headD .dyn)) with
        | .error b => .error b
        | .ok t => match sizeT p t with
          | .error b => .error b
          | .ok t => match chk same r env (k + 1) (p + 1 + ks.flat.length) with
            | .error b => .error b
            | .ok R => .ok ((p, t :: (K.map Prod.snd).flatten) :: R)
/-- One part by itself. -/
def chk1 (same : Bool) (x : Nd) (ks : F) (env : Env) (p : Nat) : Except Bad (List Ty) := match chk same (.cons x ks .nil) (fun _ => env) 0 p with
  | .error b => .error b
  | .ok K => .ok (K.map Prod.snd).flatten
end Culp.Tr

/- Plain: the types of a closed part are its own. -/
namespace Culp.Tr
set_option linter.unusedSimpArgs false
set_option linter.unusedVariables false
theorem lookT_inner {x : Nd} {k : Nat} {g g' : Env} {s : ByteArray} (h : s ∈ binds x k ∨ lookT g s = lookT g' s) : lookT (innerT x k g) s = lookT (innerT x k g') s := by
  unfold innerT
  unfold binds at h
  by_cases h5 : x.kind = 5
  · simp only [if_pos h5] at h ⊢
    simp only [lookT]
    split
    · rfl
    · rename_i hn
      rcases h with h | h
      · simp only [List.mem_singleton] at h
        exact absurd h.symm hn
      · exact h
  simp only [if_neg h5] at h ⊢
  by_cases h6 : x.kind = 6
  · simp only [if_pos h6] at h ⊢
    cases hw : two x.s.data.toList with
    | none =>
      rw [hw] at h
      simp only [List.not_mem_nil, false_or] at h
      simpa using h
    | some ab =>
      obtain ⟨a, b⟩ := ab
      rw [hw] at h
      simp only [lookT]
      split
      · rfl
      split
      · rfl
      · rename_i h1 h2
        rcases h with h | h
        · simp only [List.mem_cons, List.not_mem_nil, or_false] at h
          rcases h with h | h
          · exact absurd h.symm h2
          · exact absurd h.symm h1
        · exact h
  simp only [if_neg h6] at h ⊢
  by_cases h8 : x.kind = 8 ∧ k = 1
  · simp only [if_pos h8] at h ⊢
    simp only [lookT]
    split
    · rfl
    · rename_i hn
      rcases h with h | h
      · simp only [List.mem_singleton] at h
        exact absurd h.symm hn
      · exact h
  · simp only [if_neg h8] at h ⊢
    rcases h with h | h
    · cases h
    · exact h
theorem nodeT_env {same : Bool} {x : Nd} {g g' : Env} {p : Nat} {K : List (Nat × Ty)} (h : x.kind = 4 → lookT g x.s = lookT g' x.s) : nodeT same x g p K = nodeT same x g' p K := by
  unfold nodeT
  by_cases h4 : x.kind = 4
  · simp only [if_pos h4, h h4]
  · simp only [if_neg h4]
namespace F
set_option linter.unusedSimpArgs false
set_option linter.unusedVariables false
/-- Where the names that stand free are typed alike the types are the same. -/
theorem chk_agree (same : Bool) : ∀ (f : F) (B : Nat → List ByteArray) (g g' : Nat → Env) (k p : Nat), f.Leafy → (∀ j s, s ∈ B j → lookT (g j) s = lookT (g' j) s) → f.vars B k = [] → chk same f g k p = chk same f g' k p
  | nil, B, g, g', k, p, _, _, _ => rfl
  | cons x ks r, B, g, g', k, p, hl, hB, hv => by
    simp only [vars, List.append_eq_nil_iff] at hv
    obtain ⟨h1, h2⟩ := hv
    have hr := chk_agree same r B g g' (k + 1) (p + 1 + ks.flat.length) hl.2.2 hB h2
    have hk : chk same ks (fun j => innerT x j (g k)) 0 (p + 1) = chk same ks (fun j => innerT x j (g' k)) 0 (p + 1) := by
      by_cases h4 : x.kind = 4
      · rw [hl.1 h4]; rfl
      · rw [if_neg h4] at h1
        exact chk_agree same ks (fun j => B k ++ binds x j) _ _ 0 (p + 1) hl.2.1 (fun j s hs => lookT_inner (by
          rcases List.mem_append.1 hs with hs | hs
          · exact .inr (hB k s hs)
          · exact .inl hs)) h1
    have hn : ∀ K, nodeT same x (g k) p K = nodeT same x (g' k) p K := fun K => nodeT_env (fun h4 => by
      rw [if_pos h4] at h1
      split at h1
      · rename_i hs; exact hB k _ hs
      · cases h1)
    simp only [chk, hk, hn, hr]
end F
/-- What was found, apart from where. -/
theorem fitT_opt {same : Bool} {s t : Ty} {e e' : Int} {p p' : Nat} : (fitT same s t e p).toOption = (fitT same s t e' p').toOption := by
  unfold fitT
  split <;> rfl
theorem partT_opt {t : Ty} {h : UInt8} {k p p' : Nat} : (partT p t h k).toOption = (partT p' t h k).toOption := by
  unfold partT
  split <;> rfl
theorem sizeT_opt {t : Ty} {p p' : Nat} : (sizeT p t).toOption = (sizeT p' t).toOption := by
  unfold sizeT
  split <;> rfl
theorem opt_map {α β : Type} {e e' : Except Bad α} (f : α → β) (h : e.toOption = e'.toOption) : (e.map f).toOption = (e'.map f).toOption := by
  cases e <;> cases e' <;> simp_all [Except.toOption, Except.map]
theorem eachT_opt {same : Bool} {t : Ty} : ∀ {K K' : List (Nat × Ty)}, K.map Prod.snd = K'.map Prod.snd → (eachT same t K).toOption = (eachT same t K').toOption
  | [], [], _ => rfl
  | [], _ :: _, h => by simp at h
  | _ :: _, [], h => by simp at h
  | (p, s) :: K, (p', s') :: K', h => by
    simp only [List.map_cons, List.cons.injEq] at h
    obtain ⟨rfl, h⟩ := h
    have h1 := fitT_opt (same := same) (s := s) (t := t) (e := 23) (e' := 23) (p := p) (p' := p')
    have h2 := eachT_opt (same := same) (t := t) h
    simp only [eachT]
    cases hf : fitT same s t 23 p <;> cases hf' : fitT same s t 23 p' <;> rw [hf, hf'] at h1 <;> first | (simp [Except.toOption] at h1; done) | (simp only [Except.toOption]; done) | exact h2
theorem meetsT_opt {same : Bool} {a a' : Nat} : ∀ {K K' : List (Nat × Ty)} {m : Ty}, K.map Prod.snd = K'.map Prod.snd → (meetsT same a m K).toOption = (meetsT same a' m K').toOption
  | [], [], _, _ => rfl
  | [], _ :: _, _, h => by simp at h
  | _ :: _, [], _, h => by simp at h
  | (p, s) :: K, (p', s') :: K', m, h => by
    simp only [List.map_cons, List.cons.injEq] at h
    obtain ⟨rfl, h⟩ := h
    have h1 := fitT_opt (same := same) (s := m) (t := s) (e := 25) (e' := 25) (p := p) (p' := p')
    have h2 := meetsT_opt (same := same) (a := a) (a' := a') (m := meet m s) h
    simp only [meetsT]
    cases hf : fitT same m s 25 p <;> cases hf' : fitT same m s 25 p' <;> rw [hf, hf'] at h1
    · rfl
    · simp [Except.toOption] at h1
    · simp [Except.toOption] at h1
    · simp only
      split
      · exact h2
      · rfl
theorem nodeT_opt {same : Bool} {x : Nd} {g : Env} {p p' : Nat} {K K' : List (Nat × Ty)} (h : K.map Prod.snd = K'.map Prod.snd) : (nodeT same x g p K).toOption = (nodeT same x g p' K').toOption := by
  unfold nodeT
  by_cases h1 : x.kind = 1
  · simp only [if_pos h1]
  simp only [if_neg h1]
  by_cases h2 : x.kind = 2
  · simp only [if_pos h2]
  simp only [if_neg h2]
  by_cases h3 : x.kind = 3
  · simp only [if_pos h3]
  simp only [if_neg h3]
  by_cases h4 : x.kind = 4
  · simp only [if_pos h4]
    cases lookT g x.s <;> rfl
  simp only [if_neg h4]
  by_cases h5 : x.kind = 10 ∨ x.kind = 11 ∨ x.kind = 12 ∨ x.kind = 16
  · simp only [if_pos h5]
    exact opt_map _ (eachT_opt h)
  simp only [if_neg h5]
  by_cases h6 : x.kind = 14 ∨ x.kind = 15
  · simp only [if_pos h6]
    exact opt_map _ (eachT_opt h)
  simp only [if_neg h6]
  by_cases h7 : x.kind = 13
  · simp only [if_pos h7]
    exact opt_map _ (eachT_opt h)
  simp only [if_neg h7]
  by_cases h8 : x.kind = 17
  · simp only [if_pos h8]
    exact opt_map _ (eachT_opt h)
  simp only [if_neg h8]
  match K, K', h with
  | [], [], _ => rfl
  | [], _ :: _, h => simp at h
  | _ :: _, [], h => simp at h
  | (p0, t0) :: K1, (p0', t0') :: K1', h =>
    simp only [List.map_cons, List.cons.injEq] at h
    obtain ⟨rfl, h⟩ := h
    simp only
    by_cases a1 : x.kind = 5 ∨ x.kind = 6
    · simp only [if_pos a1]
      exact opt_map _ fitT_opt
    simp only [if_neg a1]
    by_cases a2 : x.kind = 19
    · simp only [if_pos a2]
      exact partT_opt
    simp only [if_neg a2]
    by_cases a3 : x.kind = 20
    · simp only [if_pos a3]
      exact partT_opt
    simp only [if_neg a3]
    by_cases a4 : x.kind = 29
    · simp only [if_pos a4]
      exact opt_map _ fitT_opt
    simp only [if_neg a4]
    by_cases a5 : x.kind = 26
    · simp only [if_pos a5]
    simp only [if_neg a5]
    by_cases a6 : x.kind = 27
    · simp only [if_pos a6]
      exact partT_opt
    simp only [if_neg a6]
    by_cases a7 : x.kind = 22
    · simp only [if_pos a7]
      exact partT_opt
    simp only [if_neg a7]
    by_cases a8 : x.kind = 23
    · simp only [if_pos a8]
      exact opt_map _ partT_opt
    simp only [if_neg a8]
    by_cases a9 : x.kind = 24
    · simp only [if_pos a9]
      exact opt_map _ partT_opt
    simp only [if_neg a9]
    by_cases b1 : x.kind = 21
    · simp only [if_pos b1]
      exact opt_map _ (meetsT_opt h)
    simp only [if_neg b1]
    match K1, K1', h with
    | [], [], _ => rfl
    | [], _ :: _, h => simp at h
    | _ :: _, [], h => simp at h
    | (p1, t1) :: K2, (p1', t1') :: K2', h =>
      simp only [List.map_cons, List.cons.injEq] at h
      obtain ⟨rfl, h⟩ := h
      simp only
      by_cases b2 : x.kind = 8
      · simp only [if_pos b2]
        exact opt_map _ fitT_opt
      simp only [if_neg b2]
      by_cases b3 : x.kind = 7
      · simp only [if_pos b3]
        cases matchT t0 62 with
        | none => rfl
        | some l => exact opt_map _ fitT_opt
      simp only [if_neg b3]
      by_cases b4 : x.kind = 9
      · simp only [if_pos b4]
        have h1 := fitT_opt (same := same) (s := t0) (t := .bool) (e := 23) (e' := 23) (p := p0) (p' := p0')
        cases hf : fitT same t0 .bool 23 p0 <;> cases hf' : fitT same t0 .bool 23 p0' <;> rw [hf, hf'] at h1
        · rfl
        · simp [Except.toOption] at h1
        · simp [Except.toOption] at h1
        · exact meetsT_opt h
      simp only [if_neg b4]
      by_cases b5 : x.kind = 18
      · simp only [if_pos b5]
      simp only [if_neg b5]
      by_cases b6 : x.kind = 25
      · simp only [if_pos b6]
        cases matchT t1 108 with
        | none => rfl
        | some l => exact opt_map _ fitT_opt
      simp only [if_neg b6]
      cases matchT t0 120 with
      | none => rfl
      | some l => exact opt_map _ fitT_opt
theorem ok_opt {α : Type} {e : Except Bad α} {a : α} (h : e.toOption = some a) : e = .ok a := by
  cases e with
  | error b => simp [Except.toOption] at h
  | ok b => simp [Except.toOption] at h; rw [h]
theorem opt_ok {α : Type} {e : Except Bad α} {a : α} (h : e = .ok a) : e.toOption = some a := by rw [h]; rfl
namespace F
set_option linter.unusedSimpArgs false
set_option linter.unusedVariables false
/-- What a forest that is typed consists of. -/
theorem chk_cons {same : Bool} {x : Nd} {ks r : F} {g : Nat → Env} {k p : Nat} {K : List (Nat × List Ty)} (h : chk same (cons x ks r) g k p = .ok K) :
    ∃ K1 t R, (x.kind = 5 ∨ x.kind = 6 → (Ty.fn (noteT x.t) (noteT x.u)).enc.length ≤ 64) ∧ chk same ks (fun j => innerT x j (g k)) 0 (p + 1) = .ok K1 ∧ nodeT same x (g k) p (K1.map fun a => (a.1, a.2.headD .dyn)) = .ok t ∧ t.enc.length ≤ 64 ∧ chk same r g (k + 1) (p + 1 + ks.flat.length) = .ok R ∧ K = (p, t :: (K1.map Prod.snd).flatten) :: R := by
  simp only [chk] at h
  split at h
  · cases h
  rename_i hpre
  split at h
  · cases h
  rename_i K1 hK1
  split at h
  · cases h
  rename_i t ht
  split at h
  · cases h
  rename_i t' ht'
  split at h
  · cases h
  rename_i R hR
  simp only [Except.ok.injEq] at h
  unfold sizeT at ht'
  split at ht'
  · rename_i hsz
    obtain rfl := Except.ok.inj ht'
    refine ⟨K1, t, R, fun h56 => ?_, hK1, ht, hsz, hR, h.symm⟩
    rw [if_pos h56] at hpre
    unfold sizeT at hpre
    split at hpre
    · assumption
    · cases hpre
  · cases ht'
theorem chk_mk {same : Bool} {x : Nd} {ks r : F} {g : Nat → Env} {k p : Nat} {K1 R : List (Nat × List Ty)} {t : Ty} (h1 : x.kind = 5 ∨ x.kind = 6 → (Ty.fn (noteT x.t) (noteT x.u)).enc.length ≤ 64) (h2 : chk same ks (fun j => innerT x j (g k)) 0 (p + 1) = .ok K1) (h3 : nodeT same x (g k) p (K1.map fun a => (a.1, a.2.headD .dyn)) = .ok t) (h4 : t.enc.length ≤ 64) (h5 : chk same r g (k + 1) (p + 1 + ks.flat.length) = .ok R) :
    chk same (cons x ks r) g k p = .ok ((p, t :: (K1.map Prod.snd).flatten) :: R) := by
  have hpre : (if x.kind = 5 ∨ x.kind = 6 then (sizeT p (.fn (noteT x.t) (noteT x.u))).map fun _ => () else .ok ()) = .ok () := by
    split
    · rename_i h; unfold sizeT; rw [if_pos (h1 h)]; rfl
    · rfl
  simp only [chk, hpre, h2, h3, h5]
  unfold sizeT
  rw [if_pos h4]
/-- The places do not matter. -/
theorem chk_move (same : Bool) : ∀ (f : F) (g : Nat → Env) (k p p' : Nat) (K : List (Nat × List Ty)), chk same f g k p = .ok K → ∃ K', chk same f g k p' = .ok K' ∧ K'.map Prod.snd = K.map Prod.snd
  | nil, g, k, p, p', K, h => by
    simp only [chk, Except.ok.injEq] at h
    subst h
    exact ⟨[], rfl, rfl⟩
  | cons x ks r, g, k, p, p', K, h => by
    obtain ⟨K1, t, R, h1, h2, h3, h4, h5, rfl⟩ := chk_cons h
    obtain ⟨K1', a2, b2⟩ := chk_move same ks _ 0 (p + 1) (p' + 1) K1 h2
    obtain ⟨R', a5, b5⟩ := chk_move same r g (k + 1) _ (p' + 1 + ks.flat.length) R h5
    have a3 : nodeT same x (g k) p' (K1'.map fun a => (a.1, a.2.headD .dyn)) = .ok t := ok_opt (by
      rw [← opt_ok h3]
      refine nodeT_opt ?_
      have e : ∀ L : List (Nat × List Ty), (L.map fun a => (a.1, a.2.headD .dyn)).map Prod.snd = (L.map Prod.snd).map fun l => l.headD .dyn := fun L => by simp [Function.comp_def]
      rw [e, e, b2])
    exact ⟨_, chk_mk (r := r) h1 a2 a3 h4 a5, by simp [b2, b5]⟩
theorem chk_len (same : Bool) : ∀ (f : F) (g : Nat → Env) (k p : Nat) (K : List (Nat × List Ty)), chk same f g k p = .ok K → ((K.map Prod.snd).flatten).length = f.flat.length
  | nil, g, k, p, K, h => by
    simp only [chk, Except.ok.injEq] at h
    subst h
    rfl
  | cons x ks r, g, k, p, K, h => by
    obtain ⟨K1, t, R, _, h2, _, _, h5, rfl⟩ := chk_cons h
    have a2 := chk_len same ks _ 0 (p + 1) K1 h2
    have a5 := chk_len same r g (k + 1) _ R h5
    simp only [List.map_cons, List.flatten_cons, flat, List.length_cons, List.length_append, a2, a5]
    omega
/-- Each part of what is typed is typed by itself, in some environment. -/
theorem chk_at (same : Bool) : ∀ (f : F) (g : Nat → Env) (k p q : Nat) (K : List (Nat × List Ty)), f.Ok → f.Leafy → chk same f g k p = .ok K → q < f.flat.length →
    ∃ pre y ky post E, f.flat = pre ++ y :: (ky.flat ++ post) ∧ pre.length = q ∧ (cons y ky nil).Ok ∧ (cons y ky nil).Leafy ∧ ky.hgt + 1 ≤ f.hgt ∧ chk1 same y ky E (p + q) = .ok ((((K.map Prod.snd).flatten).drop q).take (1 + ky.flat.length))
  | nil, g, k, p, q, K, _, _, _, hq => by simp [flat] at hq
  | cons x ks r, g, k, p, q, K, hO, hL, h, hq => by
    obtain ⟨K1, t, R, h1, h2, h3, h4, h5, rfl⟩ := chk_cons h
    have l2 := chk_len same ks _ 0 (p + 1) K1 h2
    simp only [flat, List.length_cons, List.length_append] at hq
    by_cases q0 : q = 0
    · subst q0
      refine ⟨[], x, ks, r.flat, g k, rfl, rfl, ⟨hO.1, hO.2.1, trivial⟩, ⟨hL.1, hL.2.1, trivial⟩, by simp only [hgt]; omega, ?_⟩
      have := chk_mk (same := same) (r := nil) (g := fun _ => g k) (k := 0) (R := []) h1 h2 h3 h4 rfl
      unfold chk1
      rw [Nat.add_zero, this]
      simp only [List.map_cons, List.map_nil, List.flatten_cons, List.flatten_nil, List.append_nil, List.drop_zero]
      rw [List.cons_append, Nat.add_comm, List.take_succ_cons, ← l2, List.take_left]
    by_cases q1 : q < 1 + ks.flat.length
    · obtain ⟨pre, y, ky, post, E, a1, a2, a3, a4, a5, a6⟩ := chk_at same ks _ 0 (p + 1) (q - 1) K1 hO.2.1 hL.2.1 h2 (by omega)
      refine ⟨x :: pre, y, ky, post ++ r.flat, E, ?_, by rw [List.length_cons]; omega, a3, a4, by simp only [hgt]; omega, ?_⟩
      · simp only [flat]
        rw [a1]
        simp
      · rw [show p + 1 + (q - 1) = p + q by omega] at a6
        rw [a6]
        have hl := congrArg List.length a1
        simp only [List.length_append, List.length_cons] at hl
        simp only [List.map_cons, List.flatten_cons, List.cons_append]
        rw [show q = (q - 1) + 1 by omega, List.drop_succ_cons, Nat.add_sub_cancel, List.drop_append_of_le_length (by omega), List.take_append_of_le_length (by rw [List.length_drop]; omega)]
    · obtain ⟨pre, y, ky, post, E, a1, a2, a3, a4, a5, a6⟩ := chk_at same r g (k + 1) _ (q - 1 - ks.flat.length) R hO.2.2 hL.2.2 h5 (by omega)
      refine ⟨x :: (ks.flat ++ pre), y, ky, post, E, ?_, by rw [List.length_cons, List.length_append]; omega, a3, a4, by simp only [hgt]; omega, ?_⟩
      · simp only [flat]
        rw [a1]
        simp
      · rw [show p + 1 + ks.flat.length + (q - 1 - ks.flat.length) = p + q by omega] at a6
        rw [a6]
        simp only [List.map_cons, List.flatten_cons, List.cons_append]
        have e : ((K1.map Prod.snd).flatten ++ (R.map Prod.snd).flatten).drop (q - 1) = ((R.map Prod.snd).flatten).drop (q - 1 - ks.flat.length) := by
          rw [List.drop_append, List.drop_eq_nil_of_le (by omega), List.nil_append, l2]
        rw [← e]
        obtain ⟨q', rfl⟩ : ∃ q', q = q' + 1 := ⟨q - 1, by omega⟩
        rw [List.drop_succ_cons, Nat.add_sub_cancel]
/-- A closed part by itself: the same types. -/
theorem chk_closed {same : Bool} {y : Nd} {ky : F} {E : Env} {p : Nat} {ts : List Ty} (hL : (cons y ky nil).Leafy) (hf : free y ky = []) (h : chk1 same y ky E p = .ok ts) : chk1 same y ky [] 0 = .ok ts := by
  have hv : (cons y ky nil).vars (fun _ => []) 0 = [] := by
    unfold free at hf
    cases hv : (cons y ky nil).vars (fun _ => []) 0 with
    | nil => rfl
    | cons s l =>
      have : s ∈ addAll [] ((cons y ky nil).vars (fun _ => []) 0) := (mem_addAll _ _).2 (.inr (by rw [hv]; exact List.mem_cons_self))
      rw [hf] at this
      cases this
  unfold chk1 at h ⊢
  have e1 : chk same (cons y ky nil) (fun _ => E) 0 p = chk same (cons y ky nil) (fun _ => []) 0 p := chk_agree same _ (fun _ => []) _ _ 0 p hL (fun j s hs => by cases hs) hv
  rw [e1] at h
  cases hk : chk same (cons y ky nil) (fun _ => []) 0 p with
  | error b => rw [hk] at h; cases h
  | ok K =>
    rw [hk] at h
    obtain ⟨K', h1, h2⟩ := chk_move same _ _ 0 p 0 K hk
    rw [h1]
    simp only at h ⊢
    rw [h2]
    exact h
end F
end Culp.Tr

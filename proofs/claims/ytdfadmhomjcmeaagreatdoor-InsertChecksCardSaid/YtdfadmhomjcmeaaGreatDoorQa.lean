
/- Plain: of a closed tree that is taken the term checks; each cast goes from a type to another that is consistent; labels are 1, 2, .. each once. -/
import Derived.Test.YtdfadmhomjcmeaaGreatDoorNz
import Derived.Test.YtdfadmhomjcmeaaGreatDoorLb
namespace Culp.Ins
set_option linter.unusedSimpArgs false
set_option linter.unusedVariables false
open Go Culp Culp.Tr
theorem kids_words {T : List Nd} {g : Nat → Except Flt (Ty × Nat)} (hg : ∀ (p q : Nat) (t : Ty), g p = .ok (t, q) → ∀ i, p ≤ i → i < q → ∃ y b, T[i]? = some y ∧ wordsM y b = none) : ∀ (n p q : Nat) (ts : List Ty), kidsM g n p = .ok (ts, q) → ∀ i, p ≤ i → i < q → ∃ y b, T[i]? = some y ∧ wordsM y b = none
  | 0, p, q, ts, h, i, h1, h2 => by
    simp only [kidsM, Except.ok.injEq, Prod.mk.injEq] at h
    omega
  | n + 1, p, q, ts, h, i, h1, h2 => by
    simp only [kidsM] at h
    cases hp : g p with
    | error e => rw [hp] at h; cases h
    | ok a =>
      obtain ⟨t, m⟩ := a
      rw [hp] at h
      simp only at h
      cases hk : kidsM g n m with
      | error e => rw [hk] at h; cases h
      | ok b =>
        obtain ⟨l, r⟩ := b
        rw [hk] at h
        simp only [Except.ok.injEq, Prod.mk.injEq] at h
        obtain ⟨_, rfl⟩ := h
        rcases Nat.lt_or_ge i m with hi | hi
        · exact hg p m t hp i h1 hi
        · exact kids_words hg n m r l hk i hi h2
theorem body_ok {p q : Nat} {f u t : Ty} {X : Except Flt (Ty × Nat)} (h : bodyM p f u X = .ok (t, q)) : ∃ a, X = .ok (a, q) := by
  cases X with
  | error e => cases h
  | ok r =>
    obtain ⟨a, q'⟩ := r
    simp only [bodyM] at h
    split at h
    · simp only [Except.ok.injEq, Prod.mk.injEq] at h
      exact ⟨a, by rw [h.2]⟩
    · cases h
/-- Each node that is typed passed what is asked ahead of its kids. -/
theorem typed_words (T : List Nd) : ∀ (f : Nat) (E : List Ty) (p q : Nat) (t : Ty), typedM T f E p = .ok (t, q) → ∀ i, p ≤ i → i < q → ∃ y b, T[i]? = some y ∧ wordsM y b = none
  | 0, E, p, q, t, h, i, h1, h2 => by simp [typedM] at h
  | f + 1, E, p, q, t, h, i, h1, h2 => by
    have ih := typed_words T f
    rw [typedM] at h
    cases hx : T[p]? with
    | none => rw [hx] at h; cases h
    | some x =>
      rw [hx] at h
      simp only at h
      cases hw : wordsM x E.length with
      | some e => rw [hw] at h; cases h
      | none =>
        rw [hw] at h
        simp only at h
        rcases Nat.eq_or_lt_of_le h1 with rfl | h1
        · exact ⟨x, _, hx, hw⟩
        split at h
        · split at h
          · simp only [Except.ok.injEq, Prod.mk.injEq] at h
            omega
          · cases h
        split at h
        · split at h
          · split at h
            · cases h
            · obtain ⟨a', hb⟩ := body_ok h
              exact ih _ _ _ _ hb i (by omega) h2
          · cases h
        split at h
        · split at h
          · split at h
            · cases h
            · obtain ⟨a', hb⟩ := body_ok h
              exact ih _ _ _ _ hb i (by omega) h2
          · cases h
        split at h
        · cases hb : typedM T f E (p + 1) with
          | error e => rw [hb] at h; cases h
          | ok r =>
            obtain ⟨a, m⟩ := r
            rw [hb] at h
            simp only at h
            rcases Nat.lt_or_ge i m with hi | hi
            · exact ih _ _ _ _ hb i (by omega) hi
            · exact ih _ _ _ _ h i hi h2
        · cases hk : kidsM (typedM T f E) x.kids.toNat (p + 1) with
          | error e => rw [hk] at h; cases h
          | ok r =>
            obtain ⟨l, m⟩ := r
            rw [hk] at h
            simp only at h
            split at h
            · cases h
            · simp only [Except.ok.injEq, Prod.mk.injEq] at h
              exact kids_words (fun a b t' hab => ih _ _ _ _ hab) _ _ _ _ hk i (by omega) (by omega)
/-- A cast's types. -/
theorem cast_words {y : Nd} {b : Nat} (h : wordsM y b = none) (h30 : y.kind = 30) : ∃ s u : Ty, y.t = s.str ∧ y.u = u.str ∧ s.fits ∧ u.fits ∧ cons s u = true ∧ 1 ≤ y.n := by
  unfold wordsM at h
  rw [if_neg (by omega), if_neg (by omega), if_neg (by omega), if_neg (by omega), if_neg (by omega), if_pos h30] at h
  have hty : ∀ (s : ByteArray) (a : Ty), tyOf s = some a → s = a.str ∧ a.fits := fun s a hs => by
    by_cases hi : isTy s.data.toList = true
    · obtain ⟨T, e, hT, e2⟩ := Go.Proofs.YtdfadmhomjcmeaaGreatDoor.argOk_ty' hi
      rw [hs] at e2
      simp only [Option.getD_some] at e2
      subst e2
      exact ⟨e, hT⟩
    · unfold tyOf at hs
      rw [if_neg hi] at hs
      cases hs
  split at h
  · rename_i a b' ha hb
    split at h
    · rename_i hc
      split at h
      · rename_i hn
        obtain ⟨e1, f1⟩ := hty _ _ ha
        obtain ⟨e2, f2⟩ := hty _ _ hb
        exact ⟨a, b', e1, e2, f1, f2, hc, hn.1⟩
      · cases h
    · cases h
  · cases h
/-- No cast goes from a type to itself. -/
def NeC (T : List Nd) : Prop := ∀ y ∈ T, y.kind = 30 → y.t ≠ y.u
theorem neC_lay {T : List Nd} (h : NeC T) (s t : Ty) (l c r : Int) (n : Nat) : NeC (lay T s t l c r n).1 := by
  unfold lay
  split
  · exact h
  · rename_i hne
    intro y hy
    rcases List.mem_cons.1 hy with rfl | hy
    · exact fun _ he => hne (Go.Proofs.YtdfadmhomjcmeaaGreatDoor.str_inj he)
    · exact h y hy
theorem neC_layAt {K : List Kd} (h : ∀ d ∈ K, NeC d.T) (i : Nat) (t : Ty) (r : Int) (n : Nat) : ∀ d ∈ (layAt K i t r n).1, NeC d.T := by
  unfold layAt
  split
  · exact h
  · rename_i k hk
    intro d hd
    rcases List.mem_or_eq_of_mem_set hd with hd | rfl
    · exact h d hd
    · exact neC_lay (h k (List.mem_of_getElem? hk)) _ _ _ _ _ _
theorem neC_layAll : ∀ (W : List Wish) (K : List Kd) (n : Nat), (∀ d ∈ K, NeC d.T) → ∀ d ∈ (layAll W K n).1, NeC d.T
  | [], K, n, h => h
  | (i, t, r) :: W, K, n, h => neC_layAll W _ _ (neC_layAt h i t r n)
theorem neC_body {K : List Kd} (h : ∀ d ∈ K, NeC d.T) : NeC (body K) := by
  intro y hy
  obtain ⟨l, hl, hy⟩ := List.mem_flatten.1 hy
  obtain ⟨d, hd, rfl⟩ := List.mem_map.1 hl
  exact h d hd y hy
theorem neC_insF (ts : Nat → Ty) : ∀ (f : F) (g : Nat → List ByteArray) (k p n : Nat), (∀ y ∈ f.flat, may y = true) → ∀ d ∈ (insF ts f g k p n).1, NeC d.T
  | .nil, _, _, _, _, _ => fun d hd => by cases hd
  | .cons x ks r, g, k, p, n, hm => by
    have i1 := neC_insF ts ks (fun j => innerN x j (g k)) 0 (p + 1) n (fun y hy => hm y (by simp [F.flat, hy]))
    have i2 := neC_insF ts r g (k + 1) (p + 1 + ks.flat.length) (n + (ins1 ts x ks (g k) p n).2.length) (fun y hy => hm y (by simp [F.flat, hy]))
    have h30 : x.kind ≠ 30 := (may_words (hm x (by simp [F.flat]))).1
    rw [insF_cons]
    intro d hd
    rcases List.mem_cons.1 hd with rfl | hd
    · simp only
      unfold ins1
      simp only
      generalize insF ts ks (fun j => innerN x j (g k)) 0 (p + 1) n = A at *
      unfold node
      split
      · split
        · intro y hy; cases hy
        · rename_i k' K' hA
          exact neC_lay (i1 k' (by rw [hA]; exact List.mem_cons_self)) _ _ _ _ _ _
      · intro y hy
        rcases List.mem_cons.1 hy with rfl | hy
        · exact fun h => absurd h h30
        · exact neC_body (neC_layAll _ _ _ i1) y hy
    · exact i2 d hd
theorem nums_get : ∀ (S : List Sit) (n : Nat) (a : Int × Int × Int), a ∈ nums n S ↔ ∃ (j : Nat) (s : Sit), S[j]? = some s ∧ a = (((n + j + 1 : Nat) : Int), s.1, s.2.1)
  | [], n, a => by simp [nums]
  | s :: S, n, a => by
    have e : nums n (s :: S) = (((n + 1 : Nat) : Int), s.1, s.2.1) :: nums (n + 1) S := rfl
    rw [e, List.mem_cons, nums_get S (n + 1) a]
    constructor
    · rintro (rfl | ⟨j, s', h1, rfl⟩)
      · exact ⟨0, s, rfl, rfl⟩
      · exact ⟨j + 1, s', h1, by rw [show n + 1 + j + 1 = n + (j + 1) + 1 by omega]⟩
    · rintro ⟨j, s', h1, rfl⟩
      cases j with
      | zero =>
        simp only [List.getElem?_cons_zero, Option.some.injEq] at h1
        subst h1
        exact .inl rfl
      | succ j => exact .inr ⟨j, s', h1, by rw [show n + 1 + j + 1 = n + (j + 1) + 1 by omega]⟩
theorem nums_nodup : ∀ (S : List Sit) (n : Nat), ((nums n S).map Prod.fst).Nodup
  | [], n => List.nodup_nil
  | s :: S, n => by
    have e : nums n (s :: S) = (((n + 1 : Nat) : Int), s.1, s.2.1) :: nums (n + 1) S := rfl
    rw [e, List.map_cons, List.nodup_cons]
    refine ⟨fun h => ?_, nums_nodup S (n + 1)⟩
    obtain ⟨a, ha, he⟩ := List.mem_map.1 h
    obtain ⟨j, s', _, rfl⟩ := (nums_get S (n + 1) a).1 ha
    simp only at he
    omega
/-- The casts' labels. -/
def labN (T : List Nd) : List Int := (T.filter fun y => y.kind == 30).map fun y => y.n
theorem labN_labs (T : List Nd) : labN T = (labs T).map Prod.fst := by
  unfold labN labs
  rw [List.map_map]
  rfl
theorem labN_take {T : List Nd} {k : Nat} {y : Nd} (h : T[k]? = some y) : labN (T.take (k + 1)) = labN (T.take k) ++ (if y.kind = 30 then [y.n] else []) := by
  have hj := (List.getElem?_eq_some_iff.1 h).1
  have he : T[k] = y := by rw [List.getElem?_eq_getElem hj] at h; exact Option.some.inj h
  rw [List.take_succ_eq_append_getElem hj, he]
  unfold labN
  rw [List.filter_append, List.map_append]
  congr 1
  by_cases h30 : y.kind = 30 <;> simp [h30]
/-- What the statement asks of a term and its sites. -/
structure Made (T : List Nd) (S : List Sit) (t : Ty) : Prop where
  ok : checkM T = .ok t
  cast : ∀ y ∈ T, y.kind = 30 → (∃ s u : Ty, y.t = s.str ∧ y.u = u.str ∧ s.fits ∧ u.fits ∧ cons s u = true ∧ s ≠ u) ∧ ∃ (j : Nat) (s : Sit), S[j]? = some s ∧ y.n = ((j + 1 : Nat) : Int) ∧ y.line = s.1 ∧ y.col = s.2.1
  once : (labN T).Nodup
  all : ∀ j, j < S.length → ((j + 1 : Nat) : Int) ∈ labN T
theorem made_of {x : Nd} {ks : F} {L : List Ty} {ts : Nat → Ty} (hO : (F.cons x ks .nil).Ok) (hm : ∀ y ∈ x :: ks.flat, may y = true) (hT : (x :: ks.flat).length ≤ 400) (hL : chk1 false x ks [] 0 = .ok L) (hts : Agr ts 0 L) : Made (ins1 ts x ks [] 0 0).1 (ins1 ts x ks [] 0 0).2 (L.headD .dyn) := by
  unfold chk1 at hL
  cases hc : chk false (.cons x ks .nil) (fun _ => []) 0 0 with
  | error b => rw [hc] at hL; cases hL
  | ok K =>
    rw [hc] at hL
    injection hL with hL
    have hfl : (F.cons x ks .nil).flat = x :: ks.flat := by simp [F.flat]
    have hmf : ∀ y ∈ (F.cons x ks .nil).flat, may y = true := by rw [hfl]; exact hm
    have hlen : (F.cons x ks .nil).flat.length ≤ 400 := by rw [hfl]; exact hT
    have h1 := ins_ok ts (.cons x ks .nil) (fun _ => []) 0 0 0 K hmf hO hc (by rw [hL]; exact hts) (by omega)
    have h2 := labs_insF ts (.cons x ks .nil) (fun _ => []) 0 0 0 hmf hO
    have h3 := size_insF ts (.cons x ks .nil) (fun _ => []) 0 0 0
    have h4 := sites_le ts (.cons x ks .nil) (fun _ => []) 0 0 0 hmf hO
    have h5 := neC_insF ts (.cons x ks .nil) (fun _ => []) 0 0 0 hmf
    simp only [List.map_nil] at h1
    rw [insF_cons] at h1 h2 h3 h4 h5
    simp only [insF, List.append_nil, body, List.map_cons, List.map_nil, List.flatten_cons, List.flatten_nil] at h2 h3 h4
    have hO1 := (h1 0 _ rfl).1
    simp only [List.map_nil] at hO1
    have hN1 := h5 _ List.mem_cons_self
    simp only at hO1 hN1
    have ht0 : ts 0 = L.headD .dyn := by
      obtain ⟨K1, t, R, _, _, _, _, _, rfl⟩ := F.chk_cons hc
      have := hts 0 t (by rw [← hL]; simp)
      rw [Nat.zero_add] at this
      rw [this, ← hL]
      simp
    rw [ht0] at hO1
    generalize (ins1 ts x ks [] 0 0).1 = R at *
    generalize (ins1 ts x ks [] 0 0).2 = S at *
    have hRl : R.length ≤ 800 := by omega
    have hrun := hO1 R 0 (fun i y hy => by rw [Nat.zero_add]; exact hy) 1024 (by omega)
    rw [Nat.zero_add] at hrun
    have hperm : (labN R).Perm ((nums 0 S).map Prod.fst) := by rw [labN_labs]; exact h2.map _
    refine ⟨?_, fun y hy h30 => ?_, ?_, fun j hj => ?_⟩
    · unfold checkM
      rw [if_neg (by omega), hrun.1]
      simp only [if_true, hrun.2]
    · obtain ⟨i, hi⟩ := List.mem_iff_getElem?.1 hy
      have hil := (List.getElem?_eq_some_iff.1 hi).1
      obtain ⟨y', b, hy', hw⟩ := typed_words R 1024 [] 0 _ _ hrun.2 i (Nat.zero_le _) hil
      rw [hi] at hy'
      injection hy' with hy'
      subst hy'
      obtain ⟨s, u, e1, e2, f1, f2, hcs, hn⟩ := cast_words hw h30
      have hne := hN1 y hy h30
      refine ⟨⟨s, u, e1, e2, f1, f2, hcs, fun h => hne (by rw [e1, e2, h])⟩, ?_⟩
      have hmem : (y.n, y.line, y.col) ∈ labs R := by
        unfold labs
        rw [List.mem_map]
        exact ⟨y, List.mem_filter.2 ⟨hy, by simp [h30]⟩, rfl⟩
      obtain ⟨j, s', hs, he⟩ := (nums_get S 0 _).1 (h2.mem_iff.1 hmem)
      simp only [Prod.mk.injEq] at he
      exact ⟨j, s', hs, by rw [he.1, Nat.zero_add], he.2.1, he.2.2⟩
    · exact hperm.nodup_iff.2 (nums_nodup S 0)
    · refine hperm.mem_iff.2 (List.mem_map.2 ⟨(((0 + j + 1 : Nat) : Int), (S[j]).1, (S[j]).2.1), (nums_get S 0 _).2 ⟨j, S[j], List.getElem?_eq_getElem hj, rfl⟩, ?_⟩)
      simp only [Nat.zero_add]
end Culp.Ins

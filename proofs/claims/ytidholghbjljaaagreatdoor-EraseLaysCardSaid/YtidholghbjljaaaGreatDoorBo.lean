
/- Rows of structs that were gathered are written full, and gone on with: what holds on the way (as Bi, which is for elements of one cell). No program in sight. -/
import Derived.Test.YtidholghbjljaaaGreatDoorFq
import Derived.Deep.MidRow
import Derived.Test.YtidholghbjljaaaGreatDoorHd
namespace Culp.BagS
set_option linter.unusedSimpArgs false
set_option linter.unusedVariables false
open Go Go.RowKit

/-- The marks of the list n: the cells of each. -/
def marks (mk : Nat → Nat → List Value) (n m : Nat) : List Value := (List.range m).flatMap (mk n)
section
variable {mk : Nat → Nat → List Value} {n m k sz : Nat}
theorem marks_len (hz : ∀ n k, (mk n k).length = sz) : (marks mk n m).length = m * sz := by
  unfold marks
  induction m with
  | zero => simp
  | succ m ih => rw [List.range_succ, List.flatMap_append, List.length_append, ih]; simp [hz, Nat.succ_mul]
theorem marks_succ : marks mk n (m + 1) = marks mk n m ++ mk n m := by simp [marks, List.range_succ]
theorem marks_take (hz : ∀ n k, (mk n k).length = sz) (h : k ≤ m) : (marks mk n m).take (k * sz) = marks mk n k := by
  obtain ⟨d, rfl⟩ : ∃ d, m = k + d := ⟨m - k, by omega⟩
  have e : marks mk n (k + d) = marks mk n k ++ ((List.range d).map (k + ·)).flatMap (mk n) := by
    unfold marks
    rw [List.range_add, List.flatMap_append]
  rw [e, List.take_append_of_le_length (by rw [marks_len hz]; exact Nat.le_refl _), List.take_of_length_le (by rw [marks_len hz]; exact Nat.le_refl _)]
theorem marks_get (hz : ∀ n k, (mk n k).length = sz) (h : k < m) {i : Nat} (hi : i < sz) : (marks mk n m)[k * sz + i]? = (mk n k)[i]? := by
  have h1 := marks_take (n := n) hz (show k + 1 ≤ m from h)
  have h2 : ((marks mk n m).take ((k + 1) * sz))[k * sz + i]? = (marks mk n m)[k * sz + i]? := by
    rw [List.getElem?_take, if_pos (by rw [Nat.succ_mul]; omega)]
  rw [← h2, h1, marks_succ, List.getElem?_append_right (by rw [marks_len hz]; omega), marks_len hz, Nat.add_sub_cancel_left]
end
/-- What one append does. -/
structure Grew (base : Nat) (e : TypeId) (sz : Nat) (w w' : World) (l l' : Value) (n : Nat) (xs us : List Value) : Prop where
  own : w'.ownsRow base e sz l' (n + 1) (xs ++ us)
  grown : w.grownBy w' l.ownBlock
  below : Below base w w'
  at_ : l'.ownBlock = l.ownBlock ∨ ∃ b, l'.ownBlock = some b ∧ w.heap.size < b
  hold : ∀ X b m ys, w.ownsRow b e sz X m ys → (∀ k, X.ownBlock = some k → l.ownBlock = some k → m ≤ n ∧ ys = xs.take (m * sz)) → w'.ownsRow b e sz X m ys
section
variable (e se : TypeId) (sz B W : Nat) (R : List Value) (L : Nat → Nat) (mk : Nat → Nat → List Value)
/-- The first phase: rows are overwritten. -/
def Ph1 (n k : Nat) (w : World) : Prop := ∀ j v, R[j]? = some v → ∃ xs, w.ownsRow B e sz v (L j) xs ∧ (j < n → xs = marks mk j (L j)) ∧ (j = n → xs.take (k * sz) = marks mk n k)
/-- The second phase: rows are gone on with. -/
structure Ph2 (bv : Value) (n : Nat) (one more : Value) (Us Vs : List Value) (w : World) : Prop where
  lu : Us.length = n
  lv : Vs.length = n
  hbag : w.ownsRow B se 1 bv R.length R
  hone : w.ownsRow W se 1 one n Us
  hmore : w.ownsRow W se 1 more n Vs
  om : Apart one more
  ob : Apart one bv
  mb : Apart more bv
  row : ∀ j v, R[j]? = some v → w.ownsRow B e sz v (L j) (marks mk j (L j))
  us : ∀ k u, Us[k]? = some u → w.ownsRow B e sz u (L k + 1) (marks mk k (L k + 1)) ∧ ∀ j v, n ≤ j → R[j]? = some v → Apart v u
  vs : ∀ k u, Vs[k]? = some u → w.ownsRow B e sz u (L k + 70) (marks mk k (L k + 70)) ∧ ∀ j v, n ≤ j → R[j]? = some v → Apart v u
/-- Within a row of the second phase. -/
structure In (bv : Value) (n t : Nat) (l one more : Value) (Us Vs : List Value) (w : World) : Prop where
  lu : Us.length = n + min t 1
  lv : Vs.length = n
  hbag : w.ownsRow B se 1 bv R.length R
  hone : w.ownsRow W se 1 one Us.length Us
  hmore : w.ownsRow W se 1 more n Vs
  om : Apart one more
  ob : Apart one bv
  mb : Apart more bv
  own : w.ownsRow B e sz l (L n + t) (marks mk n (L n + t))
  row : ∀ j v, R[j]? = some v → w.ownsRow B e sz v (L j) (marks mk j (L j))
  us : ∀ k u, Us[k]? = some u → w.ownsRow B e sz u (L k + 1) (marks mk k (L k + 1)) ∧ ∀ j v, n < j → R[j]? = some v → Apart v u
  vs : ∀ k u, Vs[k]? = some u → w.ownsRow B e sz u (L k + 70) (marks mk k (L k + 70)) ∧ ∀ j v, n < j → R[j]? = some v → Apart v u
  lrow : ∀ (j : Nat) (v : Value), j ≠ n → R[j]? = some v → Apart l v
  lus : ∀ (k : Nat) (u : Value), k < n → Us[k]? = some u → Apart l u
  lvs : ∀ (k : Nat) (u : Value), Vs[k]? = some u → Apart l u
end
section
variable {e se : TypeId} {sz B W : Nat} {R : List Value} {L : Nat → Nat} {mk : Nat → Nat → List Value} {bv l l' one one' more more' v : Value} {n k t g c : Nat} {Us Vs xs : List Value} {w w' : World}
theorem Ph1.start (h : ∀ n v, R[n]? = some v → ∃ xs, w.ownsRow B e sz v (L n) xs) : Ph1 e sz B R L mk 0 0 w := by
  intro j v hv
  obtain ⟨xs, hx⟩ := h j v hv
  exact ⟨xs, hx, fun h => by omega, fun _ => by rw [Nat.zero_mul]; rfl⟩
theorem Ph1.zero (h : Ph1 e sz B R L mk n k w) : Ph1 e sz B R L mk n 0 w := by
  intro j v hv
  obtain ⟨xs, hx, h1, _⟩ := h j v hv
  exact ⟨xs, hx, h1, fun _ => by rw [Nat.zero_mul]; rfl⟩
theorem Ph1.next (h : Ph1 e sz B R L mk n (L n) w) : Ph1 e sz B R L mk (n + 1) 0 w := by
  intro j v hv
  obtain ⟨xs, hx, h1, h2⟩ := h j v hv
  refine ⟨xs, hx, fun hj => ?_, fun _ => by rw [Nat.zero_mul]; rfl⟩
  by_cases hjn : j = n
  · subst hjn
    have := h2 rfl
    rw [List.take_of_length_le (by have := hx.1; omega)] at this
    exact this
  · exact h1 (by omega)
/-- A row with one of its elements written over. -/
theorem own_over {w : World} {base n c g k sz : Nat} {e : TypeId} {xs us : List Value} (h : w.ownsRow base e sz (.slice (some ⟨g, 0, none⟩) n c) n xs) (hk : k < n) (hu : us.length = sz) {w' : World} (hk' : Keep g w w')
    (hc : ∀ cur fr, w.heap[g]? = some (.cells cur e fr) → w'.heap[g]? = some (.cells ((cur.toList.take (k * sz) ++ us ++ cur.toList.drop (k * sz + sz)).toArray) e fr)) : w'.ownsRow base e sz (.slice (some ⟨g, 0, none⟩) n c) n (xs.take (k * sz) ++ us ++ xs.drop (k * sz + sz)) := by
  have hl := h.1
  have hkn : k * sz + sz ≤ n * sz := by rw [← Nat.succ_mul]; exact Nat.mul_le_mul_right _ hk
  refine ⟨by simp only [List.length_append, List.length_take, List.length_drop]; omega, ?_⟩
  rcases h.2 with ⟨e1, _⟩ | ⟨g', cap, cur, e1, hb, hh, h1, h2, h3, h4⟩
  · cases e1
  · simp only [Value.slice.injEq, Option.some.injEq, Addr.mk.injEq] at e1
    obtain ⟨⟨rfl, _, _⟩, _, rfl⟩ := e1
    have hcs : n * sz ≤ cur.size := by rw [h3]; exact Nat.mul_le_mul_right _ h1
    refine .inr ⟨g, c, _, rfl, hb, hc _ _ hh, h1, h2, ?_, ?_⟩
    · simp only [List.size_toArray, List.length_append, List.length_take, List.length_drop, Array.length_toList]
      omega
    · have e2 : xs.take (k * sz) = cur.toList.take (k * sz) := by rw [← h4, List.take_take, Nat.min_eq_left (by omega)]
      have e3 : xs.drop (k * sz + sz) = (cur.toList.drop (k * sz + sz)).take (n * sz - (k * sz + sz)) := by rw [← h4, List.drop_take]
      rw [e2, e3]
      have hla : (cur.toList.take (k * sz) ++ us).length = k * sz + sz := by rw [List.length_append, List.length_take, Array.length_toList]; omega
      show List.take (n * sz) (cur.toList.take (k * sz) ++ us ++ cur.toList.drop (k * sz + sz)) = _
      rw [List.take_append, hla, List.take_of_length_le (by omega)]
theorem Ph1.set (hz : ∀ n k, (mk n k).length = sz) (h : Ph1 e sz B R L mk n k w) (hA : ∀ (i j : Nat) (u v : Value), i ≠ j → R[i]? = some u → R[j]? = some v → Apart u v) (hv : R[n]? = some (.slice (some ⟨g, 0, none⟩) (L n) c)) (hk : k < L n) {w' : World} (hk' : Keep g w w')
    (hc : ∀ cur fr, w.heap[g]? = some (.cells cur e fr) → w'.heap[g]? = some (.cells ((cur.toList.take (k * sz) ++ mk n k ++ cur.toList.drop (k * sz + sz)).toArray) e fr)) : Ph1 e sz B R L mk n (k + 1) w' := by
  intro j u hu
  obtain ⟨xs, hx, h1, h2⟩ := h j u hu
  by_cases hjn : j = n
  · subst hjn
    rw [hv] at hu
    injection hu with hu
    subst hu
    refine ⟨_, own_over hx hk (hz j k) hk' hc, fun h => by omega, fun _ => ?_⟩
    have hl : (k + 1) * sz ≤ xs.length := by have := hx.1; rw [this]; exact Nat.mul_le_mul_right _ hk
    rw [Nat.succ_mul] at hl ⊢
    have hla : (xs.take (k * sz) ++ mk j k).length = k * sz + sz := by rw [List.length_append, List.length_take, hz]; omega
    rw [List.take_append_of_le_length (by rw [hla]; exact Nat.le_refl _), List.take_of_length_le (by rw [hla]; exact Nat.le_refl _), h2 rfl, marks_succ]
  · refine ⟨xs, own_apart_keep hx hk' (fun he => ?_), h1, fun h => absurd h hjn⟩
    exact hA n j _ _ (fun h => hjn h.symm) hv hu g rfl he
theorem Ph1.form (h : Ph1 e sz B R L mk n k w) (hv : R[n]? = some v) : ∃ A c, v = .slice A (L n) c := by
  obtain ⟨xs, hx, _⟩ := h n v hv
  exact own_shape hx
theorem Ph2.start (h : Ph1 e sz B R L mk R.length 0 w) (hb : w.ownsRow B se 1 bv R.length R) : Ph2 e se sz B W R L mk bv 0 (.slice none 0 0) (.slice none 0 0) [] [] w where
  lu := rfl
  lv := rfl
  hbag := hb
  hone := World.ownsRow_nil _ _ _ _
  hmore := World.ownsRow_nil _ _ _ _
  om := fun k hk => by cases hk
  ob := fun k hk => by cases hk
  mb := fun k hk => by cases hk
  row := fun j v hv => by
    obtain ⟨xs, hx, h1, _⟩ := h j v hv
    rw [← h1 (List.getElem?_eq_some_iff.1 hv).1]
    exact hx
  us := fun k u hu => by simp at hu
  vs := fun k u hu => by simp at hu
theorem In.start (h : Ph2 e se sz B W R L mk bv n one more Us Vs w) (hA : ∀ (i j : Nat) (u v : Value), i ≠ j → R[i]? = some u → R[j]? = some v → Apart u v) (hv : R[n]? = some v) : In e se sz B W R L mk bv n 0 v one more Us Vs w where
  lu := h.lu
  lv := h.lv
  hbag := h.hbag
  hone := by rw [h.lu]; exact h.hone
  hmore := h.hmore
  om := h.om
  ob := h.ob
  mb := h.mb
  own := h.row n v hv
  row := h.row
  us := fun k u hu => ⟨(h.us k u hu).1, fun j v hj => (h.us k u hu).2 j v (by omega)⟩
  vs := fun k u hu => ⟨(h.vs k u hu).1, fun j v hj => (h.vs k u hu).2 j v (by omega)⟩
  lrow := fun j u hj hu => hA n j v u (fun h => hj h.symm) hv hu
  lus := fun k u _ hu => (h.us k u hu).2 n v (Nat.le_refl _) hv
  lvs := fun k u hu => (h.vs k u hu).2 n v (Nat.le_refl _) hv
/-- One more mark. -/
theorem In.push (hne : e ≠ se) (hz : ∀ n k, (mk n k).length = sz) (h : In e se sz B W R L mk bv n t l one more Us Vs w) (ht : t = 0 → Us.length = n) (hA : ∀ (i j : Nat) (u v : Value), i ≠ j → R[i]? = some u → R[j]? = some v → Apart u v) (G : Grew B e sz w w' l l' (L n + t) (marks mk n (L n + t)) (mk n (L n + t))) (ht1 : 0 < t) :
    In e se sz B W R L mk bv n (t + 1) l' one more Us Vs w' where
  lu := by have := h.lu; omega
  lv := h.lv
  hbag := own_other h.hbag G.grown (own_apart_type h.own h.hbag hne)
  hone := own_other h.hone G.grown (own_apart_type h.own h.hone hne)
  hmore := own_other h.hmore G.grown (own_apart_type h.own h.hmore hne)
  om := h.om
  ob := h.ob
  mb := h.mb
  own := by rw [← Nat.add_assoc, marks_succ]; exact G.own
  row := fun j u hu => G.hold u _ _ _ (h.row j u hu) fun k hk hl => by
    by_cases hj : j = n
    · subst hj
      exact ⟨by omega, by rw [marks_take hz (by omega)]⟩
    · exact absurd hk (h.lrow j u hj hu k hl)
  us := fun k u hu => ⟨G.hold u _ _ _ (h.us k u hu).1 fun i hi hl => by
    by_cases hk : k < n
    · exact absurd hi (h.lus k u hk hu i hl)
    · have := (List.getElem?_eq_some_iff.1 hu).1
      have := h.lu
      obtain rfl : k = n := by omega
      exact ⟨by omega, by rw [marks_take hz (by omega)]⟩, (h.us k u hu).2⟩
  vs := fun k u hu => ⟨G.hold u _ _ _ (h.vs k u hu).1 fun i hi hl => absurd hi (h.lvs k u hu i hl), (h.vs k u hu).2⟩
  lrow := fun j u hj hu => (h.lrow j u hj hu).grow' (h.row j u hu) G.at_
  lus := fun k u hk hu => (h.lus k u hk hu).grow' (h.us k u hu).1 G.at_
  lvs := fun k u hu => (h.lvs k u hu).grow' (h.vs k u hu).1 G.at_
/-- The first mark, and the row as it is then, kept. -/
theorem In.first (hne : e ≠ se) (hz : ∀ n k, (mk n k).length = sz) (h : In e se sz B W R L mk bv n 0 l one more Us Vs w) (G : Grew B e sz w w' l l' (L n + 0) (marks mk n (L n + 0)) (mk n (L n + 0))) {w2 : World} (G2 : Grew W se 1 w' w2 one one' n Us [l']) (hbW : B ≤ W) :
    In e se sz B W R L mk bv n 1 l' one' more (Us ++ [l']) Vs w2 := by
  have hlu : Us.length = n := h.lu
  have hbag := own_other h.hbag G.grown (own_apart_type h.own h.hbag hne)
  have hone := own_other h.hone G.grown (own_apart_type h.own h.hone hne)
  have hmore := own_other h.hmore G.grown (own_apart_type h.own h.hmore hne)
  have hrow : ∀ j u, R[j]? = some u → w'.ownsRow B e sz u (L j) (marks mk j (L j)) := fun j u hu => G.hold u _ _ _ (h.row j u hu) fun k hk hl => by
    by_cases hj : j = n
    · subst hj
      exact ⟨by omega, by rw [marks_take hz (by omega)]⟩
    · exact absurd hk (h.lrow j u hj hu k hl)
  have hlt : ∀ k u, Us[k]? = some u → k < n := fun k u hu => by have := (List.getElem?_eq_some_iff.1 hu).1; omega
  have hus : ∀ k u, Us[k]? = some u → w'.ownsRow B e sz u (L k + 1) (marks mk k (L k + 1)) := fun k u hu => G.hold u _ _ _ (h.us k u hu).1 fun i hi hl => absurd hi (h.lus k u (hlt k u hu) hu i hl)
  have hvs : ∀ k u, Vs[k]? = some u → w'.ownsRow B e sz u (L k + 70) (marks mk k (L k + 70)) := fun k u hu => G.hold u _ _ _ (h.vs k u hu).1 fun i hi hl => absurd hi (h.lvs k u hu i hl)
  have hl' : w'.ownsRow B e sz l' (L n + 1) (marks mk n (L n + 1)) := by rw [marks_succ]; exact G.own
  have hst : ∀ {X m ys}, w'.ownsRow B e sz X m ys → w2.ownsRow B e sz X m ys := fun hX => own_other hX G2.grown (own_apart_type hone hX (fun h => hne h.symm))
  have hnth : ∀ k u, (Us ++ [l'])[k]? = some u → (k < n ∧ Us[k]? = some u) ∨ (k = n ∧ u = l') := fun k u hu => by
    by_cases hk : k < n
    · exact .inl ⟨hk, by rwa [List.getElem?_append_left (by omega)] at hu⟩
    · have hk2 := (List.getElem?_eq_some_iff.1 hu).1
      rw [List.length_append, List.length_singleton] at hk2
      obtain rfl : k = n := by omega
      rw [List.getElem?_append_right (by omega), hlu, Nat.sub_self] at hu
      simp at hu
      exact .inr ⟨rfl, hu.symm⟩
  exact
    { lu := by rw [List.length_append, hlu]; rfl
      lv := h.lv
      hbag := G2.hold _ _ _ _ hbag fun k hk hl => absurd hk (h.ob k hl)
      hone := by rw [List.length_append, hlu]; exact G2.own
      hmore := G2.hold _ _ _ _ hmore fun k hk hl => absurd hk (h.om k hl)
      om := h.om.grow' hmore G2.at_
      ob := h.ob.grow' hbag G2.at_
      mb := h.mb
      own := hst hl'
      row := fun j u hu => hst (hrow j u hu)
      us := fun k u hu => by
        rcases hnth k u hu with ⟨hk, hu⟩ | ⟨rfl, rfl⟩
        · exact ⟨hst (hus k u hu), (h.us k u hu).2⟩
        · exact ⟨hst hl', fun j v hj hv => ((h.lrow j v (by omega) hv).grow' (h.row j v hv) G.at_).symm⟩
      vs := fun k u hu => ⟨hst (hvs k u hu), (h.vs k u hu).2⟩
      lrow := fun j u hj hu => (h.lrow j u hj hu).grow' (h.row j u hu) G.at_
      lus := fun k u hk hu => by
        rcases hnth k u hu with ⟨hk, hu⟩ | ⟨rfl, _⟩
        · exact (h.lus k u hk hu).grow' (h.us k u hu).1 G.at_
        · omega
      lvs := fun k u hu => (h.lvs k u hu).grow' (h.vs k u hu).1 G.at_ }
/-- The row is full: on to the next. -/
theorem In.done (hne : e ≠ se) (h : In e se sz B W R L mk bv n 70 l one more Us Vs w) (G : Grew W se 1 w w' more more' n Vs [l]) :
    Ph2 e se sz B W R L mk bv (n + 1) one more' Us (Vs ++ [l]) w' := by
  have hst : ∀ {X m ys}, w.ownsRow B e sz X m ys → w'.ownsRow B e sz X m ys := fun hX => own_other hX G.grown (own_apart_type h.hmore hX (fun h => hne h.symm))
  have hlu : Us.length = n + 1 := h.lu
  exact
    { lu := hlu
      lv := by rw [List.length_append, h.lv]; rfl
      hbag := G.hold _ _ _ _ h.hbag fun k hk hl => absurd hk (h.mb k hl)
      hone := by
        have := G.hold _ _ _ _ h.hone fun k hk hl => absurd hl (h.om k hk)
        rw [hlu] at this
        exact this
      hmore := G.own
      om := (h.om.symm.grow' h.hone G.at_).symm
      ob := h.ob
      mb := h.mb.grow' h.hbag G.at_
      row := fun j u hu => hst (h.row j u hu)
      us := fun k u hu => ⟨hst (h.us k u hu).1, fun j v hj => (h.us k u hu).2 j v (by omega)⟩
      vs := fun k u hu => by
        by_cases hk : k < n
        · rw [List.getElem?_append_left (by rw [h.lv]; exact hk)] at hu
          exact ⟨hst (h.vs k u hu).1, fun j v hj => (h.vs k u hu).2 j v (by omega)⟩
        · have hk2 := (List.getElem?_eq_some_iff.1 hu).1
          rw [List.length_append, List.length_singleton, h.lv] at hk2
          obtain rfl : k = n := by omega
          rw [List.getElem?_append_right (by rw [h.lv]; omega), h.lv, Nat.sub_self] at hu
          simp at hu
          subst hu
          exact ⟨hst h.own, fun j v hj hv => (h.lrow j v (by omega) hv).symm⟩ }
end
end Culp.BagS

/- Rows of structs in a bag: what stays; a struct is written over. No program in sight. -/
namespace Culp.BagS
set_option linter.unusedSimpArgs false
set_option linter.unusedVariables false
open Go Go.RowKit
section
variable {e se : TypeId} {sz B W : Nat} {R : List Value} {L : Nat → Nat} {mk : Nat → Nat → List Value} {bv l one more v : Value} {n k t g c : Nat} {Us Vs xs : List Value} {w w' : World}
theorem Ph1.later (h : Ph1 e sz B R L mk n k w) (hb : Below w.heap.size w w') : Ph1 e sz B R L mk n k w' := fun j v hv => by
  obtain ⟨xs, hx, h1⟩ := h j v hv
  exact ⟨xs, own_later hx hb, h1⟩
theorem Ph2.later (h : Ph2 e se sz B W R L mk bv n one more Us Vs w) (hb : Below w.heap.size w w') : Ph2 e se sz B W R L mk bv n one more Us Vs w' :=
  { h with
    hbag := own_later h.hbag hb
    hone := own_later h.hone hb
    hmore := own_later h.hmore hb
    row := fun j v hv => own_later (h.row j v hv) hb
    us := fun k u hu => ⟨own_later (h.us k u hu).1 hb, (h.us k u hu).2⟩
    vs := fun k u hu => ⟨own_later (h.vs k u hu).1 hb, (h.vs k u hu).2⟩ }
theorem In.later (h : In e se sz B W R L mk bv n t l one more Us Vs w) (hb : Below w.heap.size w w') : In e se sz B W R L mk bv n t l one more Us Vs w' :=
  { h with
    hbag := own_later h.hbag hb
    hone := own_later h.hone hb
    hmore := own_later h.hmore hb
    own := own_later h.own hb
    row := fun j v hv => own_later (h.row j v hv) hb
    us := fun k u hu => ⟨own_later (h.us k u hu).1 hb, (h.us k u hu).2⟩
    vs := fun k u hu => ⟨own_later (h.vs k u hu).1 hb, (h.vs k u hu).2⟩ }
end
/-- All blocks but those of one element type stay. -/
def Stays (e : TypeId) (w w' : World) : Prop := ∀ (g : Nat) (o : Obj), w.heap[g]? = some o → (∀ cs fr, o ≠ .cells cs e fr) → w'.heap[g]? = some o
section
variable {e e2 : TypeId} {sz B n : Nat} {v : Value} {xs : List Value} {w0 w w' : World}
theorem Stays.refl (e : TypeId) (w : World) : Stays e w w := fun _ _ h _ => h
theorem Stays.trans {w2 : World} (h : Stays e w w') (k : Stays e w' w2) : Stays e w w2 := fun g o hg ho => k g o (h g o hg ho) ho
theorem Stays.below (h : Stays e w0 w) (hb : Below w.heap.size w w') : Stays e w0 w' := fun g o hg ho => by
  have := h g o hg ho
  exact (hb.block g (Array.getElem?_eq_some_iff.1 this).1).trans this
theorem Stays.grown (h : Stays e w0 w) (hr : w.ownsRow B e sz v n xs) (hg : w.grownBy w' v.ownBlock) : Stays e w0 w' := fun g o h0 ho => by
  have h1 := h g o h0 ho
  refine (hg.block g (Array.getElem?_eq_some_iff.1 h1).1 fun he => ?_).trans h1
  refine own_ne hr (fun cur hc => ?_) he.symm
  rw [h1] at hc
  injection hc with hc
  exact ho _ _ hc
theorem Stays.grown_new (h : Stays e w0 w) (hr : w.ownsRow w0.heap.size e2 sz v n xs) (hg : w.grownBy w' v.ownBlock) : Stays e w0 w' := fun g o h0 ho => by
  have h1 := h g o h0 ho
  refine (hg.block g (Array.getElem?_eq_some_iff.1 h1).1 fun he => ?_).trans h1
  have h2 := (hr.lt g he.symm).1
  have h3 := (Array.getElem?_eq_some_iff.1 h0).1
  omega
theorem Stays.keep {r : Nat} {cur : Array Value} {fr : Nat × Nat} (h : Stays e w0 w) (hr : w.heap[r]? = some (.cells cur e fr)) (hk : Keep r w w') : Stays e w0 w' := fun g o h0 ho => by
  have h1 := h g o h0 ho
  refine (hk.block g (Array.getElem?_eq_some_iff.1 h1).1 fun he => ?_).trans h1
  subst he
  rw [h1] at hr
  injection hr with hr
  exact ho _ _ hr
theorem Stays.own (h : Stays e w w') (hr : w.ownsRow B e2 sz v n xs) (hne : e2 ≠ e) : w'.ownsRow B e2 sz v n xs := by
  refine ⟨hr.1, ?_⟩
  rcases hr.2 with h2 | ⟨g, cap, cur, rfl, hb, hh, h3⟩
  · exact .inl h2
  · exact .inr ⟨g, cap, cur, rfl, hb, h g _ hh (fun cs fr he => by simp only [Obj.cells.injEq] at he; exact hne he.2.1), h3⟩
end
theorem setCells_keep (g : Nat) : ∀ (us : List Value) (o : Nat) (w : World), Keep g w (w.setCells g o us)
  | [], _, w => Keep.refl g w
  | v :: r, o, w => ((Keep.refl g w).setCell o v).trans (setCells_keep g r (o + 1) _)
theorem setCells_heap (g : Nat) {e : TypeId} {fr : Nat × Nat} : ∀ (us : List Value) (o : Nat) (w : World) (cur : Array Value), w.heap[g]? = some (.cells cur e fr) → o + us.length ≤ cur.size →
    (w.setCells g o us).heap[g]? = some (.cells (cur.toList.take o ++ us ++ cur.toList.drop (o + us.length)).toArray e fr)
  | [], o, w, cur, h, _ => by
    simp only [World.setCells, List.append_nil, List.length_nil, Nat.add_zero, List.take_append_drop]
    exact h
  | v :: r, o, w, cur, h, ho => by
    simp only [List.length_cons] at ho
    have h1 : (w.setCell ⟨g, o, none⟩ v).heap[g]? = some (.cells (cur.setIfInBounds o v) e fr) := by simp [World.setCell, Array.getElem?_modify, h]
    have := setCells_heap g r (o + 1) _ _ h1 (by simp; omega)
    rw [World.setCells, this]
    have hol : o < cur.toList.length := by rw [Array.length_toList]; omega
    have e1 : (cur.setIfInBounds o v).toList.take (o + 1) = cur.toList.take o ++ [v] := by
      rw [Array.toList_setIfInBounds, List.take_succ_eq_append_getElem (by rw [List.length_set]; exact hol), List.take_set_of_le (Nat.le_refl _)]
      simp
    have e2 : (cur.setIfInBounds o v).toList.drop (o + 1 + r.length) = cur.toList.drop (o + (v :: r).length) := by
      rw [Array.toList_setIfInBounds, List.drop_set_of_lt (by omega), List.length_cons, Nat.add_assoc, Nat.add_comm 1]
    rw [e1, e2, List.append_assoc (cur.toList.take o) [v] r]
    rfl
section
variable {e : TypeId} {sz B n g c k : Nat} {xs us : List Value} {w : World}
theorem own_block {v : Value} (h : w.ownsRow B e sz v n xs) (hn : 0 < n) : ∃ g c cur, v = .slice (some ⟨g, 0, none⟩) n c ∧ B ≤ g ∧ w.heap[g]? = some (.cells cur e (0, 0)) ∧ n * sz ≤ cur.size ∧ cur.toList.take (n * sz) = xs := by
  rcases h.2 with ⟨_, h0⟩ | ⟨g, cap, cur, rfl, hb, hh, h1, h2, h3, h4⟩
  · omega
  · exact ⟨g, cap, cur, rfl, hb, hh, by rw [h3]; exact Nat.mul_le_mul_right _ h1, h4⟩
theorem own_there (h : w.ownsRow B e sz (.slice (some ⟨g, 0, none⟩) n c) n xs) (hk : k < n) : w.there g (k * sz) sz := by
  obtain ⟨g', c', cur, e1, _, hh, hs, _⟩ := own_block h (by omega)
  simp only [Value.slice.injEq, Option.some.injEq, Addr.mk.injEq] at e1
  obtain ⟨⟨rfl, _⟩, _, rfl⟩ := e1
  have hkn : k * sz + sz ≤ n * sz := by rw [← Nat.succ_mul]; exact Nat.mul_le_mul_right _ hk
  intro j hj
  have hl : k * sz + j < cur.size := by omega
  exact ⟨by simp [World.cell?, hh, hl], by simp [World.frozen?, hh]⟩
theorem own_at (h : w.ownsRow B e sz (.slice (some ⟨g, 0, none⟩) n c) n xs) {i : Nat} {u : Value} (hk : k < n) (hi : i < sz) (hx : xs[k * sz + i]? = some u) : w.cell? ⟨g, k * sz + i, none⟩ = some u := by
  obtain ⟨g', c', cur, e1, _, hh, hs, ht⟩ := own_block h (by omega)
  simp only [Value.slice.injEq, Option.some.injEq, Addr.mk.injEq] at e1
  obtain ⟨⟨rfl, _⟩, _, rfl⟩ := e1
  rw [← ht, List.getElem?_take] at hx
  split at hx
  · simp only [World.cell?, hh]; simpa using hx
  · cases hx
theorem own_mark {mk : Nat → Nat → List Value} {m i : Nat} {u : Value} (hz : ∀ n k, (mk n k).length = sz) (h : w.ownsRow B e sz (.slice (some ⟨g, 0, none⟩) n c) n (marks mk m n)) (hk : k < n) (hu : (mk m k)[i]? = some u) : w.cell? ⟨g, k * sz + i, none⟩ = some u := by
  have hi : i < sz := by
    have := (List.getElem?_eq_some_iff.1 hu).1
    rwa [hz] at this
  exact own_at h hk hi (by rw [marks_get hz hk hi]; exact hu)
/-- What a struct's store leaves, for a row that is being written full. -/
theorem Ph1.store {R : List Value} {L : Nat → Nat} {mk : Nat → Nat → List Value} {m : Nat} (hz : ∀ n k, (mk n k).length = sz) (h : Ph1 e sz B R L mk m k w) (hA : ∀ (i j : Nat) (u v : Value), i ≠ j → R[i]? = some u → R[j]? = some v → Apart u v) (hv : R[m]? = some (.slice (some ⟨g, 0, none⟩) (L m) c)) (hk : k < L m) :
    Ph1 e sz B R L mk m (k + 1) (w.setCells g (k * sz) (mk m k)) ∧ w.there g (k * sz) sz ∧ B ≤ g ∧ (∃ cur, w.heap[g]? = some (.cells cur e (0, 0))) ∧ ∃ xs, w.ownsRow B e sz (.slice (some ⟨g, 0, none⟩) (L m) c) (L m) xs := by
  obtain ⟨xs, hx, _⟩ := h m _ hv
  obtain ⟨g', c', cur, e1, hb, hh, hs, _⟩ := own_block hx (by omega)
  simp only [Value.slice.injEq, Option.some.injEq, Addr.mk.injEq] at e1
  obtain ⟨⟨rfl, _⟩, _, rfl⟩ := e1
  have hkn : k * sz + sz ≤ L m * sz := by rw [← Nat.succ_mul]; exact Nat.mul_le_mul_right _ hk
  refine ⟨h.set hz hA hv hk (setCells_keep g _ _ _) (fun cur' fr hc => ?_), own_there hx hk, hb, ⟨cur, hh⟩, xs, hx⟩
  rw [hh] at hc
  simp only [Option.some.injEq, Obj.cells.injEq, true_and] at hc
  obtain ⟨rfl, rfl⟩ := hc
  have := setCells_heap g (mk m k) (k * sz) w cur hh (by rw [hz]; omega)
  rw [hz] at this
  exact this
end
theorem below_cells {B g : Nat} {W : World} (hg : B ≤ g) : ∀ (us : List Value) (o : Nat) (w : World), Below B W w → Below B W (w.setCells g o us)
  | [], _, _, h => h
  | v :: r, o, w, h => below_cells hg r (o + 1) _ (Below.setCell (p := ⟨g, o, none⟩) h hg v)
end Culp.BagS

/- Walks of bags: lists of structs lie apart. Printed by wip/tools/bag_structs.py. -/
namespace Go.Proofs.YtidholghbjljaaaGreatDoor
set_option linter.unusedSimpArgs false
set_option linter.unusedVariables false
open Go.RowKit Go.Maps Culp
/-- The bag's own block. -/
def BagOf (gb : Nat) (cs : Array Value) (w : World) : Prop := w.heap[gb]? = some (.cells cs 63 (0, 0))
section
variable {gb : Nat} {cs : Array Value} {w w' : World}
theorem BagOf.lt (h : BagOf gb cs w) : gb < w.heap.size := (Array.getElem?_eq_some_iff.1 h).1
theorem BagOf.later (h : BagOf gb cs w) (hb : Below w.heap.size w w') : BagOf gb cs w' := (hb.block gb h.lt).trans h
theorem BagOf.cell {j : Nat} {v : Value} (h : BagOf gb cs w) (hv : cs[j]? = some v) : w.cell? ⟨gb, j, none⟩ = some v := by
  unfold BagOf at h
  simp [World.cell?, h, hv]
theorem BagOf.free (h : BagOf gb cs w) (j : Nat) : w.frozen? ⟨gb, j, none⟩ = false := by
  unfold BagOf at h
  simp [World.frozen?, h]
theorem BagOf.put (h : BagOf gb cs w) (j : Nat) (u : Value) : BagOf gb (cs.setIfInBounds j u) (w.setCell ⟨gb, j, none⟩ u) := by
  unfold BagOf at h ⊢
  simp [World.setCell, Array.getElem?_modify, h]
theorem BagOf.ne {B n size : Nat} {e : TypeId} {v : Value} {xs : List Value} (h : BagOf gb cs w) (ho : w.ownsRow B e size v n xs) (he : e ≠ 63) : v.ownBlock ≠ some gb := own_ne ho fun cur hc => by
  unfold BagOf at h
  rw [h] at hc
  simp only [Option.some.injEq, Obj.cells.injEq] at hc
  exact he hc.2.1.symm
theorem BagOf.stays {e : TypeId} (h : BagOf gb cs w) (hs : BagS.Stays e w w') (he : e ≠ 63) : BagOf gb cs w' := hs gb _ h fun cs fr hc => by
  simp only [Obj.cells.injEq] at hc
  exact he hc.2.1.symm
theorem BagOf.grown {o : Option Nat} (h : BagOf gb cs w) (hg : w.grownBy w' o) (ho : o ≠ some gb) : BagOf gb cs w' := (hg.block gb h.lt (fun e => ho e.symm)).trans h
end
theorem bnum_any (n i : Nat) (hn : n ≤ 1000) (hi : i ≤ 1000000000000) (w : World) : Calls Tryz.prog 64 #[.int .i64 n, .int .i64 i] w (fun e w' => e = .returned (.int .i64 (1048576 * (n : Int) + (i : Int) + 1)) ∧ w = w') := by
  refine (num_any n i hn hi w).mono ?_
  rintro e w' ⟨rfl, rfl⟩
  exact ⟨congrArg (fun x => Ending.returned (Value.int .i64 x)) (by omega), rfl⟩
theorem cell_in {w : World} {g i : Nat} {cs : Array Value} {e : TypeId} {fr : Nat × Nat} {v : Value} (h : w.heap[g]? = some (.cells cs e fr)) (hv : cs[i]? = some v) : w.cell? ⟨g, i, none⟩ = some v := by
  simp [World.cell?, h, hv]
theorem exec_store_at {P : Program} {ev : Operand → Value} {o : Oper} {ty : TypeId} {x y : Operand} {p q : Value} {w w' : World} (ho : o.op = .store ty x y) (hx : ev x = p) (hy : ev y = q) (h : (Instr.storeAt ty p q).run P w = .ok () w') : (execOp ev o).run P w = .ok .skip w' := by
  unfold execOp
  simp only [ho, hx, hy, Sem.run_bind, h, Result.andThen_ok, Sem.run_pure]
def mkN (n k : Nat) : List Value := [.int .i8 0, .int .i64 (1048576 * (n : Int) + (k : Int) + 1), .int .i64 0, .string { data := #[] }, .string { data := #[] }, .string { data := #[] }, .int .i64 0, .int .i64 0]
theorem mkN_len (n k : Nat) : (mkN n k).length = 8 := rfl
theorem bnode_info : (Tryz.prog.info? 81).map (fun i => (i.zero, i.size, i.bytes)) = some (some (.agg #[.int .i8 0, .int .i64 0, .int .i64 0, .string { data := #[] }, .string { data := #[] }, .string { data := #[] }, .int .i64 0, .int .i64 0]), 8, 88) := by kernel_rfl
theorem bnodes_info : (Tryz.prog.info? 82).map (fun i => (i.zero, i.size, i.bytes)) = some (some (.slice none 0 0), 1, 24) := by kernel_rfl
theorem mkN_build (w : World) (x : Int) : (Instr.buildSlice 82 1 #[(0, .agg #[.int .i8 0, .int .i64 x, .int .i64 0, .string { data := #[] }, .string { data := #[] }, .string { data := #[] }, .int .i64 0, .int .i64 0])]).run Tryz.prog w = .ok (.slice (some ⟨w.heap.size, 0, none⟩) 1 1) (w.alloc (.cells #[.int .i8 0, .int .i64 x, .int .i64 0, .string { data := #[] }, .string { data := #[] }, .string { data := #[] }, .int .i64 0, .int .i64 0] 81)) := by
  simp [go_sem, Instr.buildSlice, run_underlying Tryz.underlying82]
theorem mkN_store (w : World) (g o : Nat) (n k : Nat) (h : w.there g o 8) : (Instr.storeAt 81 (.pointer (some ⟨g, o, none⟩)) (.agg #[.int .i8 0, .int .i64 (1048576 * (n : Int) + (k : Int) + 1), .int .i64 0, .string { data := #[] }, .string { data := #[] }, .string { data := #[] }, .int .i64 0, .int .i64 0])).run Tryz.prog w = .ok () (w.setCells g o (mkN n k)) := by
  have := run_storeAt_mid (P := Tryz.prog) w g o 81 #[.int .i8 0, .int .i64 (1048576 * (n : Int) + (k : Int) + 1), .int .i64 0, .string { data := #[] }, .string { data := #[] }, .string { data := #[] }, .int .i64 0, .int .i64 0] h (by kernel_rfl) (by simp [Value.oneCell'])
  exact this
set_option maxRecDepth 100000 in
set_option maxHeartbeats 6400000 in
theorem apartNodes_any (gb B : Nat) (R : List Value) (L : Nat → Nat) (bv : Value) (w : World) (cs : Array Value) (hBI : BagOf gb cs w) (hc4 : cs[5]? = some bv) (hBw : B ≤ w.heap.size) (hbv : w.ownsRow B 82 1 bv R.length R)
    (hG : ∀ n v, R[n]? = some v → ∃ xs, w.ownsRow B 81 8 v (L n) xs) (hA : ∀ (i j : Nat) (u v : Value), i ≠ j → R[i]? = some u → R[j]? = some v → Culp.Apart u v) (hM : R.length ≤ 300) (hL : ∀ n, L n ≤ 1000000) :
    Calls Tryz.prog 49 #[.pointer (some ⟨gb, 0, none⟩)] w (fun e w' => e = .returned (.bool true) ∧ Below B w w' ∧ BagS.Stays 81 w w') := by
  have HL := Lib.hid hL
  have HA := Lib.hid hA
  have HC := Lib.hid hc4
  have HBG := Lib.hid hBI
  have HP0 := Lib.hid (BagS.Ph1.start (mk := mkN) (sz := 8) hG)
  have HV0 := Lib.hid hbv
  have HS0 := Lib.hid (BagS.Stays.refl 81 w)
  obtain ⟨A0, cb, rfl, _, hA0⟩ := own_form hbv
  have HA0 := Lib.hid hA0
  clear hG hA hL hbv hA0 hBI hc4
  go_enter Tryz.func49, Tryz.ntmps49
  go_wp2_with fail
  go_loopw [3] (fun i wr => ∃ n : Nat, n ≤ R.length ∧ i = .int .i64 n ∧ Hid (BagS.Ph1 81 8 B R L mkN n 0 wr) ∧ Hid (Below B w wr) ∧ Hid (BagS.Stays 81 w wr)) (fun i _ => R.length - (intOf i).toNat)
  case atStart => exact ⟨0, Nat.zero_le _, rfl, HP0, Lib.hid (Below.refl _ _), HS0⟩
  case round =>
    clear HP0
    obtain ⟨n, hn, rfl, HP, HB, HST⟩ := hrel
    have c1 := (HBG.out.stays HST.out (by decide)).cell HC.out
    by_cases hlt : n < R.length
    · obtain ⟨v, hv⟩ : ∃ v, R[n]? = some v := ⟨_, List.getElem?_eq_getElem hlt⟩
      have HVN := Lib.hid hv
      obtain ⟨rb, rfl, hrb, _⟩ := HA0.out (by omega)
      obtain ⟨Av, cv, rfl⟩ := HP.out.form hv
      have r0 := (own_get (HST.out.own HV0.out (by decide)) hv).1
      clear hv
      go_wp2_with fail
      go_loopw [4] (fun i wr => ∃ k : Nat, k ≤ L n ∧ i = .int .i64 k ∧ Hid (BagS.Ph1 81 8 B R L mkN n k wr) ∧ Hid (Below B w wr) ∧ Hid (BagS.Stays 81 w wr)) (fun i _ => L n - (intOf i).toNat)
      case atStart => exact ⟨0, Nat.zero_le _, rfl, HP, HB, HST⟩
      case round =>
        clear HP HB HST c1 r0
        obtain ⟨k, hk, rfl, HP, HB, HST⟩ := hrel
        have c1 := (HBG.out.stays HST.out (by decide)).cell HC.out
        have r0 := (own_get (HST.out.own HV0.out (by decide)) HVN.out).1
        have hLn := HL.out n
        by_cases hkl : k < L n
        · obtain ⟨xs1, hx1, _⟩ := HP.out n _ HVN.out
          obtain ⟨g, _, _, e0, _⟩ := BagS.own_block hx1 (by omega)
          simp only [Value.slice.injEq] at e0
          obtain ⟨rfl, _, rfl⟩ := e0
          have HPd : Hid (BagS.Ph1 81 8 B R L mkN n k wr.drew) := Lib.hid HP.out
          have HBd := Lib.hid HB.out.drew
          have HSd : Hid (BagS.Stays 81 w wr.drew) := Lib.hid HST.out
          clear hx1 HP HB HST
          go_wp2_with fail
          refine wp_region_plan (S := fun w' => w'.cell? ⟨gb, 5, none⟩ = some (.slice (some ⟨rb, 0, none⟩) R.length cb) ∧ w'.cell? ⟨rb, n, none⟩ = some (.slice (some ⟨g, 0, none⟩) (L n) cv))
            [(0, true), (1, true), (2, true), (3, true), (4, true), (5, true), (6, true), (7, true), (8, true), (9, true), (10, false), (11, true), (12, true), (13, false)] (by kernel_rfl) (by kernel_rfl) (by kernel_rfl) (fun _ _ _ _ _ h => h) ⟨c1, r0⟩ ?_
          intro HS
          repeat (first | (apply wpPlan_look; rfl; rfl; (intro wq hq; (try dsimp only at hq); go_split_ands; go_simp; (try rw [if_neg (by omega)]); (try rw [if_pos (by omega)]); try with_reducible rfl); simp only [Act.put, List.setIfInBounds_toArray, List.set_cons_zero, List.set_cons_succ]) | (apply wpPlan_skip; rfl; rfl; simp only [Act.put, List.setIfInBounds_toArray, List.set_cons_zero, List.set_cons_succ]) | (apply wpPlan_pass; rfl; rfl; assumption; simp only [Act.put, List.setIfInBounds_toArray, List.set_cons_zero, List.set_cons_succ]))
          apply wpPlan_call; rfl; rfl; rfl; rfl; kernel_rfl; exact bnum_any n k (by omega) (by omega) _; rfl; rintro e w' ⟨rfl, rfl⟩
          refine ⟨_, rfl, as_S ⟨c1, r0⟩ ?_⟩
          intro _
          simp only [Act.put, List.setIfInBounds_toArray, List.set_cons_zero, List.set_cons_succ]
          repeat (first | (apply wpPlan_look; rfl; rfl; (intro wq hq; (try dsimp only at hq); go_split_ands; go_simp; (try rw [if_neg (by omega)]); (try rw [if_pos (by omega)]); try with_reducible rfl); simp only [Act.put, List.setIfInBounds_toArray, List.set_cons_zero, List.set_cons_succ]) | (apply wpPlan_skip; rfl; rfl; simp only [Act.put, List.setIfInBounds_toArray, List.set_cons_zero, List.set_cons_succ]) | (apply wpPlan_pass; rfl; rfl; assumption; simp only [Act.put, List.setIfInBounds_toArray, List.set_cons_zero, List.set_cons_succ]))
          clear c1 r0 HS
          generalize wr.drew = w1 at *
          obtain ⟨hP2, hth, hBg, ⟨cur, hcur⟩, _⟩ := HPd.out.store mkN_len HA.out HVN.out hkl
          have HP2 := Lib.hid hP2
          have hst : BagS.Stays 81 w (w1.setCells g (k * 8) (mkN n k)) := HSd.out.keep hcur (BagS.setCells_keep g _ _ _)
          have HST2 := Lib.hid hst
          have HB2 : Hid (Below B w (w1.setCells g (k * 8) (mkN n k))) := Lib.hid (BagS.below_cells hBg (mkN n k) (k * 8) w1 HBd.out)
          have c2 := (HBG.out.stays hst (by decide)).cell HC.out
          have r2 := (own_get (hst.own HV0.out (by decide)) HVN.out).1
          refine wpPlan_run0 (w' := w1.setCells g (k * 8) (mkN n k)) rfl rfl (exec_store_at rfl rfl rfl (mkN_store w1 g (k * 8) n k hth)) _ (fun _ h => h) ⟨c2, r2⟩ ?_
          simp only [Act.put, List.setIfInBounds_toArray, List.set_cons_zero, List.set_cons_succ]
          apply wpPlan_done
          clear HPd HBd HSd hP2 hth hcur hst c2 r2
          generalize w1.setCells g (k * 8) (mkN n k) = w2 at *
          go_wp2_with fail
          go_roundw
          case rel => exact ⟨k + 1, by omega, by go_num, HP2, HB2, HST2⟩
          case measure => simp [intOf]; omega
        · have hkl2 : k = L n := by omega
          have HP2 := Lib.hid (BagS.Ph1.next (by have := HP.out; rw [hkl2] at this; exact this))
          clear HP hkl2
          go_wp2_with fail
          go_roundw
          case rel => exact ⟨n + 1, by omega, by go_num, HP2, HB, HST⟩
          case measure => simp [intOf]; omega
    · obtain rfl : n = R.length := by omega
      have HQ := Lib.hid (BagS.Ph2.start (W := w.heap.size) (se := 82) HP.out (HST.out.own HV0.out (by decide)))
      clear HP
      go_wp2_with fail
      clear c1
      go_loopw [5, 6, 7] (fun ov mv i wr => ∃ (n : Nat) (o m : Value) (Us Vs : List Value), o = ov ∧ m = mv ∧ n ≤ R.length ∧ i = .int .i64 n ∧ Hid (BagS.Ph2 81 82 8 B w.heap.size R L mkN (.slice A0 R.length cb) n o m Us Vs wr) ∧ Hid (Below B w wr) ∧ Hid (BagS.Stays 81 w wr)) (fun _ _ i _ => R.length - (intOf i).toNat)
      case atStart => exact ⟨0, _, _, [], [], rfl, rfl, Nat.zero_le _, rfl, HQ, HB, HST⟩
      case round =>
        clear HQ HB HST
        obtain ⟨n, o, m, Us, Vs, rfl, rfl, hn, rfl, HQ, HB, HST⟩ := hrel
        have c1 := (HBG.out.stays HST.out (by decide)).cell HC.out
        by_cases hlt : n < R.length
        · obtain ⟨v, hv⟩ : ∃ v, R[n]? = some v := ⟨_, List.getElem?_eq_getElem hlt⟩
          have HVN := Lib.hid hv
          obtain ⟨rb, rfl, hrb, _⟩ := HA0.out (by omega)
          obtain ⟨Av, cv, rfl⟩ := own_shape (HQ.out.row n v hv)
          have r0 := (own_get HQ.out.hbag hv).1
          have HI0 := Lib.hid (BagS.In.start HQ.out HA.out hv)
          have hLn := HL.out n
          clear hv HQ
          go_wp2_with fail
          go_loopw [5, 8, 9] (fun ov lv i wr => ∃ (t p : Nat) (o l : Value) (Us : List Value), o = ov ∧ l = lv ∧ t ≤ 70 ∧ L n ≤ p ∧ p ≤ L n + 70 ∧ i = .int .i64 p ∧ Hid (p = L n + t) ∧ Hid (BagS.In 81 82 8 B w.heap.size R L mkN (.slice (some ⟨rb, 0, none⟩) R.length cb) n t l o m Us Vs wr) ∧ Hid (Below B w wr) ∧ Hid (BagS.Stays 81 w wr)) (fun _ _ i _ => L n + 70 - (intOf i).toNat)
          case atStart => exact ⟨0, L n, _, _, Us, rfl, rfl, by omega, Nat.le_refl _, by omega, rfl, Lib.hid rfl, HI0, HB, HST⟩
          case round =>
            clear HI0 HB HST c1 r0
            obtain ⟨t, p, o, l, Us, rfl, rfl, ht, hp0, hp1, rfl, HPT, HI, HB, HST⟩ := hrel
            have c1 := (HBG.out.stays HST.out (by decide)).cell HC.out
            have r0 := (own_get HI.out.hbag HVN.out).1
            have hpt := HPT.out
            by_cases hkl : t < 70
            · have hpl : p < L n + 70 := by omega
              have own4 : wr.ownsRow B 81 8 l p (BagS.marks mkN n p) := by rw [HPT.out]; exact HI.out.own
              have hbb := mkN_build
              clear hpt
              go_wp2_with fail
              refine (bnum_any n p (by omega) (by omega) _).mono ?_
              rintro e w1 ⟨rfl, rfl⟩
              clear c1 r0
              go_wp2_with (at_builtin; refine append_held rfl (.tmp 79) (.tmp 84) 82 81 rfl B _ 8 88 Tryz.underlying82 bnode_info rfl (by decide) _ _ _ rfl own4 [.int .i8 0, .int .i64 (1048576 * (n : Int) + (p : Int) + 1), .int .i64 0, .string { data := #[] }, .string { data := #[] }, .string { data := #[] }, .int .i64 0, .int .i64 0] rfl wr.heap.size rfl rfl ?_ ?_ ?_ ?_ ?_)
              · intro y hy; simp only [List.mem_cons, List.not_mem_nil, or_false] at hy; rcases hy with rfl | rfl | rfl | rfl | rfl | rfl | rfl | rfl <;> rfl
              · omega
              · omega
              · have := HB.out.size; omega
              intro v' w5 a1 a2 a3 a4 a5
              have HG : Hid (BagS.Grew B 81 8 wr w5 l v' (L n + t) (BagS.marks mkN n (L n + t)) (mkN n (L n + t))) := Lib.hid (by rw [← HPT.out]; exact ⟨a1, a2, a3, a4, a5⟩)
              have HB5 := Lib.hid (HB.out.trans a3)
              have HST5 := Lib.hid (HST.out.grown own4 a2)
              obtain ⟨A5, c5, rfl⟩ := own_shape a1
              have c1 := (HBG.out.stays HST5.out (by decide)).cell HC.out
              have r0 := (own_get (own_other HI.out.hbag a2 (own_apart_type own4 HI.out.hbag (by decide))) HVN.out).1
              have ownO := own_other HI.out.hone a2 (own_apart_type own4 HI.out.hone (by decide))
              clear a1 a2 a3 a4 a5 own4 hbb
              by_cases ht0 : t = 0
              · have hpe : p = L n := by have := HPT.out; omega
                have e1 : (((p : Nat) : Int) == ((L n : Nat) : Int)) = true := int_eq' hpe
                have HUn : Hid (Us.length = n) := Lib.hid (by have := HI.out.lu; rw [ht0] at this; exact this)
                have hUn := HUn.out
                clear hpe
                go_wp2_with (at_builtin; refine append_held rfl (.tmp 96) (.tmp 98) 49 82 rfl w.heap.size _ 1 24 Tryz.underlying49 bnodes_info rfl (by decide) _ _ _ rfl ownO [.slice A5 (p + 1) c5] rfl w5.heap.size rfl rfl ?_ ?_ ?_ ?_ ?_)
                · intro y hy; simp only [List.mem_cons, List.not_mem_nil, or_false] at hy; subst hy; rfl
                · omega
                · omega
                · exact HB5.out.size
                intro o' w6 a1 a2 a3 a4 a5
                have HI6 : Hid (BagS.In 81 82 8 B w.heap.size R L mkN (.slice (some ⟨rb, 0, none⟩) R.length cb) n (t + 1) (.slice A5 (p + 1) c5) o' m (Us ++ [.slice A5 (p + 1) c5]) Vs w6) := Lib.hid (by
                  have hI := HI.out
                  have hG := HG.out
                  subst ht0
                  exact BagS.In.first (by decide) mkN_len hI hG (one' := o') ⟨a1, a2, a3, a4, by simpa only [Nat.mul_one] using a5⟩ hBw)
                have HB6 := Lib.hid (HB5.out.trans (Below.mono a3 hBw))
                have HST6 := Lib.hid (HST5.out.grown_new ownO a2)
                clear a1 a2 a3 a4 a5 HI HG HB5 HB HST5 HST c1 r0 ownO
                go_wp2_with fail
                go_roundw
                case rel => exact ⟨t + 1, p + 1, o', _, _, rfl, rfl, by omega, by omega, by omega, by go_num, Lib.hid (by rw [HPT.out]; omega), HI6, HB6, HST6⟩
                case measure => simp [intOf]; omega
              · have e1 : (((p : Nat) : Int) == ((L n : Nat) : Int)) = false := beq_no (by have := HPT.out; omega)
                have HI6 := Lib.hid (BagS.In.push (by decide) mkN_len HI.out (fun h => absurd h ht0) HA.out HG.out (by omega))
                clear HI HG HB HST ownO
                go_wp2_with fail
                go_roundw
                case rel => exact ⟨t + 1, p + 1, o, _, Us, rfl, rfl, by omega, by omega, by omega, by go_num, Lib.hid (by rw [HPT.out]; omega), HI6, HB5, HST5⟩
                case measure => simp [intOf]; omega
            · have ht70 : t = 70 := by omega
              have hpe : p = L n + 70 := by omega
              have HI70 : Hid (BagS.In 81 82 8 B w.heap.size R L mkN (.slice (some ⟨rb, 0, none⟩) R.length cb) n 70 l o m Us Vs wr) := Lib.hid (by have := HI.out; rw [ht70] at this; exact this)
              have ownM := HI.out.hmore
              have own7 := HI70.out.own
              rw [← hpe] at own7
              obtain ⟨A5, c5, rfl⟩ := own_shape own7
              have hnp : ¬ p < L n + 70 := by omega
              clear hpt hpe HI ht70 HPT own7
              go_wp2_with (at_builtin; refine append_held rfl (.tmp 100) (.tmp 102) 49 82 rfl w.heap.size _ 1 24 Tryz.underlying49 bnodes_info rfl (by decide) _ _ _ rfl ownM [.slice A5 p c5] rfl wr.heap.size rfl rfl ?_ ?_ ?_ ?_ ?_)
              · intro y hy; simp only [List.mem_cons, List.not_mem_nil, or_false] at hy; subst hy; rfl
              · omega
              · omega
              · exact HB.out.size
              intro m' w6 a1 a2 a3 a4 a5
              have HQ6 := Lib.hid (BagS.In.done (by decide) HI70.out ⟨a1, a2, a3, a4, by simpa only [Nat.mul_one] using a5⟩)
              have HB6 := Lib.hid (HB.out.trans (Below.mono a3 hBw))
              have HST6 := Lib.hid (HST.out.grown_new ownM a2)
              clear a1 a2 a3 a4 a5 HI70 HB HST c1 r0 ownM
              go_wp2_with fail
              go_roundw
              case rel => exact ⟨n + 1, _, m', Us, _, rfl, rfl, by omega, by go_num, HQ6, HB6, HST6⟩
              case measure => simp [intOf]; omega
        · obtain rfl : n = R.length := by omega
          obtain ⟨Am, cm, rfl⟩ := own_shape HQ.out.hmore
          obtain ⟨Ao, co, rfl⟩ := own_shape HQ.out.hone
          go_wp2_with fail
          clear c1
          go_loopw [10] (fun i wr => ∃ n : Nat, n ≤ R.length ∧ i = .int .i64 n ∧ Hid (BagS.Ph2 81 82 8 B w.heap.size R L mkN (.slice A0 R.length cb) R.length (.slice Ao R.length co) (.slice Am R.length cm) Us Vs wr) ∧ Hid (Below B w wr) ∧ Hid (BagS.Stays 81 w wr)) (fun i _ => R.length - (intOf i).toNat)
          case atStart => exact ⟨0, Nat.zero_le _, rfl, HQ, HB, HST⟩
          case round =>
            clear HQ HB HST
            obtain ⟨n, hn, rfl, HQ, HB, HST⟩ := hrel
            by_cases hlt : n < R.length
            · have hv0 : ∃ v, R[n]? = some v := ⟨_, List.getElem?_eq_getElem hlt⟩
              obtain ⟨v, hv⟩ := hv0
              have hu0 : ∃ u, Us[n]? = some u := ⟨_, List.getElem?_eq_getElem (by rw [HQ.out.lu]; exact hlt)⟩
              have hx0 : ∃ u, Vs[n]? = some u := ⟨_, List.getElem?_eq_getElem (by rw [HQ.out.lv]; exact hlt)⟩
              obtain ⟨u, hu⟩ := hu0
              obtain ⟨x, hx⟩ := hx0
              have hLn := HL.out n
              obtain ⟨rb, rfl, hrb, -⟩ := HA0.out (by omega)
              obtain ⟨_, _, e1, -⟩ := own_read HQ.out.hmore (by omega)
              obtain ⟨_, _, e2, -⟩ := own_read HQ.out.hone (by omega)
              simp only [Value.slice.injEq] at e1 e2
              obtain ⟨rfl, _, rfl⟩ := e1
              obtain ⟨rfl, _, rfl⟩ := e2
              obtain ⟨Av, cv, rfl⟩ := own_shape (HQ.out.row n v hv)
              obtain ⟨gu, cu, _, rfl, -⟩ := BagS.own_block (HQ.out.us n u hu).1 (by omega)
              obtain ⟨gx, cx, _, rfl, -⟩ := BagS.own_block (HQ.out.vs n x hx).1 (by omega)
              have HV := Lib.hid hv
              have HU := Lib.hid hu
              have HX := Lib.hid hx
              have m0 := (own_get HQ.out.hmore hx).1
              clear hv hu hx
              go_wp2_with fail
              clear m0
              go_loopw [11] (fun i wr => ∃ k : Nat, k ≤ L n + 70 ∧ i = .int .i64 k ∧ Hid (BagS.Ph2 81 82 8 B w.heap.size R L mkN (.slice (some ⟨rb, 0, none⟩) R.length cb) R.length (.slice _ R.length co) (.slice _ R.length cm) Us Vs wr) ∧ Hid (Below B w wr) ∧ Hid (BagS.Stays 81 w wr)) (fun i _ => L n + 70 - (intOf i).toNat)
              case atStart => exact ⟨0, Nat.zero_le _, rfl, HQ, HB, HST⟩
              case round =>
                clear HQ HB HST
                obtain ⟨k, hk, rfl, HQ, HB, HST⟩ := hrel
                have m0 := (own_get HQ.out.hmore HX.out).1
                by_cases hkl : k < L n + 70
                · have hb0 : Below wr.heap.size wr (wr.alloc (.cells #[.int .i8 0, .int .i64 (1048576 * (n : Int) + (k : Int) + 1), .int .i64 0, .string { data := #[] }, .string { data := #[] }, .string { data := #[] }, .int .i64 0, .int .i64 0] 81)) := (Below.refl _ _).alloc (Nat.le_refl _) _
                  have HBX : Hid ((wr.alloc (.cells #[.int .i8 0, .int .i64 (1048576 * (n : Int) + (k : Int) + 1), .int .i64 0, .string { data := #[] }, .string { data := #[] }, .string { data := #[] }, .int .i64 0, .int .i64 0] 81)).heap[wr.heap.size]? = some (.cells #[.int .i8 0, .int .i64 (1048576 * (n : Int) + (k : Int) + 1), .int .i64 0, .string { data := #[] }, .string { data := #[] }, .string { data := #[] }, .int .i64 0, .int .i64 0] 81 (0, 0))) := Lib.hid (MapKept.heap_alloc wr _).1
                  have HQ1 := Lib.hid (HQ.out.later hb0)
                  have HB1 : Hid (Below B w (wr.alloc (.cells #[.int .i8 0, .int .i64 (1048576 * (n : Int) + (k : Int) + 1), .int .i64 0, .string { data := #[] }, .string { data := #[] }, .string { data := #[] }, .int .i64 0, .int .i64 0] 81))) := Lib.hid (HB.out.trans (hb0.mono (Nat.le_trans hBw HB.out.size)))
                  have HST1 := Lib.hid (HST.out.below hb0)
                  have y0 : wr.cell? ⟨gx, k * 8, none⟩ = some (.int .i8 0) := BagS.own_mark (mk := mkN) mkN_len (HQ.out.vs n _ HX.out).1 hkl (i := 0) rfl
                  have y1 : wr.cell? ⟨gx, k * 8 + 1, none⟩ = some (.int .i64 (1048576 * (n : Int) + (k : Int) + 1)) := BagS.own_mark (mk := mkN) mkN_len (HQ.out.vs n _ HX.out).1 hkl (i := 1) rfl
                  have y2 : wr.cell? ⟨gx, k * 8 + 2, none⟩ = some (.int .i64 0) := BagS.own_mark (mk := mkN) mkN_len (HQ.out.vs n _ HX.out).1 hkl (i := 2) rfl
                  have y3 : wr.cell? ⟨gx, k * 8 + 3, none⟩ = some (.string { data := #[] }) := BagS.own_mark (mk := mkN) mkN_len (HQ.out.vs n _ HX.out).1 hkl (i := 3) rfl
                  have y4 : wr.cell? ⟨gx, k * 8 + 4, none⟩ = some (.string { data := #[] }) := BagS.own_mark (mk := mkN) mkN_len (HQ.out.vs n _ HX.out).1 hkl (i := 4) rfl
                  have y5 : wr.cell? ⟨gx, k * 8 + 5, none⟩ = some (.string { data := #[] }) := BagS.own_mark (mk := mkN) mkN_len (HQ.out.vs n _ HX.out).1 hkl (i := 5) rfl
                  have y6 : wr.cell? ⟨gx, k * 8 + 6, none⟩ = some (.int .i64 0) := BagS.own_mark (mk := mkN) mkN_len (HQ.out.vs n _ HX.out).1 hkl (i := 6) rfl
                  have y7 : wr.cell? ⟨gx, k * 8 + 7, none⟩ = some (.int .i64 0) := BagS.own_mark (mk := mkN) mkN_len (HQ.out.vs n _ HX.out).1 hkl (i := 7) rfl
                  have d1 := (HBG.out.stays HST1.out (by decide)).cell HC.out
                  have q0 := (own_get HQ1.out.hbag HV.out).1
                  have q1 := (own_get HQ1.out.hmore HX.out).1
                  have q2 := (own_get HQ1.out.hone HU.out).1
                  have e5 : ((k : Nat) : Int) < ((L n : Nat) : Int) + 70 := by omega
                  clear hb0
                  by_cases hk1 : k < L n
                  · obtain ⟨gv, _, _, e3, -⟩ := BagS.own_block (HQ.out.row n _ HV.out) (by omega)
                    simp only [Value.slice.injEq] at e3
                    obtain ⟨rfl, _, rfl⟩ := e3
                    have v0 : (wr.alloc (.cells #[.int .i8 0, .int .i64 (1048576 * (n : Int) + (k : Int) + 1), .int .i64 0, .string { data := #[] }, .string { data := #[] }, .string { data := #[] }, .int .i64 0, .int .i64 0] 81)).cell? ⟨gv, k * 8, none⟩ = some (.int .i8 0) := BagS.own_mark (mk := mkN) mkN_len (HQ1.out.row n _ HV.out) hk1 (i := 0) rfl
                    have v1 : (wr.alloc (.cells #[.int .i8 0, .int .i64 (1048576 * (n : Int) + (k : Int) + 1), .int .i64 0, .string { data := #[] }, .string { data := #[] }, .string { data := #[] }, .int .i64 0, .int .i64 0] 81)).cell? ⟨gv, k * 8 + 1, none⟩ = some (.int .i64 (1048576 * (n : Int) + (k : Int) + 1)) := BagS.own_mark (mk := mkN) mkN_len (HQ1.out.row n _ HV.out) hk1 (i := 1) rfl
                    have v2 : (wr.alloc (.cells #[.int .i8 0, .int .i64 (1048576 * (n : Int) + (k : Int) + 1), .int .i64 0, .string { data := #[] }, .string { data := #[] }, .string { data := #[] }, .int .i64 0, .int .i64 0] 81)).cell? ⟨gv, k * 8 + 2, none⟩ = some (.int .i64 0) := BagS.own_mark (mk := mkN) mkN_len (HQ1.out.row n _ HV.out) hk1 (i := 2) rfl
                    have v3 : (wr.alloc (.cells #[.int .i8 0, .int .i64 (1048576 * (n : Int) + (k : Int) + 1), .int .i64 0, .string { data := #[] }, .string { data := #[] }, .string { data := #[] }, .int .i64 0, .int .i64 0] 81)).cell? ⟨gv, k * 8 + 3, none⟩ = some (.string { data := #[] }) := BagS.own_mark (mk := mkN) mkN_len (HQ1.out.row n _ HV.out) hk1 (i := 3) rfl
                    have v4 : (wr.alloc (.cells #[.int .i8 0, .int .i64 (1048576 * (n : Int) + (k : Int) + 1), .int .i64 0, .string { data := #[] }, .string { data := #[] }, .string { data := #[] }, .int .i64 0, .int .i64 0] 81)).cell? ⟨gv, k * 8 + 4, none⟩ = some (.string { data := #[] }) := BagS.own_mark (mk := mkN) mkN_len (HQ1.out.row n _ HV.out) hk1 (i := 4) rfl
                    have v5 : (wr.alloc (.cells #[.int .i8 0, .int .i64 (1048576 * (n : Int) + (k : Int) + 1), .int .i64 0, .string { data := #[] }, .string { data := #[] }, .string { data := #[] }, .int .i64 0, .int .i64 0] 81)).cell? ⟨gv, k * 8 + 5, none⟩ = some (.string { data := #[] }) := BagS.own_mark (mk := mkN) mkN_len (HQ1.out.row n _ HV.out) hk1 (i := 5) rfl
                    have v6 : (wr.alloc (.cells #[.int .i8 0, .int .i64 (1048576 * (n : Int) + (k : Int) + 1), .int .i64 0, .string { data := #[] }, .string { data := #[] }, .string { data := #[] }, .int .i64 0, .int .i64 0] 81)).cell? ⟨gv, k * 8 + 6, none⟩ = some (.int .i64 0) := BagS.own_mark (mk := mkN) mkN_len (HQ1.out.row n _ HV.out) hk1 (i := 6) rfl
                    have v7 : (wr.alloc (.cells #[.int .i8 0, .int .i64 (1048576 * (n : Int) + (k : Int) + 1), .int .i64 0, .string { data := #[] }, .string { data := #[] }, .string { data := #[] }, .int .i64 0, .int .i64 0] 81)).cell? ⟨gv, k * 8 + 7, none⟩ = some (.int .i64 0) := BagS.own_mark (mk := mkN) mkN_len (HQ1.out.row n _ HV.out) hk1 (i := 7) rfl
                    have e6 : ((k : Nat) : Int) < ((L n : Nat) : Int) := by omega
                    have e4 : (((k : Nat) : Int) == ((L n : Nat) : Int)) = false := beq_no (by omega)
                    go_wp2_with fail
                    have z0 : (wr.alloc (.cells #[.int .i8 0, .int .i64 (1048576 * (n : Int) + (k : Int) + 1), .int .i64 0, .string { data := #[] }, .string { data := #[] }, .string { data := #[] }, .int .i64 0, .int .i64 0] 81)).cell? ⟨wr.heap.size, 0, none⟩ = some (.int .i8 0) := cell_in HBX.out (i := 0) rfl
                    have z1 : (wr.alloc (.cells #[.int .i8 0, .int .i64 (1048576 * (n : Int) + (k : Int) + 1), .int .i64 0, .string { data := #[] }, .string { data := #[] }, .string { data := #[] }, .int .i64 0, .int .i64 0] 81)).cell? ⟨wr.heap.size, 1, none⟩ = some (.int .i64 (1048576 * (n : Int) + (k : Int) + 1)) := cell_in HBX.out (i := 1) rfl
                    have z2 : (wr.alloc (.cells #[.int .i8 0, .int .i64 (1048576 * (n : Int) + (k : Int) + 1), .int .i64 0, .string { data := #[] }, .string { data := #[] }, .string { data := #[] }, .int .i64 0, .int .i64 0] 81)).cell? ⟨wr.heap.size, 2, none⟩ = some (.int .i64 0) := cell_in HBX.out (i := 2) rfl
                    have z3 : (wr.alloc (.cells #[.int .i8 0, .int .i64 (1048576 * (n : Int) + (k : Int) + 1), .int .i64 0, .string { data := #[] }, .string { data := #[] }, .string { data := #[] }, .int .i64 0, .int .i64 0] 81)).cell? ⟨wr.heap.size, 3, none⟩ = some (.string { data := #[] }) := cell_in HBX.out (i := 3) rfl
                    have z4 : (wr.alloc (.cells #[.int .i8 0, .int .i64 (1048576 * (n : Int) + (k : Int) + 1), .int .i64 0, .string { data := #[] }, .string { data := #[] }, .string { data := #[] }, .int .i64 0, .int .i64 0] 81)).cell? ⟨wr.heap.size, 4, none⟩ = some (.string { data := #[] }) := cell_in HBX.out (i := 4) rfl
                    have z5 : (wr.alloc (.cells #[.int .i8 0, .int .i64 (1048576 * (n : Int) + (k : Int) + 1), .int .i64 0, .string { data := #[] }, .string { data := #[] }, .string { data := #[] }, .int .i64 0, .int .i64 0] 81)).cell? ⟨wr.heap.size, 5, none⟩ = some (.string { data := #[] }) := cell_in HBX.out (i := 5) rfl
                    have z6 : (wr.alloc (.cells #[.int .i8 0, .int .i64 (1048576 * (n : Int) + (k : Int) + 1), .int .i64 0, .string { data := #[] }, .string { data := #[] }, .string { data := #[] }, .int .i64 0, .int .i64 0] 81)).cell? ⟨wr.heap.size, 6, none⟩ = some (.int .i64 0) := cell_in HBX.out (i := 6) rfl
                    have z7 : (wr.alloc (.cells #[.int .i8 0, .int .i64 (1048576 * (n : Int) + (k : Int) + 1), .int .i64 0, .string { data := #[] }, .string { data := #[] }, .string { data := #[] }, .int .i64 0, .int .i64 0] 81)).cell? ⟨wr.heap.size, 7, none⟩ = some (.int .i64 0) := cell_in HBX.out (i := 7) rfl
                    refine wp_region_plan (S := fun w' => w'.cell? ⟨wr.heap.size, 0, none⟩ = some (.int .i8 0) ∧ w'.cell? ⟨wr.heap.size, 1, none⟩ = some (.int .i64 (1048576 * (n : Int) + (k : Int) + 1)) ∧ w'.cell? ⟨wr.heap.size, 2, none⟩ = some (.int .i64 0) ∧ w'.cell? ⟨wr.heap.size, 3, none⟩ = some (.string { data := #[] }) ∧ w'.cell? ⟨wr.heap.size, 4, none⟩ = some (.string { data := #[] }) ∧ w'.cell? ⟨wr.heap.size, 5, none⟩ = some (.string { data := #[] }) ∧ w'.cell? ⟨wr.heap.size, 6, none⟩ = some (.int .i64 0) ∧ w'.cell? ⟨wr.heap.size, 7, none⟩ = some (.int .i64 0)) [(0, true), (1, true), (2, true), (3, false), (4, true), (5, true), (6, true)] (by kernel_rfl) (by kernel_rfl) (by kernel_rfl) (fun _ _ _ _ _ h => h) ⟨z0, z1, z2, z3, z4, z5, z6, z7⟩ ?_
                    intro HS
                    repeat (first | (apply wpPlan_look; rfl; rfl; (intro wq hq; (try dsimp only at hq); go_split_ands; go_simp; (try rw [if_neg (by omega)]); (try rw [if_pos (by omega)]); try with_reducible rfl); simp only [Act.put, List.setIfInBounds_toArray, List.set_cons_zero, List.set_cons_succ]) | (apply wpPlan_skip; rfl; rfl; simp only [Act.put, List.setIfInBounds_toArray, List.set_cons_zero, List.set_cons_succ]) | (apply wpPlan_pass; rfl; rfl; assumption; simp only [Act.put, List.setIfInBounds_toArray, List.set_cons_zero, List.set_cons_succ]))
                    apply wpPlan_call; rfl; rfl; rfl; rfl; kernel_rfl; exact bnum_any n k (by omega) (by omega) _; rfl; rintro e w' ⟨rfl, rfl⟩
                    refine ⟨_, rfl, as_S HS ?_⟩
                    intro HS2
                    simp only [Act.put, List.setIfInBounds_toArray, List.set_cons_zero, List.set_cons_succ]
                    repeat (first | (apply wpPlan_look; rfl; rfl; (intro wq hq; (try dsimp only at hq); go_split_ands; go_simp; (try rw [if_neg (by omega)]); (try rw [if_pos (by omega)]); try with_reducible rfl); simp only [Act.put, List.setIfInBounds_toArray, List.set_cons_zero, List.set_cons_succ]) | (apply wpPlan_skip; rfl; rfl; simp only [Act.put, List.setIfInBounds_toArray, List.set_cons_zero, List.set_cons_succ]) | (apply wpPlan_pass; rfl; rfl; assumption; simp only [Act.put, List.setIfInBounds_toArray, List.set_cons_zero, List.set_cons_succ]))
                    change wpPlan _ _ _ _ _ _ ((wr.alloc (.cells #[.int .i8 0, .int .i64 (1048576 * (n : Int) + (k : Int) + 1), .int .i64 0, .string { data := #[] }, .string { data := #[] }, .string { data := #[] }, .int .i64 0, .int .i64 0] 81)).drew)
                    apply wpPlan_done
                    have hb2 : Below wr.heap.size wr ((wr.alloc (.cells #[.int .i8 0, .int .i64 (1048576 * (n : Int) + (k : Int) + 1), .int .i64 0, .string { data := #[] }, .string { data := #[] }, .string { data := #[] }, .int .i64 0, .int .i64 0] 81)).drew) := ((Below.refl _ _).alloc (Nat.le_refl _) _).drew
                    have HBY : Hid (((wr.alloc (.cells #[.int .i8 0, .int .i64 (1048576 * (n : Int) + (k : Int) + 1), .int .i64 0, .string { data := #[] }, .string { data := #[] }, .string { data := #[] }, .int .i64 0, .int .i64 0] 81)).drew).heap[wr.heap.size]? = some (.cells #[.int .i8 0, .int .i64 (1048576 * (n : Int) + (k : Int) + 1), .int .i64 0, .string { data := #[] }, .string { data := #[] }, .string { data := #[] }, .int .i64 0, .int .i64 0] 81 (0, 0))) := Lib.hid (MapKept.heap_alloc wr _).1
                    have m1 := cell_later hb2 m0
                    have s0 := cell_later hb2 y0
                    have s1 := cell_later hb2 y1
                    have s2 := cell_later hb2 y2
                    have s3 := cell_later hb2 y3
                    have s4 := cell_later hb2 y4
                    have s5 := cell_later hb2 y5
                    have s6 := cell_later hb2 y6
                    have s7 := cell_later hb2 y7
                    clear HS HS2 hb2 m0 d1 q0 q1 q2 y0 z0 y1 z1 y2 z2 y3 z3 y4 z4 y5 z5 y6 z6 y7 z7 v0 v1 v2 v3 v4 v5 v6 v7 e4 e6
                    go_wp2_with fail
                    have z0 : ((wr.alloc (.cells #[.int .i8 0, .int .i64 (1048576 * (n : Int) + (k : Int) + 1), .int .i64 0, .string { data := #[] }, .string { data := #[] }, .string { data := #[] }, .int .i64 0, .int .i64 0] 81)).drew).cell? ⟨wr.heap.size, 0, none⟩ = some (.int .i8 0) := cell_in HBY.out (i := 0) rfl
                    have z1 : ((wr.alloc (.cells #[.int .i8 0, .int .i64 (1048576 * (n : Int) + (k : Int) + 1), .int .i64 0, .string { data := #[] }, .string { data := #[] }, .string { data := #[] }, .int .i64 0, .int .i64 0] 81)).drew).cell? ⟨wr.heap.size, 1, none⟩ = some (.int .i64 (1048576 * (n : Int) + (k : Int) + 1)) := cell_in HBY.out (i := 1) rfl
                    have z2 : ((wr.alloc (.cells #[.int .i8 0, .int .i64 (1048576 * (n : Int) + (k : Int) + 1), .int .i64 0, .string { data := #[] }, .string { data := #[] }, .string { data := #[] }, .int .i64 0, .int .i64 0] 81)).drew).cell? ⟨wr.heap.size, 2, none⟩ = some (.int .i64 0) := cell_in HBY.out (i := 2) rfl
                    have z3 : ((wr.alloc (.cells #[.int .i8 0, .int .i64 (1048576 * (n : Int) + (k : Int) + 1), .int .i64 0, .string { data := #[] }, .string { data := #[] }, .string { data := #[] }, .int .i64 0, .int .i64 0] 81)).drew).cell? ⟨wr.heap.size, 3, none⟩ = some (.string { data := #[] }) := cell_in HBY.out (i := 3) rfl
                    have z4 : ((wr.alloc (.cells #[.int .i8 0, .int .i64 (1048576 * (n : Int) + (k : Int) + 1), .int .i64 0, .string { data := #[] }, .string { data := #[] }, .string { data := #[] }, .int .i64 0, .int .i64 0] 81)).drew).cell? ⟨wr.heap.size, 4, none⟩ = some (.string { data := #[] }) := cell_in HBY.out (i := 4) rfl
                    have z5 : ((wr.alloc (.cells #[.int .i8 0, .int .i64 (1048576 * (n : Int) + (k : Int) + 1), .int .i64 0, .string { data := #[] }, .string { data := #[] }, .string { data := #[] }, .int .i64 0, .int .i64 0] 81)).drew).cell? ⟨wr.heap.size, 5, none⟩ = some (.string { data := #[] }) := cell_in HBY.out (i := 5) rfl
                    have z6 : ((wr.alloc (.cells #[.int .i8 0, .int .i64 (1048576 * (n : Int) + (k : Int) + 1), .int .i64 0, .string { data := #[] }, .string { data := #[] }, .string { data := #[] }, .int .i64 0, .int .i64 0] 81)).drew).cell? ⟨wr.heap.size, 6, none⟩ = some (.int .i64 0) := cell_in HBY.out (i := 6) rfl
                    have z7 : ((wr.alloc (.cells #[.int .i8 0, .int .i64 (1048576 * (n : Int) + (k : Int) + 1), .int .i64 0, .string { data := #[] }, .string { data := #[] }, .string { data := #[] }, .int .i64 0, .int .i64 0] 81)).drew).cell? ⟨wr.heap.size, 7, none⟩ = some (.int .i64 0) := cell_in HBY.out (i := 7) rfl
                    refine wp_region_plan (S := fun w' => w'.cell? ⟨wr.heap.size, 0, none⟩ = some (.int .i8 0) ∧ w'.cell? ⟨wr.heap.size, 1, none⟩ = some (.int .i64 (1048576 * (n : Int) + (k : Int) + 1)) ∧ w'.cell? ⟨wr.heap.size, 2, none⟩ = some (.int .i64 0) ∧ w'.cell? ⟨wr.heap.size, 3, none⟩ = some (.string { data := #[] }) ∧ w'.cell? ⟨wr.heap.size, 4, none⟩ = some (.string { data := #[] }) ∧ w'.cell? ⟨wr.heap.size, 5, none⟩ = some (.string { data := #[] }) ∧ w'.cell? ⟨wr.heap.size, 6, none⟩ = some (.int .i64 0) ∧ w'.cell? ⟨wr.heap.size, 7, none⟩ = some (.int .i64 0)) [(0, true), (1, true), (2, true), (3, true), (4, true), (5, true), (6, false), (7, true), (8, true), (9, true), (10, true)] (by kernel_rfl) (by kernel_rfl) (by kernel_rfl) (fun _ _ _ _ _ h => h) ⟨z0, z1, z2, z3, z4, z5, z6, z7⟩ ?_
                    intro HS
                    repeat (first | (apply wpPlan_look; rfl; rfl; (intro wq hq; (try dsimp only at hq); go_split_ands; go_simp; (try rw [if_neg (by omega)]); (try rw [if_pos (by omega)]); try with_reducible rfl); simp only [Act.put, List.setIfInBounds_toArray, List.set_cons_zero, List.set_cons_succ]) | (apply wpPlan_skip; rfl; rfl; simp only [Act.put, List.setIfInBounds_toArray, List.set_cons_zero, List.set_cons_succ]) | (apply wpPlan_pass; rfl; rfl; assumption; simp only [Act.put, List.setIfInBounds_toArray, List.set_cons_zero, List.set_cons_succ]))
                    apply wpPlan_call; rfl; rfl; rfl; rfl; kernel_rfl; exact bnum_any n k (by omega) (by omega) _; rfl; rintro e w' ⟨rfl, rfl⟩
                    refine ⟨_, rfl, as_S HS ?_⟩
                    intro HS2
                    simp only [Act.put, List.setIfInBounds_toArray, List.set_cons_zero, List.set_cons_succ]
                    repeat (first | (apply wpPlan_look; rfl; rfl; (intro wq hq; (try dsimp only at hq); go_split_ands; go_simp; (try rw [if_neg (by omega)]); (try rw [if_pos (by omega)]); try with_reducible rfl); simp only [Act.put, List.setIfInBounds_toArray, List.set_cons_zero, List.set_cons_succ]) | (apply wpPlan_skip; rfl; rfl; simp only [Act.put, List.setIfInBounds_toArray, List.set_cons_zero, List.set_cons_succ]) | (apply wpPlan_pass; rfl; rfl; assumption; simp only [Act.put, List.setIfInBounds_toArray, List.set_cons_zero, List.set_cons_succ]))
                    change wpPlan _ _ _ _ _ _ ((wr.alloc (.cells #[.int .i8 0, .int .i64 (1048576 * (n : Int) + (k : Int) + 1), .int .i64 0, .string { data := #[] }, .string { data := #[] }, .string { data := #[] }, .int .i64 0, .int .i64 0] 81)).drew.drew)
                    apply wpPlan_done
                    have hb3 : Below wr.heap.size wr ((wr.alloc (.cells #[.int .i8 0, .int .i64 (1048576 * (n : Int) + (k : Int) + 1), .int .i64 0, .string { data := #[] }, .string { data := #[] }, .string { data := #[] }, .int .i64 0, .int .i64 0] 81)).drew.drew) := ((Below.refl _ _).alloc (Nat.le_refl _) _).drew.drew
                    have HQ2 := Lib.hid (HQ.out.later hb3)
                    have HB2 : Hid (Below B w ((wr.alloc (.cells #[.int .i8 0, .int .i64 (1048576 * (n : Int) + (k : Int) + 1), .int .i64 0, .string { data := #[] }, .string { data := #[] }, .string { data := #[] }, .int .i64 0, .int .i64 0] 81)).drew.drew)) := Lib.hid (HB.out.trans (hb3.mono (Nat.le_trans hBw HB.out.size)))
                    have HST2 := Lib.hid (HST.out.below hb3)
                    clear HS HS2 hb3 m1 HQ HB HST HQ1 HB1 HST1 HBX HBY s0 z0 s1 z1 s2 z2 s3 z3 s4 z4 s5 z5 s6 z6 s7 z7
                    go_wp2_with fail
                    go_roundw
                    case rel => exact ⟨k + 1, by omega, by go_num, HQ2, HB2, HST2⟩
                    case measure => simp [intOf]; omega
                  · by_cases hk2 : k = L n
                    · have e4 : (((k : Nat) : Int) == ((L n : Nat) : Int)) = true := int_eq' hk2
                      have u0 : (wr.alloc (.cells #[.int .i8 0, .int .i64 (1048576 * (n : Int) + (k : Int) + 1), .int .i64 0, .string { data := #[] }, .string { data := #[] }, .string { data := #[] }, .int .i64 0, .int .i64 0] 81)).cell? ⟨gu, k * 8, none⟩ = some (.int .i8 0) := BagS.own_mark (mk := mkN) mkN_len (HQ1.out.us n _ HU.out).1 (by omega) (i := 0) rfl
                      have u1 : (wr.alloc (.cells #[.int .i8 0, .int .i64 (1048576 * (n : Int) + (k : Int) + 1), .int .i64 0, .string { data := #[] }, .string { data := #[] }, .string { data := #[] }, .int .i64 0, .int .i64 0] 81)).cell? ⟨gu, k * 8 + 1, none⟩ = some (.int .i64 (1048576 * (n : Int) + (k : Int) + 1)) := BagS.own_mark (mk := mkN) mkN_len (HQ1.out.us n _ HU.out).1 (by omega) (i := 1) rfl
                      have u2 : (wr.alloc (.cells #[.int .i8 0, .int .i64 (1048576 * (n : Int) + (k : Int) + 1), .int .i64 0, .string { data := #[] }, .string { data := #[] }, .string { data := #[] }, .int .i64 0, .int .i64 0] 81)).cell? ⟨gu, k * 8 + 2, none⟩ = some (.int .i64 0) := BagS.own_mark (mk := mkN) mkN_len (HQ1.out.us n _ HU.out).1 (by omega) (i := 2) rfl
                      have u3 : (wr.alloc (.cells #[.int .i8 0, .int .i64 (1048576 * (n : Int) + (k : Int) + 1), .int .i64 0, .string { data := #[] }, .string { data := #[] }, .string { data := #[] }, .int .i64 0, .int .i64 0] 81)).cell? ⟨gu, k * 8 + 3, none⟩ = some (.string { data := #[] }) := BagS.own_mark (mk := mkN) mkN_len (HQ1.out.us n _ HU.out).1 (by omega) (i := 3) rfl
                      have u4 : (wr.alloc (.cells #[.int .i8 0, .int .i64 (1048576 * (n : Int) + (k : Int) + 1), .int .i64 0, .string { data := #[] }, .string { data := #[] }, .string { data := #[] }, .int .i64 0, .int .i64 0] 81)).cell? ⟨gu, k * 8 + 4, none⟩ = some (.string { data := #[] }) := BagS.own_mark (mk := mkN) mkN_len (HQ1.out.us n _ HU.out).1 (by omega) (i := 4) rfl
                      have u5 : (wr.alloc (.cells #[.int .i8 0, .int .i64 (1048576 * (n : Int) + (k : Int) + 1), .int .i64 0, .string { data := #[] }, .string { data := #[] }, .string { data := #[] }, .int .i64 0, .int .i64 0] 81)).cell? ⟨gu, k * 8 + 5, none⟩ = some (.string { data := #[] }) := BagS.own_mark (mk := mkN) mkN_len (HQ1.out.us n _ HU.out).1 (by omega) (i := 5) rfl
                      have u6 : (wr.alloc (.cells #[.int .i8 0, .int .i64 (1048576 * (n : Int) + (k : Int) + 1), .int .i64 0, .string { data := #[] }, .string { data := #[] }, .string { data := #[] }, .int .i64 0, .int .i64 0] 81)).cell? ⟨gu, k * 8 + 6, none⟩ = some (.int .i64 0) := BagS.own_mark (mk := mkN) mkN_len (HQ1.out.us n _ HU.out).1 (by omega) (i := 6) rfl
                      have u7 : (wr.alloc (.cells #[.int .i8 0, .int .i64 (1048576 * (n : Int) + (k : Int) + 1), .int .i64 0, .string { data := #[] }, .string { data := #[] }, .string { data := #[] }, .int .i64 0, .int .i64 0] 81)).cell? ⟨gu, k * 8 + 7, none⟩ = some (.int .i64 0) := BagS.own_mark (mk := mkN) mkN_len (HQ1.out.us n _ HU.out).1 (by omega) (i := 7) rfl
                      have hk3 : k < L n + 1 := by omega
                      have e6 : ¬ ((k : Nat) : Int) < ((L n : Nat) : Int) := by omega
                      clear hk2
                      go_wp2_with fail
                      have z0 : (wr.alloc (.cells #[.int .i8 0, .int .i64 (1048576 * (n : Int) + (k : Int) + 1), .int .i64 0, .string { data := #[] }, .string { data := #[] }, .string { data := #[] }, .int .i64 0, .int .i64 0] 81)).cell? ⟨wr.heap.size, 0, none⟩ = some (.int .i8 0) := cell_in HBX.out (i := 0) rfl
                      have z1 : (wr.alloc (.cells #[.int .i8 0, .int .i64 (1048576 * (n : Int) + (k : Int) + 1), .int .i64 0, .string { data := #[] }, .string { data := #[] }, .string { data := #[] }, .int .i64 0, .int .i64 0] 81)).cell? ⟨wr.heap.size, 1, none⟩ = some (.int .i64 (1048576 * (n : Int) + (k : Int) + 1)) := cell_in HBX.out (i := 1) rfl
                      have z2 : (wr.alloc (.cells #[.int .i8 0, .int .i64 (1048576 * (n : Int) + (k : Int) + 1), .int .i64 0, .string { data := #[] }, .string { data := #[] }, .string { data := #[] }, .int .i64 0, .int .i64 0] 81)).cell? ⟨wr.heap.size, 2, none⟩ = some (.int .i64 0) := cell_in HBX.out (i := 2) rfl
                      have z3 : (wr.alloc (.cells #[.int .i8 0, .int .i64 (1048576 * (n : Int) + (k : Int) + 1), .int .i64 0, .string { data := #[] }, .string { data := #[] }, .string { data := #[] }, .int .i64 0, .int .i64 0] 81)).cell? ⟨wr.heap.size, 3, none⟩ = some (.string { data := #[] }) := cell_in HBX.out (i := 3) rfl
                      have z4 : (wr.alloc (.cells #[.int .i8 0, .int .i64 (1048576 * (n : Int) + (k : Int) + 1), .int .i64 0, .string { data := #[] }, .string { data := #[] }, .string { data := #[] }, .int .i64 0, .int .i64 0] 81)).cell? ⟨wr.heap.size, 4, none⟩ = some (.string { data := #[] }) := cell_in HBX.out (i := 4) rfl
                      have z5 : (wr.alloc (.cells #[.int .i8 0, .int .i64 (1048576 * (n : Int) + (k : Int) + 1), .int .i64 0, .string { data := #[] }, .string { data := #[] }, .string { data := #[] }, .int .i64 0, .int .i64 0] 81)).cell? ⟨wr.heap.size, 5, none⟩ = some (.string { data := #[] }) := cell_in HBX.out (i := 5) rfl
                      have z6 : (wr.alloc (.cells #[.int .i8 0, .int .i64 (1048576 * (n : Int) + (k : Int) + 1), .int .i64 0, .string { data := #[] }, .string { data := #[] }, .string { data := #[] }, .int .i64 0, .int .i64 0] 81)).cell? ⟨wr.heap.size, 6, none⟩ = some (.int .i64 0) := cell_in HBX.out (i := 6) rfl
                      have z7 : (wr.alloc (.cells #[.int .i8 0, .int .i64 (1048576 * (n : Int) + (k : Int) + 1), .int .i64 0, .string { data := #[] }, .string { data := #[] }, .string { data := #[] }, .int .i64 0, .int .i64 0] 81)).cell? ⟨wr.heap.size, 7, none⟩ = some (.int .i64 0) := cell_in HBX.out (i := 7) rfl
                      refine wp_region_plan (S := fun w' => w'.cell? ⟨wr.heap.size, 0, none⟩ = some (.int .i8 0) ∧ w'.cell? ⟨wr.heap.size, 1, none⟩ = some (.int .i64 (1048576 * (n : Int) + (k : Int) + 1)) ∧ w'.cell? ⟨wr.heap.size, 2, none⟩ = some (.int .i64 0) ∧ w'.cell? ⟨wr.heap.size, 3, none⟩ = some (.string { data := #[] }) ∧ w'.cell? ⟨wr.heap.size, 4, none⟩ = some (.string { data := #[] }) ∧ w'.cell? ⟨wr.heap.size, 5, none⟩ = some (.string { data := #[] }) ∧ w'.cell? ⟨wr.heap.size, 6, none⟩ = some (.int .i64 0) ∧ w'.cell? ⟨wr.heap.size, 7, none⟩ = some (.int .i64 0)) [(0, true), (1, true), (2, true), (3, false), (4, true), (5, true), (6, true)] (by kernel_rfl) (by kernel_rfl) (by kernel_rfl) (fun _ _ _ _ _ h => h) ⟨z0, z1, z2, z3, z4, z5, z6, z7⟩ ?_
                      intro HS
                      repeat (first | (apply wpPlan_look; rfl; rfl; (intro wq hq; (try dsimp only at hq); go_split_ands; go_simp; (try rw [if_neg (by omega)]); (try rw [if_pos (by omega)]); try with_reducible rfl); simp only [Act.put, List.setIfInBounds_toArray, List.set_cons_zero, List.set_cons_succ]) | (apply wpPlan_skip; rfl; rfl; simp only [Act.put, List.setIfInBounds_toArray, List.set_cons_zero, List.set_cons_succ]) | (apply wpPlan_pass; rfl; rfl; assumption; simp only [Act.put, List.setIfInBounds_toArray, List.set_cons_zero, List.set_cons_succ]))
                      apply wpPlan_call; rfl; rfl; rfl; rfl; kernel_rfl; exact bnum_any n k (by omega) (by omega) _; rfl; rintro e w' ⟨rfl, rfl⟩
                      refine ⟨_, rfl, as_S HS ?_⟩
                      intro HS2
                      simp only [Act.put, List.setIfInBounds_toArray, List.set_cons_zero, List.set_cons_succ]
                      repeat (first | (apply wpPlan_look; rfl; rfl; (intro wq hq; (try dsimp only at hq); go_split_ands; go_simp; (try rw [if_neg (by omega)]); (try rw [if_pos (by omega)]); try with_reducible rfl); simp only [Act.put, List.setIfInBounds_toArray, List.set_cons_zero, List.set_cons_succ]) | (apply wpPlan_skip; rfl; rfl; simp only [Act.put, List.setIfInBounds_toArray, List.set_cons_zero, List.set_cons_succ]) | (apply wpPlan_pass; rfl; rfl; assumption; simp only [Act.put, List.setIfInBounds_toArray, List.set_cons_zero, List.set_cons_succ]))
                      change wpPlan _ _ _ _ _ _ ((wr.alloc (.cells #[.int .i8 0, .int .i64 (1048576 * (n : Int) + (k : Int) + 1), .int .i64 0, .string { data := #[] }, .string { data := #[] }, .string { data := #[] }, .int .i64 0, .int .i64 0] 81)).drew)
                      apply wpPlan_done
                      have hb2 : Below wr.heap.size wr ((wr.alloc (.cells #[.int .i8 0, .int .i64 (1048576 * (n : Int) + (k : Int) + 1), .int .i64 0, .string { data := #[] }, .string { data := #[] }, .string { data := #[] }, .int .i64 0, .int .i64 0] 81)).drew) := ((Below.refl _ _).alloc (Nat.le_refl _) _).drew
                      have HBY : Hid (((wr.alloc (.cells #[.int .i8 0, .int .i64 (1048576 * (n : Int) + (k : Int) + 1), .int .i64 0, .string { data := #[] }, .string { data := #[] }, .string { data := #[] }, .int .i64 0, .int .i64 0] 81)).drew).heap[wr.heap.size]? = some (.cells #[.int .i8 0, .int .i64 (1048576 * (n : Int) + (k : Int) + 1), .int .i64 0, .string { data := #[] }, .string { data := #[] }, .string { data := #[] }, .int .i64 0, .int .i64 0] 81 (0, 0))) := Lib.hid (MapKept.heap_alloc wr _).1
                      have m1 := cell_later hb2 m0
                      have s0 := cell_later hb2 y0
                      have s1 := cell_later hb2 y1
                      have s2 := cell_later hb2 y2
                      have s3 := cell_later hb2 y3
                      have s4 := cell_later hb2 y4
                      have s5 := cell_later hb2 y5
                      have s6 := cell_later hb2 y6
                      have s7 := cell_later hb2 y7
                      clear HS HS2 hb2 m0 d1 q0 q1 q2 y0 z0 y1 z1 y2 z2 y3 z3 y4 z4 y5 z5 y6 z6 y7 z7 u0 u1 u2 u3 u4 u5 u6 u7 e4 e6 hk3
                      go_wp2_with fail
                      have z0 : ((wr.alloc (.cells #[.int .i8 0, .int .i64 (1048576 * (n : Int) + (k : Int) + 1), .int .i64 0, .string { data := #[] }, .string { data := #[] }, .string { data := #[] }, .int .i64 0, .int .i64 0] 81)).drew).cell? ⟨wr.heap.size, 0, none⟩ = some (.int .i8 0) := cell_in HBY.out (i := 0) rfl
                      have z1 : ((wr.alloc (.cells #[.int .i8 0, .int .i64 (1048576 * (n : Int) + (k : Int) + 1), .int .i64 0, .string { data := #[] }, .string { data := #[] }, .string { data := #[] }, .int .i64 0, .int .i64 0] 81)).drew).cell? ⟨wr.heap.size, 1, none⟩ = some (.int .i64 (1048576 * (n : Int) + (k : Int) + 1)) := cell_in HBY.out (i := 1) rfl
                      have z2 : ((wr.alloc (.cells #[.int .i8 0, .int .i64 (1048576 * (n : Int) + (k : Int) + 1), .int .i64 0, .string { data := #[] }, .string { data := #[] }, .string { data := #[] }, .int .i64 0, .int .i64 0] 81)).drew).cell? ⟨wr.heap.size, 2, none⟩ = some (.int .i64 0) := cell_in HBY.out (i := 2) rfl
                      have z3 : ((wr.alloc (.cells #[.int .i8 0, .int .i64 (1048576 * (n : Int) + (k : Int) + 1), .int .i64 0, .string { data := #[] }, .string { data := #[] }, .string { data := #[] }, .int .i64 0, .int .i64 0] 81)).drew).cell? ⟨wr.heap.size, 3, none⟩ = some (.string { data := #[] }) := cell_in HBY.out (i := 3) rfl
                      have z4 : ((wr.alloc (.cells #[.int .i8 0, .int .i64 (1048576 * (n : Int) + (k : Int) + 1), .int .i64 0, .string { data := #[] }, .string { data := #[] }, .string { data := #[] }, .int .i64 0, .int .i64 0] 81)).drew).cell? ⟨wr.heap.size, 4, none⟩ = some (.string { data := #[] }) := cell_in HBY.out (i := 4) rfl
                      have z5 : ((wr.alloc (.cells #[.int .i8 0, .int .i64 (1048576 * (n : Int) + (k : Int) + 1), .int .i64 0, .string { data := #[] }, .string { data := #[] }, .string { data := #[] }, .int .i64 0, .int .i64 0] 81)).drew).cell? ⟨wr.heap.size, 5, none⟩ = some (.string { data := #[] }) := cell_in HBY.out (i := 5) rfl
                      have z6 : ((wr.alloc (.cells #[.int .i8 0, .int .i64 (1048576 * (n : Int) + (k : Int) + 1), .int .i64 0, .string { data := #[] }, .string { data := #[] }, .string { data := #[] }, .int .i64 0, .int .i64 0] 81)).drew).cell? ⟨wr.heap.size, 6, none⟩ = some (.int .i64 0) := cell_in HBY.out (i := 6) rfl
                      have z7 : ((wr.alloc (.cells #[.int .i8 0, .int .i64 (1048576 * (n : Int) + (k : Int) + 1), .int .i64 0, .string { data := #[] }, .string { data := #[] }, .string { data := #[] }, .int .i64 0, .int .i64 0] 81)).drew).cell? ⟨wr.heap.size, 7, none⟩ = some (.int .i64 0) := cell_in HBY.out (i := 7) rfl
                      refine wp_region_plan (S := fun w' => w'.cell? ⟨wr.heap.size, 0, none⟩ = some (.int .i8 0) ∧ w'.cell? ⟨wr.heap.size, 1, none⟩ = some (.int .i64 (1048576 * (n : Int) + (k : Int) + 1)) ∧ w'.cell? ⟨wr.heap.size, 2, none⟩ = some (.int .i64 0) ∧ w'.cell? ⟨wr.heap.size, 3, none⟩ = some (.string { data := #[] }) ∧ w'.cell? ⟨wr.heap.size, 4, none⟩ = some (.string { data := #[] }) ∧ w'.cell? ⟨wr.heap.size, 5, none⟩ = some (.string { data := #[] }) ∧ w'.cell? ⟨wr.heap.size, 6, none⟩ = some (.int .i64 0) ∧ w'.cell? ⟨wr.heap.size, 7, none⟩ = some (.int .i64 0)) [(0, true), (1, true), (2, true), (3, true), (4, true), (5, true), (6, false), (7, true), (8, true), (9, true), (10, true)] (by kernel_rfl) (by kernel_rfl) (by kernel_rfl) (fun _ _ _ _ _ h => h) ⟨z0, z1, z2, z3, z4, z5, z6, z7⟩ ?_
                      intro HS
                      repeat (first | (apply wpPlan_look; rfl; rfl; (intro wq hq; (try dsimp only at hq); go_split_ands; go_simp; (try rw [if_neg (by omega)]); (try rw [if_pos (by omega)]); try with_reducible rfl); simp only [Act.put, List.setIfInBounds_toArray, List.set_cons_zero, List.set_cons_succ]) | (apply wpPlan_skip; rfl; rfl; simp only [Act.put, List.setIfInBounds_toArray, List.set_cons_zero, List.set_cons_succ]) | (apply wpPlan_pass; rfl; rfl; assumption; simp only [Act.put, List.setIfInBounds_toArray, List.set_cons_zero, List.set_cons_succ]))
                      apply wpPlan_call; rfl; rfl; rfl; rfl; kernel_rfl; exact bnum_any n k (by omega) (by omega) _; rfl; rintro e w' ⟨rfl, rfl⟩
                      refine ⟨_, rfl, as_S HS ?_⟩
                      intro HS2
                      simp only [Act.put, List.setIfInBounds_toArray, List.set_cons_zero, List.set_cons_succ]
                      repeat (first | (apply wpPlan_look; rfl; rfl; (intro wq hq; (try dsimp only at hq); go_split_ands; go_simp; (try rw [if_neg (by omega)]); (try rw [if_pos (by omega)]); try with_reducible rfl); simp only [Act.put, List.setIfInBounds_toArray, List.set_cons_zero, List.set_cons_succ]) | (apply wpPlan_skip; rfl; rfl; simp only [Act.put, List.setIfInBounds_toArray, List.set_cons_zero, List.set_cons_succ]) | (apply wpPlan_pass; rfl; rfl; assumption; simp only [Act.put, List.setIfInBounds_toArray, List.set_cons_zero, List.set_cons_succ]))
                      change wpPlan _ _ _ _ _ _ ((wr.alloc (.cells #[.int .i8 0, .int .i64 (1048576 * (n : Int) + (k : Int) + 1), .int .i64 0, .string { data := #[] }, .string { data := #[] }, .string { data := #[] }, .int .i64 0, .int .i64 0] 81)).drew.drew)
                      apply wpPlan_done
                      have hb3 : Below wr.heap.size wr ((wr.alloc (.cells #[.int .i8 0, .int .i64 (1048576 * (n : Int) + (k : Int) + 1), .int .i64 0, .string { data := #[] }, .string { data := #[] }, .string { data := #[] }, .int .i64 0, .int .i64 0] 81)).drew.drew) := ((Below.refl _ _).alloc (Nat.le_refl _) _).drew.drew
                      have HQ2 := Lib.hid (HQ.out.later hb3)
                      have HB2 : Hid (Below B w ((wr.alloc (.cells #[.int .i8 0, .int .i64 (1048576 * (n : Int) + (k : Int) + 1), .int .i64 0, .string { data := #[] }, .string { data := #[] }, .string { data := #[] }, .int .i64 0, .int .i64 0] 81)).drew.drew)) := Lib.hid (HB.out.trans (hb3.mono (Nat.le_trans hBw HB.out.size)))
                      have HST2 := Lib.hid (HST.out.below hb3)
                      clear HS HS2 hb3 m1 HQ HB HST HQ1 HB1 HST1 HBX HBY s0 z0 s1 z1 s2 z2 s3 z3 s4 z4 s5 z5 s6 z6 s7 z7
                      go_wp2_with fail
                      go_roundw
                      case rel => exact ⟨k + 1, by omega, by go_num, HQ2, HB2, HST2⟩
                      case measure => simp [intOf]; omega
                    · have e4 : (((k : Nat) : Int) == ((L n : Nat) : Int)) = false := beq_no (by omega)
                      have e6 : ¬ ((k : Nat) : Int) < ((L n : Nat) : Int) := by omega
                      clear hk2
                      go_wp2_with fail
                      have z0 : (wr.alloc (.cells #[.int .i8 0, .int .i64 (1048576 * (n : Int) + (k : Int) + 1), .int .i64 0, .string { data := #[] }, .string { data := #[] }, .string { data := #[] }, .int .i64 0, .int .i64 0] 81)).cell? ⟨wr.heap.size, 0, none⟩ = some (.int .i8 0) := cell_in HBX.out (i := 0) rfl
                      have z1 : (wr.alloc (.cells #[.int .i8 0, .int .i64 (1048576 * (n : Int) + (k : Int) + 1), .int .i64 0, .string { data := #[] }, .string { data := #[] }, .string { data := #[] }, .int .i64 0, .int .i64 0] 81)).cell? ⟨wr.heap.size, 1, none⟩ = some (.int .i64 (1048576 * (n : Int) + (k : Int) + 1)) := cell_in HBX.out (i := 1) rfl
                      have z2 : (wr.alloc (.cells #[.int .i8 0, .int .i64 (1048576 * (n : Int) + (k : Int) + 1), .int .i64 0, .string { data := #[] }, .string { data := #[] }, .string { data := #[] }, .int .i64 0, .int .i64 0] 81)).cell? ⟨wr.heap.size, 2, none⟩ = some (.int .i64 0) := cell_in HBX.out (i := 2) rfl
                      have z3 : (wr.alloc (.cells #[.int .i8 0, .int .i64 (1048576 * (n : Int) + (k : Int) + 1), .int .i64 0, .string { data := #[] }, .string { data := #[] }, .string { data := #[] }, .int .i64 0, .int .i64 0] 81)).cell? ⟨wr.heap.size, 3, none⟩ = some (.string { data := #[] }) := cell_in HBX.out (i := 3) rfl
                      have z4 : (wr.alloc (.cells #[.int .i8 0, .int .i64 (1048576 * (n : Int) + (k : Int) + 1), .int .i64 0, .string { data := #[] }, .string { data := #[] }, .string { data := #[] }, .int .i64 0, .int .i64 0] 81)).cell? ⟨wr.heap.size, 4, none⟩ = some (.string { data := #[] }) := cell_in HBX.out (i := 4) rfl
                      have z5 : (wr.alloc (.cells #[.int .i8 0, .int .i64 (1048576 * (n : Int) + (k : Int) + 1), .int .i64 0, .string { data := #[] }, .string { data := #[] }, .string { data := #[] }, .int .i64 0, .int .i64 0] 81)).cell? ⟨wr.heap.size, 5, none⟩ = some (.string { data := #[] }) := cell_in HBX.out (i := 5) rfl
                      have z6 : (wr.alloc (.cells #[.int .i8 0, .int .i64 (1048576 * (n : Int) + (k : Int) + 1), .int .i64 0, .string { data := #[] }, .string { data := #[] }, .string { data := #[] }, .int .i64 0, .int .i64 0] 81)).cell? ⟨wr.heap.size, 6, none⟩ = some (.int .i64 0) := cell_in HBX.out (i := 6) rfl
                      have z7 : (wr.alloc (.cells #[.int .i8 0, .int .i64 (1048576 * (n : Int) + (k : Int) + 1), .int .i64 0, .string { data := #[] }, .string { data := #[] }, .string { data := #[] }, .int .i64 0, .int .i64 0] 81)).cell? ⟨wr.heap.size, 7, none⟩ = some (.int .i64 0) := cell_in HBX.out (i := 7) rfl
                      refine wp_region_plan (S := fun w' => w'.cell? ⟨wr.heap.size, 0, none⟩ = some (.int .i8 0) ∧ w'.cell? ⟨wr.heap.size, 1, none⟩ = some (.int .i64 (1048576 * (n : Int) + (k : Int) + 1)) ∧ w'.cell? ⟨wr.heap.size, 2, none⟩ = some (.int .i64 0) ∧ w'.cell? ⟨wr.heap.size, 3, none⟩ = some (.string { data := #[] }) ∧ w'.cell? ⟨wr.heap.size, 4, none⟩ = some (.string { data := #[] }) ∧ w'.cell? ⟨wr.heap.size, 5, none⟩ = some (.string { data := #[] }) ∧ w'.cell? ⟨wr.heap.size, 6, none⟩ = some (.int .i64 0) ∧ w'.cell? ⟨wr.heap.size, 7, none⟩ = some (.int .i64 0)) [(0, true), (1, true), (2, true), (3, false), (4, true), (5, true), (6, true)] (by kernel_rfl) (by kernel_rfl) (by kernel_rfl) (fun _ _ _ _ _ h => h) ⟨z0, z1, z2, z3, z4, z5, z6, z7⟩ ?_
                      intro HS
                      repeat (first | (apply wpPlan_look; rfl; rfl; (intro wq hq; (try dsimp only at hq); go_split_ands; go_simp; (try rw [if_neg (by omega)]); (try rw [if_pos (by omega)]); try with_reducible rfl); simp only [Act.put, List.setIfInBounds_toArray, List.set_cons_zero, List.set_cons_succ]) | (apply wpPlan_skip; rfl; rfl; simp only [Act.put, List.setIfInBounds_toArray, List.set_cons_zero, List.set_cons_succ]) | (apply wpPlan_pass; rfl; rfl; assumption; simp only [Act.put, List.setIfInBounds_toArray, List.set_cons_zero, List.set_cons_succ]))
                      apply wpPlan_call; rfl; rfl; rfl; rfl; kernel_rfl; exact bnum_any n k (by omega) (by omega) _; rfl; rintro e w' ⟨rfl, rfl⟩
                      refine ⟨_, rfl, as_S HS ?_⟩
                      intro HS2
                      simp only [Act.put, List.setIfInBounds_toArray, List.set_cons_zero, List.set_cons_succ]
                      repeat (first | (apply wpPlan_look; rfl; rfl; (intro wq hq; (try dsimp only at hq); go_split_ands; go_simp; (try rw [if_neg (by omega)]); (try rw [if_pos (by omega)]); try with_reducible rfl); simp only [Act.put, List.setIfInBounds_toArray, List.set_cons_zero, List.set_cons_succ]) | (apply wpPlan_skip; rfl; rfl; simp only [Act.put, List.setIfInBounds_toArray, List.set_cons_zero, List.set_cons_succ]) | (apply wpPlan_pass; rfl; rfl; assumption; simp only [Act.put, List.setIfInBounds_toArray, List.set_cons_zero, List.set_cons_succ]))
                      change wpPlan _ _ _ _ _ _ ((wr.alloc (.cells #[.int .i8 0, .int .i64 (1048576 * (n : Int) + (k : Int) + 1), .int .i64 0, .string { data := #[] }, .string { data := #[] }, .string { data := #[] }, .int .i64 0, .int .i64 0] 81)).drew)
                      apply wpPlan_done
                      have hb2 : Below wr.heap.size wr ((wr.alloc (.cells #[.int .i8 0, .int .i64 (1048576 * (n : Int) + (k : Int) + 1), .int .i64 0, .string { data := #[] }, .string { data := #[] }, .string { data := #[] }, .int .i64 0, .int .i64 0] 81)).drew) := ((Below.refl _ _).alloc (Nat.le_refl _) _).drew
                      have HBY : Hid (((wr.alloc (.cells #[.int .i8 0, .int .i64 (1048576 * (n : Int) + (k : Int) + 1), .int .i64 0, .string { data := #[] }, .string { data := #[] }, .string { data := #[] }, .int .i64 0, .int .i64 0] 81)).drew).heap[wr.heap.size]? = some (.cells #[.int .i8 0, .int .i64 (1048576 * (n : Int) + (k : Int) + 1), .int .i64 0, .string { data := #[] }, .string { data := #[] }, .string { data := #[] }, .int .i64 0, .int .i64 0] 81 (0, 0))) := Lib.hid (MapKept.heap_alloc wr _).1
                      have m1 := cell_later hb2 m0
                      have s0 := cell_later hb2 y0
                      have s1 := cell_later hb2 y1
                      have s2 := cell_later hb2 y2
                      have s3 := cell_later hb2 y3
                      have s4 := cell_later hb2 y4
                      have s5 := cell_later hb2 y5
                      have s6 := cell_later hb2 y6
                      have s7 := cell_later hb2 y7
                      clear HS HS2 hb2 m0 d1 q0 q1 q2 y0 z0 y1 z1 y2 z2 y3 z3 y4 z4 y5 z5 y6 z6 y7 z7 e4 e6
                      go_wp2_with fail
                      have z0 : ((wr.alloc (.cells #[.int .i8 0, .int .i64 (1048576 * (n : Int) + (k : Int) + 1), .int .i64 0, .string { data := #[] }, .string { data := #[] }, .string { data := #[] }, .int .i64 0, .int .i64 0] 81)).drew).cell? ⟨wr.heap.size, 0, none⟩ = some (.int .i8 0) := cell_in HBY.out (i := 0) rfl
                      have z1 : ((wr.alloc (.cells #[.int .i8 0, .int .i64 (1048576 * (n : Int) + (k : Int) + 1), .int .i64 0, .string { data := #[] }, .string { data := #[] }, .string { data := #[] }, .int .i64 0, .int .i64 0] 81)).drew).cell? ⟨wr.heap.size, 1, none⟩ = some (.int .i64 (1048576 * (n : Int) + (k : Int) + 1)) := cell_in HBY.out (i := 1) rfl
                      have z2 : ((wr.alloc (.cells #[.int .i8 0, .int .i64 (1048576 * (n : Int) + (k : Int) + 1), .int .i64 0, .string { data := #[] }, .string { data := #[] }, .string { data := #[] }, .int .i64 0, .int .i64 0] 81)).drew).cell? ⟨wr.heap.size, 2, none⟩ = some (.int .i64 0) := cell_in HBY.out (i := 2) rfl
                      have z3 : ((wr.alloc (.cells #[.int .i8 0, .int .i64 (1048576 * (n : Int) + (k : Int) + 1), .int .i64 0, .string { data := #[] }, .string { data := #[] }, .string { data := #[] }, .int .i64 0, .int .i64 0] 81)).drew).cell? ⟨wr.heap.size, 3, none⟩ = some (.string { data := #[] }) := cell_in HBY.out (i := 3) rfl
                      have z4 : ((wr.alloc (.cells #[.int .i8 0, .int .i64 (1048576 * (n : Int) + (k : Int) + 1), .int .i64 0, .string { data := #[] }, .string { data := #[] }, .string { data := #[] }, .int .i64 0, .int .i64 0] 81)).drew).cell? ⟨wr.heap.size, 4, none⟩ = some (.string { data := #[] }) := cell_in HBY.out (i := 4) rfl
                      have z5 : ((wr.alloc (.cells #[.int .i8 0, .int .i64 (1048576 * (n : Int) + (k : Int) + 1), .int .i64 0, .string { data := #[] }, .string { data := #[] }, .string { data := #[] }, .int .i64 0, .int .i64 0] 81)).drew).cell? ⟨wr.heap.size, 5, none⟩ = some (.string { data := #[] }) := cell_in HBY.out (i := 5) rfl
                      have z6 : ((wr.alloc (.cells #[.int .i8 0, .int .i64 (1048576 * (n : Int) + (k : Int) + 1), .int .i64 0, .string { data := #[] }, .string { data := #[] }, .string { data := #[] }, .int .i64 0, .int .i64 0] 81)).drew).cell? ⟨wr.heap.size, 6, none⟩ = some (.int .i64 0) := cell_in HBY.out (i := 6) rfl
                      have z7 : ((wr.alloc (.cells #[.int .i8 0, .int .i64 (1048576 * (n : Int) + (k : Int) + 1), .int .i64 0, .string { data := #[] }, .string { data := #[] }, .string { data := #[] }, .int .i64 0, .int .i64 0] 81)).drew).cell? ⟨wr.heap.size, 7, none⟩ = some (.int .i64 0) := cell_in HBY.out (i := 7) rfl
                      refine wp_region_plan (S := fun w' => w'.cell? ⟨wr.heap.size, 0, none⟩ = some (.int .i8 0) ∧ w'.cell? ⟨wr.heap.size, 1, none⟩ = some (.int .i64 (1048576 * (n : Int) + (k : Int) + 1)) ∧ w'.cell? ⟨wr.heap.size, 2, none⟩ = some (.int .i64 0) ∧ w'.cell? ⟨wr.heap.size, 3, none⟩ = some (.string { data := #[] }) ∧ w'.cell? ⟨wr.heap.size, 4, none⟩ = some (.string { data := #[] }) ∧ w'.cell? ⟨wr.heap.size, 5, none⟩ = some (.string { data := #[] }) ∧ w'.cell? ⟨wr.heap.size, 6, none⟩ = some (.int .i64 0) ∧ w'.cell? ⟨wr.heap.size, 7, none⟩ = some (.int .i64 0)) [(0, true), (1, true), (2, true), (3, true), (4, true), (5, true), (6, false), (7, true), (8, true), (9, true), (10, true)] (by kernel_rfl) (by kernel_rfl) (by kernel_rfl) (fun _ _ _ _ _ h => h) ⟨z0, z1, z2, z3, z4, z5, z6, z7⟩ ?_
                      intro HS
                      repeat (first | (apply wpPlan_look; rfl; rfl; (intro wq hq; (try dsimp only at hq); go_split_ands; go_simp; (try rw [if_neg (by omega)]); (try rw [if_pos (by omega)]); try with_reducible rfl); simp only [Act.put, List.setIfInBounds_toArray, List.set_cons_zero, List.set_cons_succ]) | (apply wpPlan_skip; rfl; rfl; simp only [Act.put, List.setIfInBounds_toArray, List.set_cons_zero, List.set_cons_succ]) | (apply wpPlan_pass; rfl; rfl; assumption; simp only [Act.put, List.setIfInBounds_toArray, List.set_cons_zero, List.set_cons_succ]))
                      apply wpPlan_call; rfl; rfl; rfl; rfl; kernel_rfl; exact bnum_any n k (by omega) (by omega) _; rfl; rintro e w' ⟨rfl, rfl⟩
                      refine ⟨_, rfl, as_S HS ?_⟩
                      intro HS2
                      simp only [Act.put, List.setIfInBounds_toArray, List.set_cons_zero, List.set_cons_succ]
                      repeat (first | (apply wpPlan_look; rfl; rfl; (intro wq hq; (try dsimp only at hq); go_split_ands; go_simp; (try rw [if_neg (by omega)]); (try rw [if_pos (by omega)]); try with_reducible rfl); simp only [Act.put, List.setIfInBounds_toArray, List.set_cons_zero, List.set_cons_succ]) | (apply wpPlan_skip; rfl; rfl; simp only [Act.put, List.setIfInBounds_toArray, List.set_cons_zero, List.set_cons_succ]) | (apply wpPlan_pass; rfl; rfl; assumption; simp only [Act.put, List.setIfInBounds_toArray, List.set_cons_zero, List.set_cons_succ]))
                      change wpPlan _ _ _ _ _ _ ((wr.alloc (.cells #[.int .i8 0, .int .i64 (1048576 * (n : Int) + (k : Int) + 1), .int .i64 0, .string { data := #[] }, .string { data := #[] }, .string { data := #[] }, .int .i64 0, .int .i64 0] 81)).drew.drew)
                      apply wpPlan_done
                      have hb3 : Below wr.heap.size wr ((wr.alloc (.cells #[.int .i8 0, .int .i64 (1048576 * (n : Int) + (k : Int) + 1), .int .i64 0, .string { data := #[] }, .string { data := #[] }, .string { data := #[] }, .int .i64 0, .int .i64 0] 81)).drew.drew) := ((Below.refl _ _).alloc (Nat.le_refl _) _).drew.drew
                      have HQ2 := Lib.hid (HQ.out.later hb3)
                      have HB2 : Hid (Below B w ((wr.alloc (.cells #[.int .i8 0, .int .i64 (1048576 * (n : Int) + (k : Int) + 1), .int .i64 0, .string { data := #[] }, .string { data := #[] }, .string { data := #[] }, .int .i64 0, .int .i64 0] 81)).drew.drew)) := Lib.hid (HB.out.trans (hb3.mono (Nat.le_trans hBw HB.out.size)))
                      have HST2 := Lib.hid (HST.out.below hb3)
                      clear HS HS2 hb3 m1 HQ HB HST HQ1 HB1 HST1 HBX HBY s0 z0 s1 z1 s2 z2 s3 z3 s4 z4 s5 z5 s6 z6 s7 z7
                      go_wp2_with fail
                      go_roundw
                      case rel => exact ⟨k + 1, by omega, by go_num, HQ2, HB2, HST2⟩
                      case measure => simp [intOf]; omega
                · go_wp2_with fail
                  go_roundw
                  case rel => exact ⟨n + 1, by omega, by go_num, HQ, HB, HST⟩
                  case measure => simp [intOf]; omega
            · go_wp2_with fail
              go_ret
              exact ⟨rfl, HB.out, HST.out⟩
end Go.Proofs.YtidholghbjljaaaGreatDoor


/- All tokens of a source, step by step; rows of structs; no program in sight. -/
import Derived.Test.YtdobaililmkkcaaGreatDoorTxJ
import Derived.Test.YtdobaililmkkcaaGreatDoorKeep
namespace Culp.Tx
set_option linter.unusedSimpArgs false
set_option linter.unusedVariables false

theorem inner_nl {c : UInt8} (h : inner c = true) : c.toNat ≠ 10 := by
  unfold inner letter digit at h
  simp only [Bool.or_eq_true, decide_eq_true_eq] at h
  omega
theorem unq_nl : ∀ (l : List UInt8) (s : List UInt8) (k : Nat), unq l = some (s, k) → ∀ c ∈ l.take k, c.toNat ≠ 10
  | [], s, k, h => by simp [unq] at h
  | [c], s, k, h => by
    unfold unq at h
    split at h
    · rename_i hc
      simp at h; obtain ⟨rfl, rfl⟩ := h
      intro x hx; simp at hx; subst hx; omega
    · cases h
  | c :: d :: l, s, k, h => by
    unfold unq at h
    split at h
    · rename_i hc
      simp at h; obtain ⟨rfl, rfl⟩ := h
      intro x hx; simp at hx; subst hx; omega
    rename_i hc
    split at h
    · rename_i h92
      split at h
      · rename_i hd
        simp only [Option.map_eq_some_iff, Prod.exists, Prod.mk.injEq] at h
        obtain ⟨a, b, h1, rfl, rfl⟩ := h
        have := unq_nl l a b h1
        intro x hx
        simp only [List.take_succ_cons, List.mem_cons] at hx
        rcases hx with rfl | rfl | hx
        · omega
        · omega
        · exact this x hx
      · split at h
        · rename_i hn
          simp only [Option.map_eq_some_iff, Prod.exists, Prod.mk.injEq] at h
          obtain ⟨a, b, h1, rfl, rfl⟩ := h
          have := unq_nl l a b h1
          intro x hx
          simp only [List.take_succ_cons, List.mem_cons] at hx
          rcases hx with rfl | rfl | hx
          · omega
          · omega
          · exact this x hx
        · cases h
    · split at h
      · cases h
      · rename_i hr
        simp only [Option.map_eq_some_iff, Prod.exists, Prod.mk.injEq] at h
        obtain ⟨a, b, h1, rfl, rfl⟩ := h
        have := unq_nl (d :: l) a b h1
        intro x hx
        rw [List.take_succ_cons] at hx
        rcases List.mem_cons.1 hx with rfl | hx
        · omega
        · exact this x hx
theorem one_nl {l : List UInt8} {t : Tk} {k : Nat} (h : one l = .ok (t, k)) : ∀ c ∈ l.take k, c.toNat ≠ 10 := by
  cases l with
  | nil => simp [one] at h
  | cons c l =>
    rcases one_cases h with ⟨hl, h32, rfl, rfl⟩ | ⟨hl, hd, n, hw, rfl, rfl⟩ | ⟨hl, hd, hq, s, j, hu, hs, rfl, rfl⟩ | ⟨hl, hd, hq, hm, rfl, rfl⟩
    · rw [run_take]; intro x hx; exact inner_nl (List.all_eq_true.1 (run_inner _) x hx)
    · rw [run_take]; intro x hx; exact inner_nl (List.all_eq_true.1 (run_inner _) x hx)
    · intro x hx
      rw [List.take_succ_cons] at hx
      rcases List.mem_cons.1 hx with rfl | hx
      · omega
      · exact unq_nl _ _ _ hu x hx
    · rw [mark_take]
      intro x hx
      have key : ∀ l : List UInt8, ∀ x ∈ mark l, x.toNat ≠ 10 := by
        intro l x hx
        match l with
        | [] => simp [mark] at hx
        | [c] =>
          rw [mark] at hx
          split at hx
          · rename_i h
            simp at hx; subst hx
            intro h10
            have : x = 10 := UInt8.toNat_inj.1 h10
            subst this; revert h; decide
          · simp at hx
        | c :: d :: l =>
          rw [mark] at hx
          split at hx
          · rename_i h
            simp only [marks2, List.mem_cons, List.cons.injEq, List.not_mem_nil, or_false, and_true] at h
            simp only [List.mem_cons, List.not_mem_nil, or_false] at hx
            rcases h with ⟨rfl, rfl⟩ | ⟨rfl, rfl⟩ | ⟨rfl, rfl⟩ | ⟨rfl, rfl⟩ | ⟨rfl, rfl⟩ <;> (rcases hx with rfl | rfl <;> decide)
          · split at hx
            · rename_i h
              simp at hx; subst hx
              intro h10
              have : x = 10 := UInt8.toNat_inj.1 h10
              subst this; revert h; decide
            · simp at hx
      exact key _ x hx
theorem one_err {l : List UInt8} {x : Nat} (h : one l = .error x) : 11 ≤ x ∧ x ≤ 14 := by
  cases l with
  | nil => simp [one] at h; omega
  | cons c l =>
    rw [one] at h
    split at h
    · split at h
      · cases h
      · injection h with h; omega
    split at h
    · split at h
      · cases h
      · injection h with h; omega
    split at h
    · split at h
      · split at h
        · cases h
        · injection h with h; omega
      · injection h with h; omega
    · split at h
      · injection h with h; omega
      · cases h
theorem further_flat : ∀ (l : List UInt8) (p : Nat × Nat), (∀ c ∈ l, c.toNat ≠ 10) → further p l = (p.1, p.2 + l.length)
  | [], p, _ => rfl
  | c :: l, p, h => by
    have := further_flat l (p.1, p.2 + 1) (fun x hx => h x (List.mem_cons_of_mem _ hx))
    unfold further at this ⊢
    rw [List.foldl_cons, show step p c = (p.1, p.2 + 1) by unfold step; rw [if_neg (h c List.mem_cons_self)], this]
    simp; omega
theorem further_app (p : Nat × Nat) (a b : List UInt8) : further p (a ++ b) = further (further p a) b := by unfold further; rw [List.foldl_append]

/-- The tokens so far, and what is still to come. -/
def So (l : List UInt8) (k : Nat) (p : Nat × Nat) (acc : List (Tk × (Nat × Nat))) : Prop := toksAt (1, 1) l = match toksAt p (l.drop k) with | .ok r => .ok (acc ++ r) | .error e => .error e
theorem So.start (l : List UInt8) : So l 0 (1, 1) [] := by
  unfold So
  rw [List.drop_zero]
  cases toksAt (1, 1) l <;> rfl
section
variable {l : List UInt8} {k n m : Nat} {p : Nat × Nat} {acc : List (Tk × (Nat × Nat))} {t : Tk} {e : Nat}
theorem So.done (h : So l k p acc) (hn : behind false (l.drop k) = n) (he : k + n = l.length) : toksAt (1, 1) l = .ok acc := by
  unfold So at h
  rw [h, toksAt_none (by rw [hn, List.length_drop]; omega)]; simp
theorem So.bad (h : So l k p acc) (hn : behind false (l.drop k) = n) (he : k + n < l.length) (ho : one (l.drop (k + n)) = .error e) : toksAt (1, 1) l = .error (e, further p ((l.drop k).take n)) := by
  unfold So at h
  rw [h, toksAt_bad (e := e) (by rw [hn, List.length_drop]; omega) (by rw [hn, List.drop_drop]; exact ho), hn]
theorem So.next (h : So l k p acc) (hn : behind false (l.drop k) = n) (he : k + n < l.length) (ho : one (l.drop (k + n)) = .ok (t, m)) :
    So l (k + n + m) ((further p ((l.drop k).take n)).1, (further p ((l.drop k).take n)).2 + m) (acc ++ [(t, further p ((l.drop k).take n))]) := by
  have hb := one_bounds ho
  rw [List.length_drop] at hb
  have e1 : further p ((l.drop k).take (n + m)) = ((further p ((l.drop k).take n)).1, (further p ((l.drop k).take n)).2 + m) := by
    have e2 : (l.drop k).take (n + m) = (l.drop k).take n ++ (l.drop (k + n)).take m := by rw [List.take_add, List.drop_drop]
    rw [e2, further_app, further_flat _ _ (one_nl ho), List.length_take, List.length_drop]
    congr 2; omega
  unfold So at h ⊢
  rw [h, toksAt_eq, if_neg (by rw [hn, List.length_drop]; omega), hn, List.drop_drop, ho]
  simp only
  rw [List.drop_drop, e1, Nat.add_assoc]
  cases toksAt ((further p ((l.drop k).take n)).1, (further p ((l.drop k).take n)).2 + m) (l.drop (k + (n + m))) <;> simp
end
end Culp.Tx
namespace Culp
open Go Go.RowKit
/-- One more struct onto a row of the call's own; it lies in a block that was just made for it. -/
theorem append_agg {P : Program} {w : World} {ops : Array Oper} {rest : List Oper} {o : Oper} {a : Act} {Q : Exit → Act → World → Prop} (hgd : o.guard = none) (s x : Operand) (t e : TypeId)
    (ho : o.op = .call { callee := .builtin .append, args := #[s, x], argTypes := #[t, t] })
    (base : Nat) (z : Value) (size bytes : Nat) (ht : P.underlying t = some (.slice e)) (hi : (P.info? e).map (fun i => (i.zero, i.size, i.bytes)) = some (some z, size, bytes))
    (hzs : z.cells.size = size) (h0 : 0 < size)
    (v : Value) (n : Nat) (xs : List Value) (hs : a.eval s = v) (hown : w.ownsRow base e size v n xs) (us : List Value) (hus : us.length = size)
    (g : Nat) (hx : a.eval x = .slice (some ⟨g, 0, none⟩) 1 1) (hgg : w.heap.size = g) (h1 : ∀ u ∈ us, u.oneCell' = true)
    (h63 : n + 1 ≤ 1000000000000000) (hbytes : (n + 1) * bytes ≤ 140737488355328) (hbase : base ≤ w.heap.size)
    (h : ∀ v' w', w'.ownsRow base e size v' (n + 1) (xs ++ us) → w.grownBy w' v.ownBlock → Below base w w' → wpList P ops Q rest (a.put o.dst v') w') :
    wpList P ops Q (o :: rest) a (w.alloc (.cells us.toArray e)) := by
  subst hgg
  obtain ⟨i, hi, hz, hz1, hz2⟩ := info_parts hi
  refine wpList_append_own _ hgd s x t ho base e i z size bytes ht hi hz hz1 hz2 hzs h0 v n xs hs (hown.alloc _) ⟨w.heap.size, 0, none⟩ 1 1 us hx (by omega) ?_ h1 (by unfold maxLen; omega) hbytes (by simp; omega) ?_
  · intro j u hj
    have e1 : (⟨w.heap.size, 0, none⟩ : Addr).add j = ⟨w.heap.size, j, none⟩ := by
      unfold Addr.add
      split
      · rename_i h0; subst h0; rfl
      · simp
    rw [e1, World.cell?_alloc_at _ _ _ _ rfl]
    simpa using hj
  · intro v' w' hown' hg _
    have hg' : w.grownBy w' v.ownBlock :=
      { os := hg.os, tape := hg.tape, output := hg.output,
        size := by have := hg.size; simp at this; omega,
        block := fun k hk hne => by
          rw [hg.block k (by simp; omega) hne]
          exact Below.heap_alloc _ _ _ hk }
    refine h v' w' hown' hg' ((Below.refl base w).grown hg' hbase fun k hk => ?_)
    have := hown.lt k hk
    omega
/-- A row lies elsewhere than what is no row of its kind. -/
theorem own_ne {w : World} {base : Nat} {e : TypeId} {size n r : Nat} {v : Value} {xs : List Value} (h : w.ownsRow base e size v n xs) (hr : ∀ cur, w.heap[r]? ≠ some (.cells cur e (0, 0))) : v.ownBlock ≠ some r := by
  rcases h.2 with ⟨rfl, _⟩ | ⟨g, cap, cur, rfl, _, hh, _⟩
  · intro h; cases h
  · intro h
    simp only [Value.ownBlock, Option.some.injEq] at h
    subst h
    exact hr _ hh
theorem own_keep {w w' : World} {base : Nat} {e : TypeId} {size n r : Nat} {v : Value} {xs : List Value} (h : w.ownsRow base e size v n xs) (hk : Keep r w w') (hr : ∀ cur, w.heap[r]? ≠ some (.cells cur e (0, 0))) : w'.ownsRow base e size v n xs := by
  have hne := own_ne h hr
  refine ⟨h.1, ?_⟩
  rcases h.2 with h2 | ⟨g, cap, cur, rfl, hb, hh, h3⟩
  · exact .inl h2
  · have hlt := (h.lt g rfl).2
    refine .inr ⟨g, cap, cur, rfl, hb, ?_, h3⟩
    rw [hk.block g hlt (by intro e; subst e; exact hne rfl)]; exact hh
theorem own_later {w w' : World} {base : Nat} {e : TypeId} {size n : Nat} {v : Value} {xs : List Value} (h : w.ownsRow base e size v n xs) (hb : Below w.heap.size w w') : w'.ownsRow base e size v n xs := by
  refine ⟨h.1, ?_⟩
  rcases h.2 with h2 | ⟨g, cap, cur, rfl, hb', hh, h3⟩
  · exact .inl h2
  · have hlt := (h.lt g rfl).2
    refine .inr ⟨g, cap, cur, rfl, hb', ?_, h3⟩
    rw [hb.block g hlt]; exact hh
end Culp

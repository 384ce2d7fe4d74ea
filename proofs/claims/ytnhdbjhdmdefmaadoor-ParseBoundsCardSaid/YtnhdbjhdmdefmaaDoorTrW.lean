
/- All tokens of a source, step by step; rows of structs; no program in sight. -/
import Derived.Test.YtnhdbjhdmdefmaaDoorTxT
import Derived.Test.YtnhdbjhdmdefmaaDoorR4W
import Derived.Test.YtnhdbjhdmdefmaaDoorShelf
import Derived.Lib.IndexLaws
import Derived.Deep.Light
import Derived.OwnWalk
import Derived.Maps.AppendAt
import Derived.Defers
import Derived.Recover
namespace Culp.Tx
set_option linter.unusedSimpArgs false
set_option linter.unusedVariables false

theorem inner_nl {c : UInt8} (h : inner c = true) : c.toNat ≠ 10 := by
  unfold inner letter digit at h
  simp only [Bool.or_eq_true, decide_eq_true_eq] at h
  omega
theorem unq_nl : ∀ (l : List UInt8) (s : List UInt8) (k : Nat), unq l = some (s, k) → ∀ c ∈ l.take k, c.toNat ≠ 10
  | [], s, k, h => by simp [unq] at h
  | [c], s, k, h => by
    unfold unq at h
    split at h
    · rename_i hc
      simp at h; obtain ⟨rfl, rfl⟩ := h
      intro x hx; simp at hx; subst hx; omega
    · cases h
  | c :: d :: l, s, k, h => by
    unfold unq at h
    split at h
    · rename_i hc
      simp at h; obtain ⟨rfl, rfl⟩ := h
      intro x hx; simp at hx; subst hx; omega
    rename_i hc
    split at h
    · rename_i h92
      split at h
      · rename_i hd
        simp only [Option.map_eq_some_iff, Prod.exists, Prod.mk.injEq] at h
        obtain ⟨a, b, h1, rfl, rfl⟩ := h
        have := unq_nl l a b h1
        intro x hx
        simp only [List.take_succ_cons, List.mem_cons] at hx
        rcases hx with rfl | rfl | hx
        · omega
        · omega
        · exact this x hx
      · split at h
        · rename_i hn
          simp only [Option.map_eq_some_iff, Prod.exists, Prod.mk.injEq] at h
          obtain ⟨a, b, h1, rfl, rfl⟩ := h
          have := unq_nl l a b h1
          intro x hx
          simp only [List.take_succ_cons, List.mem_cons] at hx
          rcases hx with rfl | rfl | hx
          · omega
          · omega
          · exact this x hx
        · cases h
    · split at h
      · cases h
      · rename_i hr
        simp only [Option.map_eq_some_iff, Prod.exists, Prod.mk.injEq] at h
        obtain ⟨a, b, h1, rfl, rfl⟩ := h
        have := unq_nl (d :: l) a b h1
        intro x hx
        rw [List.take_succ_cons] at hx
        rcases List.mem_cons.1 hx with rfl | hx
        · omega
        · exact this x hx
theorem one_nl {l : List UInt8} {t : Tk} {k : Nat} (h : one l = .ok (t, k)) : ∀ c ∈ l.take k, c.toNat ≠ 10 := by
  cases l with
  | nil => simp [one] at h
  | cons c l =>
    rcases one_cases h with ⟨hl, h32, rfl, rfl⟩ | ⟨hl, hd, n, hw, rfl, rfl⟩ | ⟨hl, hd, hq, s, j, hu, hs, rfl, rfl⟩ | ⟨hl, hd, hq, hm, rfl, rfl⟩
    · rw [run_take]; intro x hx; exact inner_nl (List.all_eq_true.1 (run_inner _) x hx)
    · rw [run_take]; intro x hx; exact inner_nl (List.all_eq_true.1 (run_inner _) x hx)
    · intro x hx
      rw [List.take_succ_cons] at hx
      rcases List.mem_cons.1 hx with rfl | hx
      · omega
      · exact unq_nl _ _ _ hu x hx
    · rw [mark_take]
      intro x hx
      have key : ∀ l : List UInt8, ∀ x ∈ mark l, x.toNat ≠ 10 := by
        intro l x hx
        match l with
        | [] => simp [mark] at hx
        | [c] =>
          rw [mark] at hx
          split at hx
          · rename_i h
            simp at hx; subst hx
            intro h10
            have : x = 10 := UInt8.toNat_inj.1 h10
            subst this; revert h; decide
          · simp at hx
        | c :: d :: l =>
          rw [mark] at hx
          split at hx
          · rename_i h
            simp only [marks2, List.mem_cons, List.cons.injEq, List.not_mem_nil, or_false, and_true] at h
            simp only [List.mem_cons, List.not_mem_nil, or_false] at hx
            rcases h with ⟨rfl, rfl⟩ | ⟨rfl, rfl⟩ | ⟨rfl, rfl⟩ | ⟨rfl, rfl⟩ | ⟨rfl, rfl⟩ <;> (rcases hx with rfl | rfl <;> decide)
          · split at hx
            · rename_i h
              simp at hx; subst hx
              intro h10
              have : x = 10 := UInt8.toNat_inj.1 h10
              subst this; revert h; decide
            · simp at hx
      exact key _ x hx
theorem one_err {l : List UInt8} {x : Nat} (h : one l = .error x) : 11 ≤ x ∧ x ≤ 14 := by
  cases l with
  | nil => simp [one] at h; omega
  | cons c l =>
    rw [one] at h
    split at h
    · split at h
      · cases h
      · injection h with h; omega
    split at h
    · split at h
      · cases h
      · injection h with h; omega
    split at h
    · split at h
      · split at h
        · cases h
        · injection h with h; omega
      · injection h with h; omega
    · split at h
      · injection h with h; omega
      · cases h
theorem further_flat : ∀ (l : List UInt8) (p : Nat × Nat), (∀ c ∈ l, c.toNat ≠ 10) → further p l = (p.1, p.2 + l.length)
  | [], p, _ => rfl
  | c :: l, p, h => by
    have := further_flat l (p.1, p.2 + 1) (fun x hx => h x (List.mem_cons_of_mem _ hx))
    unfold further at this ⊢
    rw [List.foldl_cons, show step p c = (p.1, p.2 + 1) by unfold step; rw [if_neg (h c List.mem_cons_self)], this]
    simp; omega
theorem further_app (p : Nat × Nat) (a b : List UInt8) : further p (a ++ b) = further (further p a) b := by unfold further; rw [List.foldl_append]

/-- The tokens so far, and what is still to come. -/
def So (l : List UInt8) (k : Nat) (p : Nat × Nat) (acc : List (Tk × (Nat × Nat))) : Prop := toksAt (1, 1) l = match toksAt p (l.drop k) with | .ok r => .ok (acc ++ r) | .error e => .error e
theorem So.start (l : List UInt8) : So l 0 (1, 1) [] := by
  unfold So
  rw [List.drop_zero]
  cases toksAt (1, 1) l <;> rfl
section
variable {l : List UInt8} {k n m : Nat} {p : Nat × Nat} {acc : List (Tk × (Nat × Nat))} {t : Tk} {e : Nat}
theorem So.done (h : So l k p acc) (hn : behind false (l.drop k) = n) (he : k + n = l.length) : toksAt (1, 1) l = .ok acc := by
  unfold So at h
  rw [h, toksAt_none (by rw [hn, List.length_drop]; omega)]; simp
theorem So.bad (h : So l k p acc) (hn : behind false (l.drop k) = n) (he : k + n < l.length) (ho : one (l.drop (k + n)) = .error e) : toksAt (1, 1) l = .error (e, further p ((l.drop k).take n)) := by
  unfold So at h
  rw [h, toksAt_bad (e := e) (by rw [hn, List.length_drop]; omega) (by rw [hn, List.drop_drop]; exact ho), hn]
theorem So.next (h : So l k p acc) (hn : behind false (l.drop k) = n) (he : k + n < l.length) (ho : one (l.drop (k + n)) = .ok (t, m)) :
    So l (k + n + m) ((further p ((l.drop k).take n)).1, (further p ((l.drop k).take n)).2 + m) (acc ++ [(t, further p ((l.drop k).take n))]) := by
  have hb := one_bounds ho
  rw [List.length_drop] at hb
  have e1 : further p ((l.drop k).take (n + m)) = ((further p ((l.drop k).take n)).1, (further p ((l.drop k).take n)).2 + m) := by
    have e2 : (l.drop k).take (n + m) = (l.drop k).take n ++ (l.drop (k + n)).take m := by rw [List.take_add, List.drop_drop]
    rw [e2, further_app, further_flat _ _ (one_nl ho), List.length_take, List.length_drop]
    congr 2; omega
  unfold So at h ⊢
  rw [h, toksAt_eq, if_neg (by rw [hn, List.length_drop]; omega), hn, List.drop_drop, ho]
  simp only
  rw [List.drop_drop, e1, Nat.add_assoc]
  cases toksAt ((further p ((l.drop k).take n)).1, (further p ((l.drop k).take n)).2 + m) (l.drop (k + (n + m))) <;> simp
end
end Culp.Tx
namespace Culp
set_option linter.unusedSimpArgs false
set_option linter.unusedVariables false
open Go Go.RowKit
/-- One more struct onto a row of the call's own; it lies in a block that was just made for it. -/
theorem append_agg {P : Program} {w : World} {ops : Array Oper} {rest : List Oper} {o : Oper} {a : Act} {Q : Exit → Act → World → Prop} (hgd : o.guard = none) (s x : Operand) (t e : TypeId)
    (ho : o.op = .call { callee := .builtin .append, args := #[s, x], argTypes := #[t, t] })
    (base : Nat) (z : Value) (size bytes : Nat) (ht : P.underlying t = some (.slice e)) (hi : (P.info? e).map (fun i => (i.zero, i.size, i.bytes)) = some (some z, size, bytes))
    (hzs : z.cells.size = size) (h0 : 0 < size)
    (v : Value) (n : Nat) (xs : List Value) (hs : a.eval s = v) (hown : w.ownsRow base e size v n xs) (us : List Value) (hus : us.length = size)
    (g : Nat) (hx : a.eval x = .slice (some ⟨g, 0, none⟩) 1 1) (hgg : w.heap.size = g) (h1 : ∀ u ∈ us, u.oneCell' = true)
    (h63 : n + 1 ≤ 1000000000000000) (hbytes : (n + 1) * bytes ≤ 140737488355328) (hbase : base ≤ w.heap.size)
    (h : ∀ v' w', w'.ownsRow base e size v' (n + 1) (xs ++ us) → w.grownBy w' v.ownBlock → Below base w w' → wpList P ops Q rest (a.put o.dst v') w') :
    wpList P ops Q (o :: rest) a (w.alloc (.cells us.toArray e)) := by
  subst hgg
  obtain ⟨i, hi, hz, hz1, hz2⟩ := info_parts hi
  refine wpList_append_own _ hgd s x t ho base e i z size bytes ht hi hz hz1 hz2 hzs h0 v n xs hs (hown.alloc _) ⟨w.heap.size, 0, none⟩ 1 1 us hx (by omega) ?_ h1 (by unfold maxLen; omega) hbytes (by simp; omega) ?_
  · intro j u hj
    have e1 : (⟨w.heap.size, 0, none⟩ : Addr).add j = ⟨w.heap.size, j, none⟩ := by
      unfold Addr.add
      split
      · rename_i h0; subst h0; rfl
      · simp
    rw [e1, World.cell?_alloc_at _ _ _ _ rfl]
    simpa using hj
  · intro v' w' hown' hg _
    have hg' : w.grownBy w' v.ownBlock :=
      { os := hg.os, tape := hg.tape, output := hg.output,
        size := by have := hg.size; simp at this; omega,
        block := fun k hk hne => by
          rw [hg.block k (by simp; omega) hne]
          exact Below.heap_alloc _ _ _ hk }
    refine h v' w' hown' hg' ((Below.refl base w).grown hg' hbase fun k hk => ?_)
    have := hown.lt k hk
    omega
/-- A row lies elsewhere than what is no row of its kind. -/
theorem own_ne {w : World} {base : Nat} {e : TypeId} {size n r : Nat} {v : Value} {xs : List Value} (h : w.ownsRow base e size v n xs) (hr : ∀ cur, w.heap[r]? ≠ some (.cells cur e (0, 0))) : v.ownBlock ≠ some r := by
  rcases h.2 with ⟨rfl, _⟩ | ⟨g, cap, cur, rfl, _, hh, _⟩
  · intro h; cases h
  · intro h
    simp only [Value.ownBlock, Option.some.injEq] at h
    subst h
    exact hr _ hh
theorem own_keep {w w' : World} {base : Nat} {e : TypeId} {size n r : Nat} {v : Value} {xs : List Value} (h : w.ownsRow base e size v n xs) (hk : Keep r w w') (hr : ∀ cur, w.heap[r]? ≠ some (.cells cur e (0, 0))) : w'.ownsRow base e size v n xs := by
  have hne := own_ne h hr
  refine ⟨h.1, ?_⟩
  rcases h.2 with h2 | ⟨g, cap, cur, rfl, hb, hh, h3⟩
  · exact .inl h2
  · have hlt := (h.lt g rfl).2
    refine .inr ⟨g, cap, cur, rfl, hb, ?_, h3⟩
    rw [hk.block g hlt (by intro e; subst e; exact hne rfl)]; exact hh
theorem own_later {w w' : World} {base : Nat} {e : TypeId} {size n : Nat} {v : Value} {xs : List Value} (h : w.ownsRow base e size v n xs) (hb : Below w.heap.size w w') : w'.ownsRow base e size v n xs := by
  refine ⟨h.1, ?_⟩
  rcases h.2 with h2 | ⟨g, cap, cur, rfl, hb', hh, h3⟩
  · exact .inl h2
  · have hlt := (h.lt g rfl).2
    refine .inr ⟨g, cap, cur, rfl, hb', ?_, h3⟩
    rw [hb.block g hlt]; exact hh
end Culp

/- Walks of trees: kinds, types, annotations, names. -/
namespace Go.Proofs.YtnhdbjhdmdefmaaDoor
set_option linter.unusedSimpArgs false
set_option linter.unusedVariables false
open Go.RowKit Go.Maps Culp

set_option maxHeartbeats 1600000 in
theorem arities_any (k : Int) (w : World) : Calls Tryd.prog 40 #[.int .i8 k] w (Gives (.int .i64 (Tr.arit k)) w) := by
  go_enter Tryd.func40, Tryd.ntmps40
  go_wp2
  all_goals
    go_ret
    refine Gives.mk ?_
    simp_all [Tr.arit]
/-- What the document's Arity answers. -/
def arV (k : Int) : Value := if 0 ≤ Tr.arit k then .tuple #[.int .i64 (Tr.arit k), .bool true] else .tuple #[.int .i64 0, .bool false]
theorem isType_any (s : ByteArray) (w : World) : Calls Tryd.prog 45 #[.string s] w (Gives (.bool (isTy s.data.toList)) w) := by
  go_enter Tryd.func45, Tryd.ntmps45
  go_wp2_with fail
  refine (Check_any s _).mono ?_
  rintro e w' ⟨rfl, ⟨h, rfl⟩ | ⟨h, p, _, rfl⟩⟩
  · have H := Lib.hid h
    clear h
    go_wp2_with fail
    go_ret
    exact Gives.mk (by rw [H.out]; rfl)
  · have H := Lib.hid h
    have hc : ((if 64 < s.size then 21 else 20 : Int) == 0) = false := by split <;> rfl
    generalize (if 64 < s.size then 21 else 20 : Int) = c at *
    clear h
    go_wp2_with fail
    go_ret
    exact Gives.mk (by rw [H.out]; rfl)
theorem nil_yes {s : ByteArray} (h : s.size = 0) : (s.toList == []) = true := by rw [toL', List.eq_nil_of_length_eq_zero (l := s.data.toList) (by rw [size_list]; exact h)]; rfl
theorem nil_no {s : ByteArray} (h : s.size ≠ 0) : (s.toList == []) = false := by
  rw [toL', beq_eq_false_iff_ne]
  intro e
  have := congrArg List.length e
  rw [size_list] at this
  exact h this
theorem note_nil {s : ByteArray} (h : s.size = 0) : Tr.note s.data.toList = true := by
  unfold Tr.note
  rw [List.eq_nil_of_length_eq_zero (l := s.data.toList) (by rw [size_list]; exact h)]; rfl
theorem note_some {s : ByteArray} (h : s.size ≠ 0) : Tr.note s.data.toList = isTy s.data.toList := by
  unfold Tr.note
  rw [decide_eq_false (fun e => h (by rw [← size_list, e]; rfl)), Bool.false_or]
theorem tNote_any (s : ByteArray) (w : World) : Calls Tryd.prog 43 #[.string s] w (Gives (.bool (Tr.note s.data.toList)) w) := by
  by_cases h : s.size = 0
  · have q := nil_yes h
    have H := Lib.hid (note_nil h)
    clear h
    go_enter Tryd.func43, Tryd.ntmps43
    go_wp2_with fail
    go_ret
    exact Gives.mk (by rw [H.out]; rfl)
  · have q := nil_no h
    have H := Lib.hid (note_some h)
    clear h
    go_enter Tryd.func43, Tryd.ntmps43
    go_wp2_with fail
    refine (isType_any s _).mono ?_
    rintro e w' ⟨rfl, rfl⟩
    rw [← H.out]
    go_wp2_with fail
    go_ret
    exact Gives.mk rfl
/-- What TypeEnd answers. -/
def endI (s : ByteArray) (k : Nat) : Nat := match eatAt s k 1 with | some r => s.size - r.length | none => 0
theorem end_some {s : ByteArray} {k j : Nat} (hj : j ≤ s.size) (h : eatAt s k 1 = some (s.data.toList.drop j)) : endI s k = j := by
  unfold endI
  rw [h]
  simp only [List.length_drop, size_list]
  omega
theorem end_none {s : ByteArray} {k : Nat} (h : eatAt s k 1 = none) : endI s k = 0 := by unfold endI; rw [h]
theorem isTy_end {s : ByteArray} (h0 : 1 ≤ s.size) (h64 : s.size ≤ 64) : isTy s.data.toList = decide (endI s 0 = s.size) := by
  unfold isTy endI eatAt
  rw [size_list, decide_eq_true h64, Bool.true_and, List.drop_zero, Bool.eq_iff_iff, beq_iff_eq, decide_eq_true_eq]
  cases h : eat s.data.toList 1 with
  | none => simp; omega
  | some r =>
    have := eat_length h
    rw [size_list] at this
    simp only [Option.some.injEq]
    constructor
    · rintro rfl; simp
    · intro h1
      exact List.eq_nil_of_length_eq_zero (by omega)
end Go.Proofs.YtnhdbjhdmdefmaaDoor

/- Walks of trees: the two names of a function that calls itself. -/
namespace Culp.Tr
set_option linter.unusedSimpArgs false
set_option linter.unusedVariables false
theorem two_some : ∀ (l : List UInt8) (i : Nat), l[i]? = some 32 → (∀ k, k < i → l[k]? ≠ some 32) → two l = some (l.take i, l.drop (i + 1))
  | [], i, h, _ => by simp at h
  | c :: l, 0, h, _ => by
    simp at h; subst h
    rw [two, if_pos (by decide)]; simp
  | c :: l, i + 1, h, h2 => by
    have hc : ¬ c.toNat = 32 := fun hc => h2 0 (by omega) (by simp; exact UInt8.toNat_inj.1 hc)
    rw [two, if_neg hc, two_some l i (by simpa using h) (fun k hk => by have := h2 (k + 1) (by omega); simpa using this)]
    simp
theorem two_none : ∀ (l : List UInt8), (∀ k : Nat, l[k]? ≠ some 32) → two l = none
  | [], _ => rfl
  | c :: l, h => by
    have hc : ¬ c.toNat = 32 := fun hc => h 0 (by simp; exact UInt8.toNat_inj.1 hc)
    rw [two, if_neg hc, two_none l (fun k => by have := h (k + 1); simpa using this)]
    rfl
theorem twoOk_some {l a b : List UInt8} (h : two l = some (a, b)) : twoOk l = (Tx.isName a && Tx.isName b) := by unfold twoOk; rw [h]
theorem twoOk_none {l : List UInt8} (h : two l = none) : twoOk l = false := by unfold twoOk; rw [h]
end Culp.Tr
namespace Go.Proofs.YtnhdbjhdmdefmaaDoor
set_option linter.unusedSimpArgs false
set_option linter.unusedVariables false
open Go.RowKit Go.Maps Culp

/-- A text parted at its first blank, as it is handed back. -/
def CutV (s : ByteArray) : Value := match Tr.two s.data.toList with
  | some (a, b) => .tuple #[.string (bs a), .string (bs b), .bool true]
  | none => .tuple #[.string s, .string { data := #[] }, .bool false]
theorem cutV_some {s : ByteArray} {a b : List UInt8} (h : Tr.two s.data.toList = some (a, b)) : CutV s = .tuple #[.string (bs a), .string (bs b), .bool true] := by unfold CutV; rw [h]
theorem cutV_none {s : ByteArray} (h : Tr.two s.data.toList = none) : CutV s = .tuple #[.string s, .string { data := #[] }, .bool false] := by unfold CutV; rw [h]
theorem bs_self' (s : ByteArray) : bs s.data.toList = s := str_inj' rfl
theorem take_ext (s : ByteArray) (k : Nat) : s.extract 0 k = bs (s.data.toList.take k) := by rw [extract_bs]; simp
theorem drop_ext (s : ByteArray) (k : Nat) : s.extract k s.size = bs (s.data.toList.drop k) := by
  rw [extract_bs, List.take_of_length_le (by rw [List.length_drop, size_list]; omega)]
theorem get_byte' (s : ByteArray) (k : Nat) (hk : k < s.size) : s.data.toList[k]? = some s[k] := by
  rw [List.getElem?_eq_getElem (by rw [size_list]; exact hk)]; rfl
set_option maxHeartbeats 800000 in
theorem lcut_any (s : ByteArray) (w : World) (hs : s.size ≤ 1000000000000000) : Calls Tryd.prog 67 #[.string s, .string ⟨#[32]⟩] w (Makes (CutV s) w) := by
  have hidx := Tryd.stringslite_Index_one s 32 w
  have hge := Lib.indexByte_ge s.data.toList 32
  by_cases hn : Lib.indexByte s.data.toList 32 = -1
  · have H := Lib.hid (cutV_none (Tr.two_none _ (Lib.indexByte_none hn)))
    rw [hn] at hidx
    clear hge hn
    go_enter Tryd.func67, Tryd.ntmps67
    go_wp2_with fail
    refine hidx.mono ?_
    rintro e w' ⟨rfl, rfl⟩
    clear hidx
    go_wp2_with fail
    go_ret3
    exact Makes.mk H.out.symm (Below.refl _ _)
  · obtain ⟨i, hi⟩ := Int.eq_ofNat_of_zero_le (show 0 ≤ Lib.indexByte s.data.toList 32 by omega)
    obtain ⟨h1, h2⟩ := Lib.indexByte_some hi
    have hl : i < s.size := by have := (List.getElem?_eq_some_iff.1 h1).1; rw [size_list] at this; exact this
    have H := Lib.hid (cutV_some (Tr.two_some _ i h1 h2))
    rw [hi] at hidx
    clear hge hn hi h1 h2
    go_enter Tryd.func67, Tryd.ntmps67
    go_wp2_with fail
    refine hidx.mono ?_
    rintro e w' ⟨rfl, rfl⟩
    clear hidx
    go_wp2_with fail
    have r1 : IntKind.i64.wrap ((i : Int) + 1) = (i : Int) + 1 := IntWalk.i64_in _ (by omega)
    refine wp_region_plan (S := fun _ => True) [(0, true), (1, true), (2, true), (3, true), (4, true), (5, true), (6, true), (7, true), (8, true), (9, true), (10, true), (11, true)] (by kernel_rfl) (by kernel_rfl) (by kernel_rfl) (fun _ _ _ _ _ h => h) trivial ?_
    intro HS
    repeat (first | (apply wpPlan_look; rfl; rfl; (intro wq hq; (try dsimp only at hq); go_split_ands; go_simp; (try rw [if_neg (by omega)]); (try rw [if_pos (by omega)]); try with_reducible rfl); simp only [Act.put, List.setIfInBounds_toArray, List.set_cons_zero, List.set_cons_succ]) | (apply wpPlan_skip; rfl; rfl; simp only [Act.put, List.setIfInBounds_toArray, List.set_cons_zero, List.set_cons_succ]) | (apply wpPlan_pass; rfl; rfl; assumption; simp only [Act.put, List.setIfInBounds_toArray, List.set_cons_zero, List.set_cons_succ]))
    apply wpPlan_done
    clear r1 HS
    go_wp2_with fail
    go_ret3
    exact Makes.mk (by rw [H.out, ← take_ext, ← drop_ext]; rfl) (Below.refl _ _).drew
theorem cut_any (s : ByteArray) (w : World) (hs : s.size ≤ 1000000000000000) : Calls Tryd.prog 57 #[.string s, .string ⟨#[32]⟩] w (Makes (CutV s) w) := by
  have HC := Lib.hid (lcut_any s w hs)
  cases h : Tr.two s.data.toList with
  | none =>
    have H := Lib.hid (cutV_none h)
    clear h
    go_enter Tryd.func57, Tryd.ntmps57
    go_wp2_with fail
    refine HC.out.mono ?_
    rintro e w' ⟨rfl, hb⟩
    have HB := Lib.hid hb
    clear hb
    rw [H.out]
    go_wp2_with fail
    go_ret3
    exact Makes.mk (by rw [H.out]; rfl) HB.out
  | some ab =>
    obtain ⟨a, b⟩ := ab
    have H := Lib.hid (cutV_some h)
    clear h
    go_enter Tryd.func57, Tryd.ntmps57
    go_wp2_with fail
    refine HC.out.mono ?_
    rintro e w' ⟨rfl, hb⟩
    have HB := Lib.hid hb
    clear hb
    rw [H.out]
    go_wp2_with fail
    go_ret3
    exact Makes.mk (by rw [H.out]; rfl) HB.out
/-- What two answers: the names aside, may they be? -/
def TwoRes (s : ByteArray) (w : World) (e : Ending) (w' : World) : Prop := ∃ a b : ByteArray, e = .returned (.tuple #[.string a, .string b, .bool (Tr.twoOk s.data.toList)]) ∧ Below w.heap.size w w'
theorem two_len {l a b : List UInt8} (h : Tr.two l = some (a, b)) : a.length ≤ l.length ∧ b.length ≤ l.length := by
  induction l generalizing a with
  | nil => cases h
  | cons c l ih =>
    rw [Tr.two] at h
    split at h
    · simp at h; obtain ⟨rfl, rfl⟩ := h; simp
    · simp only [Option.map_eq_some_iff, Prod.exists, Prod.mk.injEq] at h
      obtain ⟨x, y, h1, rfl, rfl⟩ := h
      have := ih h1
      simp only [List.length_cons]; omega
theorem two_any (s : ByteArray) (w : World) (hs : s.size ≤ 140737488351232) (hS : Sp w) : Calls Tryd.prog 42 #[.string s] w (TwoRes s w) := by
  have HS := Lib.hid hS
  have HC := Lib.hid (cut_any s w (Nat.le_trans hs (by decide)))
  clear hS
  cases h : Tr.two s.data.toList with
  | none =>
    have H := Lib.hid (cutV_none h)
    have HT := Lib.hid (Tr.twoOk_none h)
    clear h
    go_enter Tryd.func42, Tryd.ntmps42
    go_wp2_with fail
    refine HC.out.mono ?_
    rintro e w' ⟨rfl, hb⟩
    have HB := Lib.hid hb
    clear hb
    rw [H.out]
    go_wp2_with fail
    go_ret3
    exact ⟨s, { data := #[] }, by rw [HT.out]; rfl, HB.out⟩
  | some ab =>
    obtain ⟨a, b⟩ := ab
    have H := Lib.hid (cutV_some h)
    have HT := Lib.hid (Tr.twoOk_some h)
    have hl := two_len h
    rw [size_list] at hl
    have HZA : Hid ((bs a).size ≤ 140737488351232) := Lib.hid (by rw [bs_size]; omega)
    have HZB : Hid ((bs b).size ≤ 140737488351232) := Lib.hid (by rw [bs_size]; omega)
    clear h hl
    go_enter Tryd.func42, Tryd.ntmps42
    go_wp2_with fail
    refine HC.out.mono ?_
    rintro e w' ⟨rfl, hb⟩
    have HB := Lib.hid hb
    clear hb
    rw [H.out]
    go_wp2_with fail
    refine (tIsName_any (bs a) _ HZA.out (HS.out.later HB.out)).mono ?_
    rw [bs_list]
    rintro e w2 ⟨rfl, hb2⟩
    have HB2 := Lib.hid (below_later hb2 HB.out)
    clear hb2
    cases ha : Tx.isName a with
    | false =>
      rw [ha] at HT
      go_wp2_with fail
      go_ret3
      exact ⟨bs a, bs b, by rw [HT.out]; rfl, HB2.out⟩
    | true =>
      rw [ha, Bool.true_and] at HT
      go_wp2_with fail
      refine (tIsName_any (bs b) _ HZB.out (HS.out.later HB2.out)).mono ?_
      rw [bs_list]
      rintro e w3 ⟨rfl, hb3⟩
      have HB3 := Lib.hid (below_later hb3 HB2.out)
      clear hb3
      rw [← HT.out]
      go_wp2_with fail
      go_ret3
      exact ⟨_, _, rfl, HB3.out⟩
end Go.Proofs.YtnhdbjhdmdefmaaDoor

/- Walks of trees: which nodes may be. -/
namespace Culp
set_option linter.unusedSimpArgs false
set_option linter.unusedVariables false
open Go Go.RowKit
/-- What a call left as it was: two blocks that were made ahead of it. -/
theorem two_blocks {w w' : World} {X R : Array Value} {t : TypeId} (hb : Below ((w.alloc (.cells X t)).alloc (.cells R t)).heap.size ((w.alloc (.cells X t)).alloc (.cells R t)) w') :
    (∀ i u, X[i]? = some u → w'.cell? ⟨w.heap.size, i, none⟩ = some u) ∧ (∀ i u, R[i]? = some u → w'.cell? ⟨w.heap.size + 1, i, none⟩ = some u) ∧ (∀ i, w'.frozen? ⟨w.heap.size + 1, i, none⟩ = false) ∧ Below w.heap.size w w' := by
  have h0 : Below w.heap.size w ((w.alloc (.cells X t)).alloc (.cells R t)) := ((Below.refl _ _).alloc (Nat.le_refl _) _).alloc (by simp) _
  have hs : (w.alloc (.cells X t)).heap.size = w.heap.size + 1 := by simp
  have hX : ((w.alloc (.cells X t)).alloc (.cells R t)).heap[w.heap.size]? = some (.cells X t (0, 0)) := by
    rw [Below.heap_alloc _ _ _ (by rw [hs]; omega)]
    exact (MapKept.heap_alloc w _).1
  have hR : ((w.alloc (.cells X t)).alloc (.cells R t)).heap[w.heap.size + 1]? = some (.cells R t (0, 0)) := by
    rw [← hs]; exact (MapKept.heap_alloc _ _).1
  refine ⟨fun i u hu => cell_later hb ?_, fun i u hu => cell_later hb ?_, fun i => ?_, below_later hb h0⟩
  · simp only [World.cell?, hX]; exact hu
  · simp only [World.cell?, hR]; exact hu
  · have : w'.heap[w.heap.size + 1]? = some (.cells R t (0, 0)) := by rw [hb.block _ (Array.getElem?_eq_some_iff.1 hR).1]; exact hR
    simp [World.frozen?, this]
end Culp
namespace Go.Proofs.YtnhdbjhdmdefmaaDoor
set_option linter.unusedSimpArgs false
set_option linter.unusedVariables false
open Go.RowKit Go.Maps Culp

section
variable (kd n : Int) (s t u : ByteArray) (l c : Int) (w : World)
set_option maxRecDepth 100000 in
set_option maxHeartbeats 1600000 in
theorem may_num (hS : Sp w) : Calls Tryd.prog 25 #[.agg #[.int .i8 1, .int .i64 kd, .int .i64 n, .string s, .string t, .string u, .int .i64 l, .int .i64 c]] w (Makes (.bool (Tr.may ⟨1, kd, n, s, t, u, l, c⟩)) w) := by
  skip
  have HS := Lib.hid hS
  clear hS
  go_enter Tryd.func25, Tryd.ntmps25
  go_wp2_with fail
  refine (arities_any 1 _).mono ?_
  rintro e w1 ⟨rfl, rfl⟩
  rw [show Tr.arit 1 = 0 from rfl]
  go_wp2_with fail
  all_goals
    go_ret
    refine Makes.mk ?_ ?_
    · go_light
      simp only [Tr.may, Tr.kOk, Tr.nOk, Tr.sOk, Tr.tOk, Tr.uOk, show Tr.arit 1 = 0 from rfl]
      simp_all [toL'] <;> omega
    · first
        | exact ((Below.refl _ _).alloc (Nat.le_refl _) _).alloc (by simp) _
        | exact (HB.out).setCell (Nat.le_succ _) _
        | exact (((HB.out).setCell (Nat.le_succ _) _).setCell (Nat.le_succ _) _).setCell (Nat.le_succ _) _
set_option maxRecDepth 100000 in
set_option maxHeartbeats 1600000 in
theorem may_truth (hS : Sp w) : Calls Tryd.prog 25 #[.agg #[.int .i8 3, .int .i64 kd, .int .i64 n, .string s, .string t, .string u, .int .i64 l, .int .i64 c]] w (Makes (.bool (Tr.may ⟨3, kd, n, s, t, u, l, c⟩)) w) := by
  have hsh : Op.shift BinOp.shr IntKind.i64 n IntKind.u64 1 = pure (.int .i64 (n / 2 ^ (1 : Int).toNat)) := shift_shr .i64 .u64 n 1 (by decide) (by decide)
  have HS := Lib.hid hS
  clear hS
  go_enter Tryd.func25, Tryd.ntmps25
  go_wp2_with fail
  refine (arities_any 3 _).mono ?_
  rintro e w1 ⟨rfl, rfl⟩
  rw [show Tr.arit 3 = 0 from rfl]
  go_wp2_with fail
  all_goals
    go_ret
    refine Makes.mk ?_ ?_
    · go_light
      simp only [Tr.may, Tr.kOk, Tr.nOk, Tr.sOk, Tr.tOk, Tr.uOk, show Tr.arit 3 = 0 from rfl]
      simp_all [toL'] <;> omega
    · first
        | exact ((Below.refl _ _).alloc (Nat.le_refl _) _).alloc (by simp) _
        | exact (HB.out).setCell (Nat.le_succ _) _
        | exact (((HB.out).setCell (Nat.le_succ _) _).setCell (Nat.le_succ _) _).setCell (Nat.le_succ _) _
set_option maxRecDepth 100000 in
set_option maxHeartbeats 1600000 in
theorem may_as (hS : Sp w) : Calls Tryd.prog 25 #[.agg #[.int .i8 29, .int .i64 kd, .int .i64 n, .string s, .string t, .string u, .int .i64 l, .int .i64 c]] w (Makes (.bool (Tr.may ⟨29, kd, n, s, t, u, l, c⟩)) w) := by
  have HS := Lib.hid hS
  clear hS
  go_enter Tryd.func25, Tryd.ntmps25
  go_wp2_with fail
  refine (arities_any 29 _).mono ?_
  rintro e w1 ⟨rfl, rfl⟩
  rw [show Tr.arit 29 = 1 from rfl]
  go_wp2_with (go_at_call 45; refine (isType_any _ _).mono ?_; rintro e w' ⟨rfl, rfl⟩)
  all_goals
    go_ret
    refine Makes.mk ?_ ?_
    · go_light
      simp only [Tr.may, Tr.kOk, Tr.nOk, Tr.sOk, Tr.tOk, Tr.uOk, show Tr.arit 29 = 1 from rfl]
      simp_all [toL'] <;> omega
    · first
        | exact ((Below.refl _ _).alloc (Nat.le_refl _) _).alloc (by simp) _
        | exact (HB.out).setCell (Nat.le_succ _) _
        | exact (((HB.out).setCell (Nat.le_succ _) _).setCell (Nat.le_succ _) _).setCell (Nat.le_succ _) _
end
end Go.Proofs.YtnhdbjhdmdefmaaDoor

/- Walks of trees: which nodes may be: texts. -/
namespace Go.Proofs.YtnhdbjhdmdefmaaDoor
set_option linter.unusedSimpArgs false
set_option linter.unusedVariables false
open Go.RowKit Go.Maps Culp

section
variable (kd n : Int) (s t u : ByteArray) (l c : Int) (w : World)
set_option maxRecDepth 100000 in
set_option maxHeartbeats 1600000 in
theorem may_str (hS : Sp w) (hz : s.size ≤ 140737488351232) : Calls Tryd.prog 25 #[.agg #[.int .i8 2, .int .i64 kd, .int .i64 n, .string s, .string t, .string u, .int .i64 l, .int .i64 c]] w (Makes (.bool (Tr.may ⟨2, kd, n, s, t, u, l, c⟩)) w) := by
  have HS := Lib.hid hS
  clear hS
  go_enter Tryd.func25, Tryd.ntmps25
  go_wp2_with fail
  refine (arities_any 2 _).mono ?_
  rintro e w1 ⟨rfl, rfl⟩
  rw [show Tr.arit 2 = 0 from rfl]
  go_wp2_with fail
  all_goals
    refine (tQuote_any s _ (Nat.le_trans hz (by decide))).mono ?_
    rintro e w2 ⟨hb, hres⟩
    obtain ⟨hx, hr, hf, hbw⟩ := two_blocks hb
    have HB := Lib.hid hbw
    have r0 := hr 0 _ rfl
    have r1 := hr 1 _ rfl
    have r2 := hr 2 _ rfl
    have r3 := hr 3 _ rfl
    have r4 := hr 4 _ rfl
    have r5 := hr 5 _ rfl
    have r6 := hr 6 _ rfl
    have r7 := hr 7 _ rfl
    have f3 := hf 3
    have f4 := hf 4
    have f5 := hf 5
    have x4 := hx 4 _ rfl
    have x5 := hx 5 _ rfl
    clear hb hx hr hf hbw
    cases hq : Tx.quote s.data.toList with
    | none =>
      rw [hq] at hres
      obtain rfl := hres
      go_wp2_with fail
      all_goals
        go_ret
        refine Makes.mk ?_ ?_
        · go_light
          simp only [Tr.may, Tr.kOk, Tr.nOk, Tr.sOk, Tr.tOk, Tr.uOk, show Tr.arit 2 = 0 from rfl]
          simp_all [toL'] <;> omega
        · first
            | exact ((Below.refl _ _).alloc (Nat.le_refl _) _).alloc (by simp) _
            | exact (HB.out).setCell (Nat.le_succ _) _
            | exact (((HB.out).setCell (Nat.le_succ _) _).setCell (Nat.le_succ _) _).setCell (Nat.le_succ _) _
    | some q =>
      rw [hq] at hres
      obtain rfl := hres
      go_wp2_with fail
      all_goals
        go_ret
        refine Makes.mk ?_ ?_
        · go_light
          simp only [Tr.may, Tr.kOk, Tr.nOk, Tr.sOk, Tr.tOk, Tr.uOk, show Tr.arit 2 = 0 from rfl]
          simp_all [toL'] <;> omega
        · first
            | exact ((Below.refl _ _).alloc (Nat.le_refl _) _).alloc (by simp) _
            | exact (HB.out).setCell (Nat.le_succ _) _
            | exact (((HB.out).setCell (Nat.le_succ _) _).setCell (Nat.le_succ _) _).setCell (Nat.le_succ _) _
end
end Go.Proofs.YtnhdbjhdmdefmaaDoor

/- Walks of trees: which nodes may be: functions that call themselves. -/
namespace Go.Proofs.YtnhdbjhdmdefmaaDoor
set_option linter.unusedSimpArgs false
set_option linter.unusedVariables false
open Go.RowKit Go.Maps Culp

section
variable (kd n : Int) (s t u : ByteArray) (l c : Int) (w : World)
set_option maxRecDepth 100000 in
set_option maxHeartbeats 1600000 in
theorem may_rec (hS : Sp w) (hz : s.size ≤ 140737488351232) : Calls Tryd.prog 25 #[.agg #[.int .i8 6, .int .i64 kd, .int .i64 n, .string s, .string t, .string u, .int .i64 l, .int .i64 c]] w (Makes (.bool (Tr.may ⟨6, kd, n, s, t, u, l, c⟩)) w) := by
  have HS := Lib.hid hS
  clear hS
  go_enter Tryd.func25, Tryd.ntmps25
  go_wp2_with fail
  refine (arities_any 6 _).mono ?_
  rintro e w1 ⟨rfl, rfl⟩
  rw [show Tr.arit 6 = 1 from rfl]
  go_wp2_with fail
  all_goals
    refine (two_any s _ hz (HS.out.later (((Below.refl _ _).alloc (Nat.le_refl _) _).alloc (by simp) _))).mono ?_
    rintro e w2 ⟨n1, n2, rfl, hb⟩
    obtain ⟨hx, hr, hf, hbw⟩ := two_blocks hb
    have HB := Lib.hid hbw
    have r0 := hr 0 _ rfl
    have r1 := hr 1 _ rfl
    have r2 := hr 2 _ rfl
    have r3 := hr 3 _ rfl
    have r4 := hr 4 _ rfl
    have r5 := hr 5 _ rfl
    have r6 := hr 6 _ rfl
    have r7 := hr 7 _ rfl
    have f3 := hf 3
    have f4 := hf 4
    have f5 := hf 5
    have x4 := hx 4 _ rfl
    have x5 := hx 5 _ rfl
    clear hb hx hr hf hbw
    go_wp2_with (go_at_call 43; refine (tNote_any _ _).mono ?_; rintro e w' ⟨rfl, rfl⟩)
    all_goals
      go_ret
      refine Makes.mk ?_ ?_
      · go_light
        simp only [Tr.may, Tr.kOk, Tr.nOk, Tr.sOk, Tr.tOk, Tr.uOk, show Tr.arit 6 = 1 from rfl]
        simp_all [toL'] <;> omega
      · first
          | exact ((Below.refl _ _).alloc (Nat.le_refl _) _).alloc (by simp) _
          | exact (HB.out).setCell (Nat.le_succ _) _
          | exact (((HB.out).setCell (Nat.le_succ _) _).setCell (Nat.le_succ _) _).setCell (Nat.le_succ _) _
end
end Go.Proofs.YtnhdbjhdmdefmaaDoor

/- Walks of trees: which nodes may be: names, functions, bindings. -/
namespace Go.Proofs.YtnhdbjhdmdefmaaDoor
set_option linter.unusedSimpArgs false
set_option linter.unusedVariables false
open Go.RowKit Go.Maps Culp

section
variable (kd n : Int) (s t u : ByteArray) (l c : Int) (w : World)
set_option maxRecDepth 100000 in
set_option maxHeartbeats 3200000 in
theorem may_var (hS : Sp w) (hz : s.size ≤ 140737488351232) : Calls Tryd.prog 25 #[.agg #[.int .i8 4, .int .i64 kd, .int .i64 n, .string s, .string t, .string u, .int .i64 l, .int .i64 c]] w (Makes (.bool (Tr.may ⟨4, kd, n, s, t, u, l, c⟩)) w) := by
  have HS := Lib.hid hS
  clear hS
  go_enter Tryd.func25, Tryd.ntmps25
  go_wp2_with fail
  refine (arities_any 4 _).mono ?_
  rintro e w1 ⟨rfl, rfl⟩
  rw [show Tr.arit 4 = 0 from rfl]
  go_wp2_with (first
    | (go_at_call 43; refine (tNote_any _ _).mono ?_; rintro e w' ⟨rfl, rfl⟩)
    | (go_at_call 44; refine (tIsName_any s _ (Nat.le_trans hz (by decide)) (HS.out.later (((Below.refl _ _).alloc (Nat.le_refl _) _).alloc (by simp) _))).mono ?_; rintro e w2 ⟨rfl, hb⟩; obtain ⟨hx, hr, hf, hbw⟩ := two_blocks hb; have HB := Lib.hid hbw; have r0 := hr 0 _ rfl; have r1 := hr 1 _ rfl; have r2 := hr 2 _ rfl; have r3 := hr 3 _ rfl; have r4 := hr 4 _ rfl; have r5 := hr 5 _ rfl; have r6 := hr 6 _ rfl; have r7 := hr 7 _ rfl; have f3 := hf 3; clear hb hx hr hf hbw))
  all_goals
    go_ret
    refine Makes.mk ?_ ?_
    · go_light
      simp only [Tr.may, Tr.kOk, Tr.nOk, Tr.sOk, Tr.tOk, Tr.uOk, show Tr.arit 4 = 0 from rfl]
      simp_all [toL'] <;> omega
    · first
        | exact ((Below.refl _ _).alloc (Nat.le_refl _) _).alloc (by simp) _
        | exact (HB.out).setCell (Nat.le_succ _) _
        | exact (((HB.out).setCell (Nat.le_succ _) _).setCell (Nat.le_succ _) _).setCell (Nat.le_succ _) _
set_option maxRecDepth 100000 in
set_option maxHeartbeats 3200000 in
theorem may_fn (hS : Sp w) (hz : s.size ≤ 140737488351232) : Calls Tryd.prog 25 #[.agg #[.int .i8 5, .int .i64 kd, .int .i64 n, .string s, .string t, .string u, .int .i64 l, .int .i64 c]] w (Makes (.bool (Tr.may ⟨5, kd, n, s, t, u, l, c⟩)) w) := by
  have HS := Lib.hid hS
  clear hS
  go_enter Tryd.func25, Tryd.ntmps25
  go_wp2_with fail
  refine (arities_any 5 _).mono ?_
  rintro e w1 ⟨rfl, rfl⟩
  rw [show Tr.arit 5 = 1 from rfl]
  go_wp2_with (first
    | (go_at_call 43; refine (tNote_any _ _).mono ?_; rintro e w' ⟨rfl, rfl⟩)
    | (go_at_call 44; refine (tIsName_any s _ (Nat.le_trans hz (by decide)) (HS.out.later (((Below.refl _ _).alloc (Nat.le_refl _) _).alloc (by simp) _))).mono ?_; rintro e w2 ⟨rfl, hb⟩; obtain ⟨hx, hr, hf, hbw⟩ := two_blocks hb; have HB := Lib.hid hbw; have r0 := hr 0 _ rfl; have r1 := hr 1 _ rfl; have r2 := hr 2 _ rfl; have r3 := hr 3 _ rfl; have r4 := hr 4 _ rfl; have r5 := hr 5 _ rfl; have r6 := hr 6 _ rfl; have r7 := hr 7 _ rfl; have f3 := hf 3; clear hb hx hr hf hbw))
  all_goals
    go_ret
    refine Makes.mk ?_ ?_
    · go_light
      simp only [Tr.may, Tr.kOk, Tr.nOk, Tr.sOk, Tr.tOk, Tr.uOk, show Tr.arit 5 = 1 from rfl]
      simp_all [toL'] <;> omega
    · first
        | exact ((Below.refl _ _).alloc (Nat.le_refl _) _).alloc (by simp) _
        | exact (HB.out).setCell (Nat.le_succ _) _
        | exact (((HB.out).setCell (Nat.le_succ _) _).setCell (Nat.le_succ _) _).setCell (Nat.le_succ _) _
set_option maxRecDepth 100000 in
set_option maxHeartbeats 3200000 in
theorem may_let (hS : Sp w) (hz : s.size ≤ 140737488351232) : Calls Tryd.prog 25 #[.agg #[.int .i8 8, .int .i64 kd, .int .i64 n, .string s, .string t, .string u, .int .i64 l, .int .i64 c]] w (Makes (.bool (Tr.may ⟨8, kd, n, s, t, u, l, c⟩)) w) := by
  have HS := Lib.hid hS
  clear hS
  go_enter Tryd.func25, Tryd.ntmps25
  go_wp2_with fail
  refine (arities_any 8 _).mono ?_
  rintro e w1 ⟨rfl, rfl⟩
  rw [show Tr.arit 8 = 2 from rfl]
  go_wp2_with (first
    | (go_at_call 43; refine (tNote_any _ _).mono ?_; rintro e w' ⟨rfl, rfl⟩)
    | (go_at_call 44; refine (tIsName_any s _ (Nat.le_trans hz (by decide)) (HS.out.later (((Below.refl _ _).alloc (Nat.le_refl _) _).alloc (by simp) _))).mono ?_; rintro e w2 ⟨rfl, hb⟩; obtain ⟨hx, hr, hf, hbw⟩ := two_blocks hb; have HB := Lib.hid hbw; have r0 := hr 0 _ rfl; have r1 := hr 1 _ rfl; have r2 := hr 2 _ rfl; have r3 := hr 3 _ rfl; have r4 := hr 4 _ rfl; have r5 := hr 5 _ rfl; have r6 := hr 6 _ rfl; have r7 := hr 7 _ rfl; have f3 := hf 3; clear hb hx hr hf hbw))
  all_goals
    go_ret
    refine Makes.mk ?_ ?_
    · go_light
      simp only [Tr.may, Tr.kOk, Tr.nOk, Tr.sOk, Tr.tOk, Tr.uOk, show Tr.arit 8 = 2 from rfl]
      simp_all [toL'] <;> omega
    · first
        | exact ((Below.refl _ _).alloc (Nat.le_refl _) _).alloc (by simp) _
        | exact (HB.out).setCell (Nat.le_succ _) _
        | exact (((HB.out).setCell (Nat.le_succ _) _).setCell (Nat.le_succ _) _).setCell (Nat.le_succ _) _
end
end Go.Proofs.YtnhdbjhdmdefmaaDoor

/- Walks of trees: which nodes may be: the other kinds, all kinds. -/
namespace Go.Proofs.YtnhdbjhdmdefmaaDoor
set_option linter.unusedSimpArgs false
set_option linter.unusedVariables false
open Go.RowKit Go.Maps Culp

set_option maxRecDepth 100000 in
set_option maxHeartbeats 3200000 in
theorem may_other (k kd n : Int) (s t u : ByteArray) (l c : Int) (w : World) (hS : Sp w) (e1 : (k == 1) = false) (e2 : (k == 2) = false) (e3 : (k == 3) = false) (e4 : (k == 4) = false) (e5 : (k == 5) = false) (e6 : (k == 6) = false) (e8 : (k == 8) = false) (e29 : (k == 29) = false) :
    Calls Tryd.prog 25 #[.agg #[.int .i8 k, .int .i64 kd, .int .i64 n, .string s, .string t, .string u, .int .i64 l, .int .i64 c]] w (Makes (.bool (Tr.may ⟨k, kd, n, s, t, u, l, c⟩)) w) := by
  have HS := Lib.hid hS
  obtain ⟨a, ha⟩ : ∃ a, Tr.arit k = a := ⟨_, rfl⟩
  have HA := Lib.hid ha
  clear hS ha
  go_enter Tryd.func25, Tryd.ntmps25
  go_wp2_with fail
  refine (arities_any k _).mono ?_
  rintro e w1 ⟨rfl, rfl⟩
  rw [HA.out]
  go_wp2_with fail
  all_goals
    go_ret
    refine Makes.mk ?_ (((Below.refl _ _).alloc (Nat.le_refl _) _).alloc (by simp) _)
    go_light
    simp only [Tr.may, Tr.kOk, Tr.nOk, Tr.sOk, Tr.tOk, Tr.uOk, HA.out]
    clear HA
    simp_all [toL'] <;> omega
theorem beq_no {k : Int} {z : Int} (h : k ≠ z) : (k == z) = false := beq_eq_false_iff_ne.2 h
/-- May a node stand in a source's tree, as the program says. -/
theorem may_any (x : Nd) (w : World) (hS : Sp w) (hz : x.s.size ≤ 140737488351232) : Calls Tryd.prog 25 #[x.val] w (Makes (.bool (Tr.may x)) w) := by
  obtain ⟨k, kd, n, s, t, u, l, c⟩ := x
  by_cases h1 : k = 1
  · subst h1; exact may_num kd n s t u l c w hS
  by_cases h2 : k = 2
  · subst h2; exact may_str kd n s t u l c w hS hz
  by_cases h3 : k = 3
  · subst h3; exact may_truth kd n s t u l c w hS
  by_cases h4 : k = 4
  · subst h4; exact may_var kd n s t u l c w hS hz
  by_cases h5 : k = 5
  · subst h5; exact may_fn kd n s t u l c w hS hz
  by_cases h6 : k = 6
  · subst h6; exact may_rec kd n s t u l c w hS hz
  by_cases h8 : k = 8
  · subst h8; exact may_let kd n s t u l c w hS hz
  by_cases h29 : k = 29
  · subst h29; exact may_as kd n s t u l c w hS
  exact may_other k kd n s t u l c w hS (beq_no h1) (beq_no h2) (beq_no h3) (beq_no h4) (beq_no h5) (beq_no h6) (beq_no h8) (beq_no h29)
end Go.Proofs.YtnhdbjhdmdefmaaDoor

/- Walks of trees, the document's: the two names of a function that calls itself. -/
namespace Go.Proofs.YtnhdbjhdmdefmaaDoor
set_option linter.unusedSimpArgs false
set_option linter.unusedVariables false
open Go.RowKit Go.Maps Culp

/-- What twoNames answers, with the names told. -/
def TwoNm (s : ByteArray) (w : World) (e : Ending) (w' : World) : Prop := ∃ a b : ByteArray, e = .returned (.tuple #[.string a, .string b, .bool (Tr.twoOk s.data.toList)]) ∧ (∀ x y, Tr.two s.data.toList = some (x, y) → a = ⟨x.toArray⟩ ∧ b = ⟨y.toArray⟩) ∧ Below w.heap.size w w'
end Go.Proofs.YtnhdbjhdmdefmaaDoor

/- Walks of trees, the document's: which nodes may be. -/
namespace Go.Proofs.YtnhdbjhdmdefmaaDoor
set_option linter.unusedSimpArgs false
set_option linter.unusedVariables false
open Go.RowKit Go.Maps Culp

section
variable (kd n : Int) (s t u : ByteArray) (l c : Int) (w : World)
end
end Go.Proofs.YtnhdbjhdmdefmaaDoor

/- Walks of trees, the document's: which nodes may be: texts, functions that call themselves. -/
namespace Go.Proofs.YtnhdbjhdmdefmaaDoor
set_option linter.unusedSimpArgs false
set_option linter.unusedVariables false
open Go.RowKit Go.Maps Culp

section
variable (kd n : Int) (s t u : ByteArray) (l c : Int) (w : World)
end
end Go.Proofs.YtnhdbjhdmdefmaaDoor

/- Walks of trees, the document's: which nodes may be: names, functions, bindings. -/
namespace Go.Proofs.YtnhdbjhdmdefmaaDoor
set_option linter.unusedSimpArgs false
set_option linter.unusedVariables false
open Go.RowKit Go.Maps Culp

section
variable (kd n : Int) (s t u : ByteArray) (l c : Int) (w : World)
end
end Go.Proofs.YtnhdbjhdmdefmaaDoor

/- Walks of trees, the document's: which nodes may be: the other kinds. -/
namespace Go.Proofs.YtnhdbjhdmdefmaaDoor
set_option linter.unusedSimpArgs false
set_option linter.unusedVariables false
open Go.RowKit Go.Maps Culp

theorem arV_yes {k a : Int} (h : Tr.arit k = a) (h0 : 0 ≤ a) : arV k = .tuple #[.int .i64 a, .bool true] := by unfold arV; rw [h, if_pos h0]
theorem arV_no {k a : Int} (h : Tr.arit k = a) (h0 : ¬ 0 ≤ a) : arV k = .tuple #[.int .i64 0, .bool false] := by unfold arV; rw [h, if_neg h0]
theorem arit_list {k : Int} (h : k ≠ 21) (h0 : ¬ 0 ≤ Tr.arit k) : Tr.arit k = -2 := by
  unfold Tr.arit at h0 ⊢
  split at h0
  · omega
  split at h0
  · omega
  split at h0
  · omega
  split at h0
  · omega
  · rename_i a b c d
    rw [if_neg a, if_neg b, if_neg c, if_neg d, if_neg h]
end Go.Proofs.YtnhdbjhdmdefmaaDoor

/- Walks of trees, the document's: which nodes may be: all kinds. -/
namespace Go.Proofs.YtnhdbjhdmdefmaaDoor
set_option linter.unusedSimpArgs false
set_option linter.unusedVariables false
open Go.RowKit Go.Maps Culp

end Go.Proofs.YtnhdbjhdmdefmaaDoor

/- Walks of trees: a stack of numbers in memory; the checker. -/
namespace Culp
set_option linter.unusedSimpArgs false
set_option linter.unusedVariables false
open Go Go.RowKit
theorem own_shape {w : World} {base size n : Nat} {e : TypeId} {v : Value} {xs : List Value} (h : w.ownsRow base e size v n xs) : ∃ A c, v = .slice A n c := by
  rcases h.2 with ⟨rfl, rfl⟩ | ⟨g, cap, cur, rfl, _⟩
  · exact ⟨_, _, rfl⟩
  · exact ⟨_, _, rfl⟩
theorem below_more {B B' : Nat} {a w w' : World} (h : Below B a w) (k : Below B' w w') (hB : B ≤ B') : Below B a w' :=
  ⟨k.os.trans h.os, k.tape.trans h.tape, k.output.trans h.output, Nat.le_trans h.size k.size, fun j hj => (k.block j (by omega)).trans (h.block j hj)⟩
section
variable {w : World} {base g n c m i : Nat} {e : TypeId} {xs : List Value} {v : Value}
theorem own_lit (w : World) (e : TypeId) (x : Value) : (w.alloc (.cells #[x] e)).ownsRow w.heap.size e 1 (.slice (some ⟨w.heap.size, 0, none⟩) 1 1) 1 [x] :=
  ⟨rfl, .inr ⟨w.heap.size, 1, #[x], rfl, Nat.le_refl _, (MapKept.heap_alloc w _).1, Nat.le_refl _, by unfold maxLen; omega, rfl, rfl⟩⟩
theorem own_parts (h : w.ownsRow base e 1 (.slice (some ⟨g, 0, none⟩) n c) n xs) : ∃ cur : Array Value, base ≤ g ∧ w.heap[g]? = some (.cells cur e (0, 0)) ∧ n ≤ c ∧ c ≤ maxLen ∧ cur.size = c ∧ cur.toList.take n = xs := by
  rcases h.2 with ⟨h1, _⟩ | ⟨g', cap, cur, h1, hb, hh, hc, hm, hsz, ht⟩
  · cases h1
  · simp only [Value.slice.injEq, Option.some.injEq, Addr.mk.injEq] at h1
    obtain ⟨⟨rfl, _⟩, _, rfl⟩ := h1
    rw [Nat.mul_one] at hsz ht
    exact ⟨cur, hb, hh, hc, hm, hsz, ht⟩
theorem own_mk {cur : Array Value} (hb : base ≤ g) (hh : w.heap[g]? = some (.cells cur e (0, 0))) (hc : n ≤ c) (hm : c ≤ maxLen) (hsz : cur.size = c) : w.ownsRow base e 1 (.slice (some ⟨g, 0, none⟩) n c) n (cur.toList.take n) :=
  ⟨by rw [List.length_take, Nat.mul_one]; simp; omega, .inr ⟨g, c, cur, rfl, hb, hh, hc, hm, by rw [Nat.mul_one]; exact hsz, by rw [Nat.mul_one]⟩⟩
theorem own_cut (h : w.ownsRow base e 1 (.slice (some ⟨g, 0, none⟩) n c) n xs) (hm : m ≤ n) : w.ownsRow base e 1 (.slice (some ⟨g, 0, none⟩) m c) m (xs.take m) := by
  obtain ⟨cur, hb, hh, hc, hx, hsz, rfl⟩ := own_parts h
  rw [List.take_take, Nat.min_eq_left hm]
  exact own_mk hb hh (Nat.le_trans hm hc) hx hsz
theorem own_setv (h : w.ownsRow base e 1 (.slice (some ⟨g, 0, none⟩) n c) n xs) (i : Nat) (v : Value) : (w.setCell ⟨g, i, none⟩ v).ownsRow base e 1 (.slice (some ⟨g, 0, none⟩) n c) n (xs.set i v) := by
  obtain ⟨cur, hb, hh, hc, hx, hsz, rfl⟩ := own_parts h
  have := own_mk (w := w.setCell ⟨g, i, none⟩ v) (e := e) (cur := cur.setIfInBounds i v) (n := n) hb (by simp [World.setCell, Array.getElem?_modify, hh]) hc hx (by simpa using hsz)
  rw [← List.take_set] 
  simpa using this
theorem own_get (h : w.ownsRow base e 1 (.slice (some ⟨g, 0, none⟩) n c) n xs) (hx : xs[i]? = some v) : w.cell? ⟨g, i, none⟩ = some v ∧ w.frozen? ⟨g, i, none⟩ = false := by
  obtain ⟨cur, hb, hh, hc, hm, hsz, rfl⟩ := own_parts h
  rw [List.getElem?_take] at hx
  split at hx
  · exact ⟨by simp [World.cell?, hh]; simpa using hx, by simp [World.frozen?, hh]⟩
  · cases hx
end
end Culp
namespace Go.Proofs.YtnhdbjhdmdefmaaDoor
set_option linter.unusedSimpArgs false
set_option linter.unusedVariables false
open Go.RowKit Go.Maps Culp

/-- A stack of numbers, its top behind all. -/
def Stk (base : Nat) (u : Value) (S : List Int) (w : World) : Prop := w.ownsRow base 3 1 u S.length (S.reverse.map (Value.int .i64))
section
variable {base g cap : Nat} {u : Value} {S r : List Int} {c c' : Int} {w w' : World}
theorem Stk.form (h : Stk base u S w) : ∃ A c, u = .slice A S.length c := own_shape h
theorem Stk.top (h : Stk base u (c :: r) w) : ∃ g cap, u = .slice (some ⟨g, 0, none⟩) (r.length + 1) cap ∧ base ≤ g ∧ g < w.heap.size ∧ r.length + 1 ≤ cap ∧ w.cell? ⟨g, r.length, none⟩ = some (.int .i64 c) ∧ w.frozen? ⟨g, r.length, none⟩ = false := by
  rcases h.2 with ⟨_, h0⟩ | ⟨g, cap, cur, rfl, hb, hh, hc, _⟩
  · simp at h0
  · have hg := own_get (i := r.length) (v := .int .i64 c) h (by simp)
    exact ⟨g, cap, rfl, hb, (h.lt g rfl).2, hc, hg.1, hg.2⟩
theorem Stk.pop (h : Stk base (.slice (some ⟨g, 0, none⟩) (r.length + 1) cap) (c :: r) w) : Stk base (.slice (some ⟨g, 0, none⟩) r.length cap) r w := by
  have := own_cut (m := r.length) h (Nat.le_succ _)
  unfold Stk
  simpa using this
theorem Stk.dec (h : Stk base (.slice (some ⟨g, 0, none⟩) (r.length + 1) cap) (c :: r) w) (c' : Int) : Stk base (.slice (some ⟨g, 0, none⟩) (r.length + 1) cap) (c' :: r) (w.setCell ⟨g, r.length, none⟩ (.int .i64 c')) := by
  have := own_setv h r.length (.int .i64 c')
  unfold Stk
  have e : ((c :: r).reverse.map (Value.int .i64)).set r.length (.int .i64 c') = (c' :: r).reverse.map (Value.int .i64) := by
    simp
  rw [e] at this
  exact this
theorem Stk.at_ (h : Stk base (.slice (some ⟨g, 0, none⟩) (r.length + 1) cap) (c :: r) w) : w.cell? ⟨g, r.length, none⟩ = some (.int .i64 c) ∧ w.frozen? ⟨g, r.length, none⟩ = false ∧ base ≤ g :=
  have hg := own_get (i := r.length) (v := .int .i64 c) h (by simp)
  ⟨hg.1, hg.2, (own_parts h).choose_spec.1⟩
theorem Stk.nth {A : Option Addr} {n cap' : Nat} (h : Stk base (.slice A n cap') S w) {j : Nat} (hj : j < S.length) : ∃ g, A = some ⟨g, 0, none⟩ ∧ ∀ x, S.reverse[j]? = some x → w.cell? ⟨g, j, none⟩ = some (.int .i64 x) := by
  obtain ⟨A', c', hv, hl, hA⟩ := own_form h
  cases hv
  obtain ⟨g, rfl, _, hc⟩ := hA (by omega)
  refine ⟨g, rfl, fun x hx => hc j _ ?_⟩
  rw [List.getElem?_map, hx]; rfl
theorem Stk.later (h : Stk base u S w) (hb : Below w.heap.size w w') : Stk base u S w' := own_later h hb
theorem Stk.push (h : w.ownsRow base 3 1 u (S.length + 1) (S.reverse.map (Value.int .i64) ++ [.int .i64 c])) : Stk base u (c :: S) w := by
  unfold Stk
  simpa using h
end
def slLen : Value → Nat
  | .slice _ n _ => n
  | _ => 0
def depV : Option Nat → Int
  | some j => j
  | none => -1
theorem any_rev (S : List Int) : S.any (fun n => decide (0 < n)) = S.reverse.any (fun n => decide (0 < n)) := by rw [List.any_reverse]
theorem any_yes {S : List Int} {j : Nat} {x : Int} (hj : S.reverse[j]? = some x) (hx : 0 < x) : S.any (fun n => decide (0 < n)) = true := by
  rw [any_rev, List.any_eq_true]
  exact ⟨x, List.mem_of_getElem? hj, by simpa using hx⟩
theorem any_no {S : List Int} (h : ∀ (j : Nat) (x : Int), j < S.length → S.reverse[j]? = some x → ¬ 0 < x) : S.any (fun n => decide (0 < n)) = false := by
  rw [any_rev, Bool.eq_false_iff]
  intro ha
  rw [List.any_eq_true] at ha
  obtain ⟨x, hx, hx2⟩ := ha
  obtain ⟨j, hj⟩ := List.getElem?_of_mem hx
  have hjl := (List.getElem?_eq_some_iff.1 hj).1
  rw [List.length_reverse] at hjl
  exact h j x hjl hj (by simpa using hx2)
theorem int_info : (Tryd.prog.info? 3).map (fun i => (i.zero, i.size, i.bytes)) = some (some (.int .i64 0), 1, 8) := by kernel_rfl
theorem int_eq' {a b : Nat} (h : a = b) : (((a : Nat) : Int) == ((b : Nat) : Int)) = true := by rw [h]; exact beq_self_eq_true _
/-- A node that was boxed. -/
def Box (g : Nat) (x : Nd) (w : World) : Prop := w.heap[g]? = some (.cells x.cells.toArray 42 (0, 0))
section
variable {g : Nat} {x : Nd} {w w' : World}
theorem Box.lt (h : Box g x w) : g < w.heap.size := by
  rcases Nat.lt_or_ge g w.heap.size with hlt | hge
  · exact hlt
  · unfold Box at h; rw [Array.getElem?_eq_none hge] at h; cases h
theorem Box.cell (h : Box g x w) (i : Nat) : w.cell? ⟨g, i, none⟩ = x.cells[i]? := by unfold Box at h; simp [World.cell?, h]
theorem Box.later (h : Box g x w) (hb : Below w.heap.size w w') : Box g x w' := (hb.block g h.lt).trans h
theorem Box.other {g2 i : Nat} {u : Value} (h : Box g x w) (hne : g ≠ g2) : Box g x (w.setCell ⟨g2, i, none⟩ u) := by
  unfold Box at *
  rw [Below.heap_setCell _ _ _ _ hne]; exact h
theorem Stk.ne {base gs n cap : Nat} {S : List Int} (h : Stk base (.slice (some ⟨gs, 0, none⟩) n cap) S w) (hb : Box g x w) (hn : n = S.length) : g ≠ gs := by
  rintro rfl
  subst hn
  obtain ⟨cur, _, hh, _⟩ := own_parts h
  unfold Box at hb
  rw [hh] at hb
  simp at hb
theorem box_alloc (w : World) (x : Nd) : Box w.heap.size x (w.alloc (.cells x.cells.toArray 42)) := (MapKept.heap_alloc w _).1
end
set_option maxRecDepth 100000 in
set_option maxHeartbeats 6400000 in
theorem tCheck_any (T : List Nd) (tv : Value) (w : World) (hn : Nodes w tv T) (hS : Sp w) (hz : ∀ x ∈ T, x.s.size ≤ 140737488351232) (hk : ∀ x ∈ T, x.kids ≤ 9223372036854775807) :
    Calls Tryd.prog 12 #[tv] w (Makes (.tuple #[.int .i64 (Tr.check T).1, .int .i64 (Tr.check T).2]) w) := by
  have HS := Lib.hid hS
  have HN := Lib.hid hn
  have HZ := Lib.hid hz
  have HK := Lib.hid hk
  obtain ⟨A, c, rfl, hlc, _⟩ := hn
  clear hS hz hk
  by_cases hlen : T.length = 0 ∨ 4096 < T.length
  · have HC : Hid (Tr.check T = (17, 0)) := Lib.hid (by unfold Tr.check; rw [if_pos hlen])
    go_enter Tryd.func12, Tryd.ntmps12
    rcases hlen with h0 | h0
    · have e0 := eq_lit (n := T.length) (z := 0) (by omega)
      go_wp2_with fail
      go_ret2
      exact Makes.mk (by rw [HC.out]; rfl) (Below.refl _ _)
    · have e0 := ne_lit (n := T.length) (z := 0) (by omega)
      go_wp2_with fail
      go_ret2
      exact Makes.mk (by rw [HC.out]; rfl) (Below.refl _ _)
  have h0 : 0 < T.length := by omega
  have h1 : T.length ≤ 4096 := by omega
  have HC : Hid (Tr.check T = Tr.scan T [1] 0 none) := Lib.hid (by unfold Tr.check; rw [if_neg hlen])
  have e0 := ne_lit (n := T.length) (z := 0) (by omega)
  clear hlen
  go_enter Tryd.func12, Tryd.ntmps12
  go_wp2_with fail
  have hst : Stk w.heap.size (.slice (some ⟨w.heap.size, 0, none⟩) 1 1) [1] (w.alloc (.cells #[.int .i64 1] 3)) := own_lit w _ _
  have HST0 := Lib.hid hst
  have HB0 : Hid (Below w.heap.size w (w.alloc (.cells #[.int .i64 1] 3))) := Lib.hid ((Below.refl _ _).alloc (Nat.le_refl _) _)
  clear hst
  generalize w.alloc (.cells #[.int .i64 1] 3) = w1 at *
  go_loopw [4, 5, 21] (fun v dv i wr => ∃ (k : Nat) (S : List Int) (d : Option Nat) (u : Value), v = u ∧ dv = .int .i64 (depV d) ∧ i = .int .i64 k ∧ k ≤ T.length ∧ S.length ≤ k + 1 ∧ Hid (∀ n ∈ S, 0 ≤ n ∧ n ≤ 9223372036854775807) ∧ Hid (∀ j, d = some j → j < k) ∧ Hid (Tr.check T = Tr.scan (T.drop k) S k d) ∧ Hid (Stk w.heap.size u S wr) ∧ Hid (Below w.heap.size w wr)) (fun _ _ i _ => T.length - (intOf i).toNat)
  case atStart => exact ⟨0, [1], none, _, rfl, rfl, rfl, Nat.zero_le _, Nat.le_refl _, Lib.hid (by simp), Lib.hid (by simp), Lib.hid (by rw [HC.out, List.drop_zero]), HST0, HB0⟩
  case round =>
    clear HST0 HB0
    obtain ⟨k, S, d, u, rfl, rfl, rfl, hk, hS, HP, HD, HCH, HST, HB⟩ := hrel
    by_cases hlt : k < T.length
    · obtain ⟨A2, c2, e2, _, hN⟩ := HN.out.later HB.out
      simp only [Value.slice.injEq] at e2
      obtain ⟨rfl, _, rfl⟩ := e2
      obtain ⟨b, off, rfl, hM⟩ := hN (by omega)
      have hx : T[k]? = some T[k] := List.getElem?_eq_getElem hlt
      obtain ⟨n0, n1, n2, n3, n4, n5, n6, n7⟩ := hM.at_ hx
      have HZX := Lib.hid (HZ.out _ (List.mem_of_getElem? hx))
      have HKX := Lib.hid (HK.out _ (List.mem_of_getElem? hx))
      have hdrop : T.drop k = T[k] :: T.drop (k + 1) := List.drop_eq_getElem_cons hlt
      rw [hdrop, Tr.scan_cons] at HCH
      generalize T[k] = x at *
      clear hx hN hM hdrop
      go_wp2_with fail
      have HBX : Hid (Box wr.heap.size x (wr.alloc (.cells #[.int .i8 x.kind, .int .i64 x.kids, .int .i64 x.n, .string x.s, .string x.t, .string x.u, .int .i64 x.line, .int .i64 x.col] 42))) := Lib.hid (box_alloc wr x)
      have hb2 : Below wr.heap.size wr (wr.alloc (.cells #[.int .i8 x.kind, .int .i64 x.kids, .int .i64 x.n, .string x.s, .string x.t, .string x.u, .int .i64 x.line, .int .i64 x.col] 42)) := (Below.refl _ _).alloc (Nat.le_refl _) _
      have HST1 := Lib.hid (HST.out.later hb2)
      have HB1 := Lib.hid (below_later hb2 HB.out)
      clear hb2 HST HB n0 n1 n2 n3 n4 n5 n6 n7
      generalize wr.alloc (.cells #[.int .i8 x.kind, .int .i64 x.kids, .int .i64 x.n, .string x.s, .string x.t, .string x.u, .int .i64 x.line, .int .i64 x.col] 42) = w2 at *
      generalize wr.heap.size = gx at *
      go_loopw [4] (fun v wx => w2 = wx ∧ ∃ (S' : List Int) (u' : Value), v = u' ∧ S'.length ≤ S.length ∧ Hid (Tr.pop S' = Tr.pop S) ∧ Hid (∀ n ∈ S', n ∈ S) ∧ Hid (Stk w.heap.size u' S' w2)) (fun v _ => slLen v)
      case atStart => exact ⟨rfl, S, _, rfl, Nat.le_refl _, Lib.hid rfl, Lib.hid (fun _ h => h), HST1⟩
      case round =>
        clear HST1
        obtain ⟨rfl, S', u', rfl, hS', HPO, HSU, HSTi⟩ := hrel
        cases S' with
        | nil =>
          obtain ⟨A3, c3, rfl⟩ := HSTi.out.form
          have HF : Hid (Tr.check T = (18, k)) := Lib.hid (by rw [HCH.out, ← HPO.out]; rfl)
          rw [List.length_nil]
          go_wp2_with fail
          go_ret2
          exact Makes.mk (by rw [HF.out]; rfl) HB1.out
        | cons c r =>
          obtain ⟨g, cap, rfl, hg0, hg1, hcap, hc0, hf0⟩ := HSTi.out.top
          have hcS := HSU.out c List.mem_cons_self
          have hcb := HP.out c hcS
          rw [List.length_cons] at hS'
          by_cases hz : c = 0
          · have ez : (c == 0) = true := by rw [hz]; rfl
            have HPO2 : Hid (Tr.pop r = Tr.pop S) := Lib.hid (by rw [← HPO.out, hz]; rfl)
            have HSU2 : Hid (∀ n ∈ r, n ∈ S) := Lib.hid (fun n hn => HSU.out n (List.mem_cons_of_mem _ hn))
            have HST2 := Lib.hid HSTi.out.pop
            clear HPO HSU HSTi hcS hcb hz hg0 hg1
            go_wp2_with fail
            go_roundw
            case rel => exact ⟨trivial, r, _, rfl, by omega, HPO2, HSU2, HST2⟩
            case measure => simp [slLen]
          have ez : (c == 0) = false := beq_no hz
          have hpop : Tr.pop S = c :: r := by rw [← HPO.out]; unfold Tr.pop; rw [List.dropWhile_cons, if_neg (by simp [hz])]
          rw [hpop] at HCH
          have HR : Hid (∀ n ∈ r, 0 ≤ n ∧ n ≤ 9223372036854775807) := Lib.hid (fun n hn => HP.out n (HSU.out n (List.mem_cons_of_mem _ hn)))
          obtain ⟨hc1, hc2⟩ := hcb
          have hcp : 0 < c := by omega
          clear HPO HSU hpop hcS hz hg1
          have c0 : w2.cell? ⟨gx, 0, none⟩ = some (.int .i8 x.kind) := HBX.out.cell 0
          have c1 : w2.cell? ⟨gx, 1, none⟩ = some (.int .i64 x.kids) := HBX.out.cell 1
          have c2 : w2.cell? ⟨gx, 2, none⟩ = some (.int .i64 x.n) := HBX.out.cell 2
          have c3 : w2.cell? ⟨gx, 3, none⟩ = some (.string x.s) := HBX.out.cell 3
          have c4 : w2.cell? ⟨gx, 4, none⟩ = some (.string x.t) := HBX.out.cell 4
          have c5 : w2.cell? ⟨gx, 5, none⟩ = some (.string x.u) := HBX.out.cell 5
          have c6 : w2.cell? ⟨gx, 6, none⟩ = some (.int .i64 x.line) := HBX.out.cell 6
          have c7 : w2.cell? ⟨gx, 7, none⟩ = some (.int .i64 x.col) := HBX.out.cell 7
          go_wp2_with fail
          refine (may_any x _ (HS.out.later HB1.out) HZX.out).mono ?_
          rintro e w3 ⟨rfl, hb3⟩
          have HB3 := Lib.hid (below_later hb3 HB1.out)
          have HST3 := Lib.hid (HSTi.out.later hb3)
          have HBX3 := Lib.hid (HBX.out.later hb3)
          clear c0 c1 c2 c3 c4 c5 c6 c7 hb3 HB1 HSTi HBX hc0 hf0
          cases hm : Tr.may x with
          | false =>
            have HF : Hid (Tr.check T = (18, k)) := Lib.hid (by rw [HCH.out, hm]; rfl)
            clear hm
            go_wp2_with fail
            go_ret2
            exact Makes.mk (by rw [HF.out]; rfl) HB3.out
          | true =>
            have hkd := Tr.may_kids hm
            have HCH2 : Hid (Tr.check T = Tr.scan (T.drop (k + 1)) (x.kids :: (c - 1) :: r) (k + 1) (if d.isNone = true ∧ 64 < r.length + 1 then some k else d)) := Lib.hid (by rw [HCH.out, hm]; rfl)
            have HP5 : Hid (∀ n ∈ x.kids :: (c - 1) :: r, 0 ≤ n ∧ n ≤ 9223372036854775807) := Lib.hid (by
              have := HKX.out
              intro n hn
              rcases List.mem_cons.1 hn with rfl | hn
              · omega
              rcases List.mem_cons.1 hn with rfl | hn
              · omega
              · exact HR.out n hn)
            obtain ⟨t0, f0, hg0⟩ := HST3.out.at_
            have HNE := Lib.hid (HST3.out.ne HBX3.out rfl)
            have HST4 : Hid (Stk w.heap.size (.slice (some ⟨g, 0, none⟩) (r.length + 1) cap) ((c - 1) :: r) (w3.setCell ⟨g, r.length, none⟩ (.int .i64 (c - 1)))) := Lib.hid (HST3.out.dec (c - 1))
            have HBX4 : Hid (Box gx x (w3.setCell ⟨g, r.length, none⟩ (.int .i64 (c - 1)))) := Lib.hid (HBX3.out.other HNE.out)
            have HB4 : Hid (Below w.heap.size w (w3.setCell ⟨g, r.length, none⟩ (.int .i64 (c - 1)))) := Lib.hid (HB3.out.setCell hg0 _)
            clear hm HCH HR HST3 HBX3 HB3 hg0
            cases d with
            | some j =>
              have HD5 : Hid (∀ j', some j = some j' → j' < k + 1) := Lib.hid (fun j' h => Nat.lt_succ_of_lt (HD.out j' h))
              have HCH5 : Hid (Tr.check T = Tr.scan (T.drop (k + 1)) (x.kids :: (c - 1) :: r) (k + 1) (some j)) := Lib.hid HCH2.out
              unfold depV at *
              have hjn : ¬ (j : Int) < 0 := by omega
              clear HCH2
              have own4 : (w3.setCell ⟨g, r.length, none⟩ (.int .i64 (c - 1))).ownsRow w.heap.size 3 1 (.slice (some ⟨g, 0, none⟩) (r.length + 1) cap) (r.length + 1) (((c - 1) :: r).reverse.map (Value.int .i64)) := HST4.out
              have q1 : (w3.setCell ⟨g, r.length, none⟩ (.int .i64 (c - 1))).cell? ⟨gx, 1, none⟩ = some (.int .i64 x.kids) := HBX4.out.cell 1
              go_wp2_with (at_builtin; refine append_agg rfl (.tmp 68) (.tmp 71) 72 3 rfl w.heap.size _ 1 8 Tryd.underlying72 int_info rfl (by decide) _ _ _ rfl own4 [.int .i64 x.kids] rfl w3.heap.size rfl (by simp) ?_ ?_ ?_ ?_ ?_)
              · first
                  | rfl
                  | (intro y hy; simp only [List.mem_cons, List.not_mem_nil, or_false] at hy; subst hy; rfl)
              · omega
              · omega
              · have := HB4.out.size
                simpa using this
              intro v' w5 hown' hg' hb'
              have HST5 : Hid (Stk w.heap.size v' (x.kids :: (c - 1) :: r) w5) := Lib.hid (Stk.push (S := (c - 1) :: r) (by simpa using hown'))
              have HB5 := Lib.hid (HB4.out.trans hb')
              clear own4 q1 t0 f0 hown' hg' hb' HST4 HB4 HBX4
              go_wp2_with fail
              go_roundw
              case rel => exact ⟨k + 1, x.kids :: (c - 1) :: r, some j, v', rfl, rfl, by go_num, by omega, by simp only [List.length_cons]; omega, HP5, HD5, HCH5, HST5, HB5⟩
              case measure => simp [intOf]; omega
            | none =>
              by_cases h64 : 64 < r.length + 1
              · have HD5 : Hid (∀ j', some k = some j' → j' < k + 1) := Lib.hid (fun j' h => by injection h with h; omega)
                have HCH5 : Hid (Tr.check T = Tr.scan (T.drop (k + 1)) (x.kids :: (c - 1) :: r) (k + 1) (some k)) := Lib.hid (by have := HCH2.out; rw [if_pos ⟨rfl, h64⟩] at this; exact this)
                unfold depV at *
                clear HCH2
                have own4 : (w3.setCell ⟨g, r.length, none⟩ (.int .i64 (c - 1))).ownsRow w.heap.size 3 1 (.slice (some ⟨g, 0, none⟩) (r.length + 1) cap) (r.length + 1) (((c - 1) :: r).reverse.map (Value.int .i64)) := HST4.out
                have q1 : (w3.setCell ⟨g, r.length, none⟩ (.int .i64 (c - 1))).cell? ⟨gx, 1, none⟩ = some (.int .i64 x.kids) := HBX4.out.cell 1
                go_wp2_with (at_builtin; refine append_agg rfl (.tmp 68) (.tmp 71) 72 3 rfl w.heap.size _ 1 8 Tryd.underlying72 int_info rfl (by decide) _ _ _ rfl own4 [.int .i64 x.kids] rfl w3.heap.size rfl (by simp) ?_ ?_ ?_ ?_ ?_)
                · first
                    | rfl
                    | (intro y hy; simp only [List.mem_cons, List.not_mem_nil, or_false] at hy; subst hy; rfl)
                · omega
                · omega
                · have := HB4.out.size
                  simpa using this
                intro v' w5 hown' hg' hb'
                have HST5 : Hid (Stk w.heap.size v' (x.kids :: (c - 1) :: r) w5) := Lib.hid (Stk.push (S := (c - 1) :: r) (by simpa using hown'))
                have HB5 := Lib.hid (HB4.out.trans hb')
                clear own4 q1 t0 f0 hown' hg' hb' HST4 HB4 HBX4
                go_wp2_with fail
                go_roundw
                case rel => exact ⟨k + 1, x.kids :: (c - 1) :: r, some k, v', rfl, rfl, by go_num, by omega, by simp only [List.length_cons]; omega, HP5, HD5, HCH5, HST5, HB5⟩
                case measure => simp [intOf]; omega
              · have HD5 : Hid (∀ j', (none : Option Nat) = some j' → j' < k + 1) := Lib.hid (fun j' h => by cases h)
                have HCH5 : Hid (Tr.check T = Tr.scan (T.drop (k + 1)) (x.kids :: (c - 1) :: r) (k + 1) none) := Lib.hid (by have := HCH2.out; rw [if_neg (fun h => h64 h.2)] at this; exact this)
                unfold depV at *
                clear HCH2
                have own4 : (w3.setCell ⟨g, r.length, none⟩ (.int .i64 (c - 1))).ownsRow w.heap.size 3 1 (.slice (some ⟨g, 0, none⟩) (r.length + 1) cap) (r.length + 1) (((c - 1) :: r).reverse.map (Value.int .i64)) := HST4.out
                have q1 : (w3.setCell ⟨g, r.length, none⟩ (.int .i64 (c - 1))).cell? ⟨gx, 1, none⟩ = some (.int .i64 x.kids) := HBX4.out.cell 1
                go_wp2_with (at_builtin; refine append_agg rfl (.tmp 68) (.tmp 71) 72 3 rfl w.heap.size _ 1 8 Tryd.underlying72 int_info rfl (by decide) _ _ _ rfl own4 [.int .i64 x.kids] rfl w3.heap.size rfl (by simp) ?_ ?_ ?_ ?_ ?_)
                · first
                    | rfl
                    | (intro y hy; simp only [List.mem_cons, List.not_mem_nil, or_false] at hy; subst hy; rfl)
                · omega
                · omega
                · have := HB4.out.size
                  simpa using this
                intro v' w5 hown' hg' hb'
                have HST5 : Hid (Stk w.heap.size v' (x.kids :: (c - 1) :: r) w5) := Lib.hid (Stk.push (S := (c - 1) :: r) (by simpa using hown'))
                have HB5 := Lib.hid (HB4.out.trans hb')
                clear own4 q1 t0 f0 hown' hg' hb' HST4 HB4 HBX4
                go_wp2_with fail
                go_roundw
                case rel => exact ⟨k + 1, x.kids :: (c - 1) :: r, none, v', rfl, rfl, by go_num, by omega, by simp only [List.length_cons]; omega, HP5, HD5, HCH5, HST5, HB5⟩
                case measure => simp [intOf]; omega
    · have hkT : k = T.length := by omega
      have HCE : Hid (Tr.check T = if S.any (fun n => decide (0 < n)) = true then (18, T.length) else match d with | some j => (16, j) | none => (0, 0)) := Lib.hid (by rw [HCH.out, hkT, List.drop_length]; rfl)
      obtain ⟨A3, c3, rfl⟩ := HST.out.form
      clear HCH hkT
      go_wp2_with fail
      go_loopw [76] (fun i wx => wr = wx ∧ ∃ j : Nat, j ≤ S.length ∧ i = .int .i64 j ∧ Hid (∀ (m : Nat) (x : Int), m < j → S.reverse[m]? = some x → ¬ 0 < x)) (fun i _ => S.length - (intOf i).toNat)
      case atStart => exact ⟨rfl, 0, Nat.zero_le _, rfl, Lib.hid (fun m x hm => by omega)⟩
      case round =>
        obtain ⟨rfl, j, hj, rfl, HJ⟩ := hrel
        by_cases hjl : j < S.length
        · obtain ⟨g, rfl, hg⟩ := HST.out.nth hjl
          have hrx : S.reverse[j]? = some (S.reverse[j]'(by rw [List.length_reverse]; exact hjl)) := List.getElem?_eq_getElem _
          have hc0 := hg _ hrx
          generalize S.reverse[j]'(by rw [List.length_reverse]; exact hjl) = x at *
          by_cases hx0 : 0 < x
          · have HF : Hid (Tr.check T = (18, T.length)) := Lib.hid (by rw [HCE.out, if_pos (any_yes hrx hx0)])
            clear hrx hg
            go_wp2_with fail
            go_ret2
            exact Makes.mk (by rw [HF.out]; rfl) HB.out
          · have HJ2 : Hid (∀ (m : Nat) (x : Int), m < j + 1 → S.reverse[m]? = some x → ¬ 0 < x) := Lib.hid (fun m y hm hy => by
              rcases Nat.lt_or_ge m j with h | h
              · exact HJ.out m y h hy
              · obtain rfl : m = j := by omega
                rw [hrx] at hy; injection hy with hy; rw [← hy]; exact hx0)
            clear hrx hg HJ
            go_wp2_with fail
            go_roundw
            case rel => exact ⟨trivial, j + 1, by omega, by go_num, HJ2⟩
            case measure => simp [intOf]; omega
        · have HA : Hid (S.any (fun n => decide (0 < n)) = false) := Lib.hid (any_no (fun m x hm hx => HJ.out m x (by omega) hx))
          cases d with
          | some j' =>
            have HF : Hid (Tr.check T = (16, j')) := Lib.hid (by rw [HCE.out, HA.out]; rfl)
            unfold depV at *
            clear HJ
            go_wp2_with fail
            go_ret2
            exact Makes.mk (by rw [HF.out]; rfl) HB.out
          | none =>
            have HF : Hid (Tr.check T = (0, 0)) := Lib.hid (by rw [HCE.out, HA.out]; rfl)
            unfold depV at *
            clear HJ
            go_wp2_with fail
            go_ret2
            exact Makes.mk (by rw [HF.out]; rfl) HB.out
end Go.Proofs.YtnhdbjhdmdefmaaDoor

/- Walks of trees, the document's: where a part ends. -/
namespace Culp.Tr
set_option linter.unusedSimpArgs false
set_option linter.unusedVariables false
theorem beh_nil (N : Nat) (left : Int) : beh N [] left = if left ≤ 0 then some 0 else none := rfl
theorem beh_cons (N : Nat) (x : Nd) (l : List Nd) (left : Int) : beh N (x :: l) left = if left ≤ 0 then some 0 else if x.kids < 0 ∨ (N : Int) < x.kids then none else (beh N l (left - 1 + x.kids)).map (· + 1) := by rw [beh]
theorem beh_zero (N : Nat) (l : List Nd) : beh N l 0 = some 0 := by cases l <;> rfl
/-- What is said of the part that begins at a place, on the way. -/
def behAt (T : List Nd) (a j : Nat) (left : Int) : Nat := match beh T.length (T.drop j) left with | some k => j + k | none => 0
theorem behAt_start {T : List Nd} {a : Nat} (ha : a < T.length) : behind T a = behAt T a a 1 := by
  unfold behind behAt
  rw [if_neg (by omega)]
  rfl
theorem behAt_zero (T : List Nd) (a j : Nat) : behAt T a j 0 = j := by unfold behAt; rw [beh_zero]; rfl
theorem behAt_end {T : List Nd} {a j : Nat} {left : Int} (hj : T.length ≤ j) (hl : 0 < left) : behAt T a j left = 0 := by
  unfold behAt
  rw [List.drop_of_length_le hj, beh_nil, if_neg (by omega)]
theorem behAt_bad {T : List Nd} {a j : Nat} {left : Int} (hj : j < T.length) (hl : 0 < left) (hx : T[j].kids < 0 ∨ (T.length : Int) < T[j].kids) : behAt T a j left = 0 := by
  unfold behAt
  rw [List.drop_eq_getElem_cons hj, beh_cons, if_neg (by omega), if_pos hx]
theorem behAt_step {T : List Nd} {a j : Nat} {left : Int} (hj : j < T.length) (hl : 0 < left) (hx : ¬ (T[j].kids < 0 ∨ (T.length : Int) < T[j].kids)) : behAt T a j left = behAt T a (j + 1) (left - 1 + T[j].kids) := by
  unfold behAt
  rw [List.drop_eq_getElem_cons hj, beh_cons, if_neg (by omega), if_neg hx]
  cases beh T.length (T.drop (j + 1)) (left - 1 + T[j].kids) with
  | none => rfl
  | some k => simp only [Option.map_some]; omega
end Culp.Tr
namespace Go.Proofs.YtnhdbjhdmdefmaaDoor
set_option linter.unusedSimpArgs false
set_option linter.unusedVariables false
open Go.RowKit Go.Maps Culp

end Go.Proofs.YtnhdbjhdmdefmaaDoor

/- Plain: trees: parts one behind the other; a node's kids. -/
namespace Culp.Tr
set_option linter.unusedSimpArgs false
set_option linter.unusedVariables false
theorem beh_neg (N : Nat) : ∀ (l : List Nd) (left : Int), left ≤ 0 → beh N l left = some 0
  | [], left, h => by rw [beh_nil, if_pos h]
  | x :: l, left, h => by rw [beh_cons, if_pos h]
/-- So many parts: first some of them, then the others. -/
theorem beh_add (N : Nat) : ∀ (l : List Nd) (a b : Int) (k : Nat), 0 ≤ a → 0 ≤ b → beh N l (a + b) = some k → ∃ j, beh N l a = some j ∧ j ≤ k ∧ j ≤ l.length ∧ beh N (l.drop j) b = some (k - j)
  | [], a, b, k, ha, hb, h => by
    rw [beh_nil] at h
    split at h
    · injection h with h; subst h
      exact ⟨0, by rw [beh_nil, if_pos (by omega)], Nat.le_refl _, Nat.le_refl _, by rw [List.drop_nil, beh_nil, if_pos (by omega)]⟩
    · cases h
  | x :: l, a, b, k, ha, hb, h => by
    by_cases ha0 : a = 0
    · subst ha0
      rw [Int.zero_add] at h
      exact ⟨0, by rw [beh_neg _ _ _ (Int.le_refl 0)], Nat.zero_le _, Nat.zero_le _, by rw [List.drop_zero]; exact h⟩
    · rw [beh_cons, if_neg (by omega)] at h
      split at h
      · cases h
      · rename_i hx
        simp only [Option.map_eq_some_iff] at h
        obtain ⟨k', hk', rfl⟩ := h
        obtain ⟨j, h1, h2, h3, h4⟩ := beh_add N l (a - 1 + x.kids) b k' (by omega) hb (by rw [← hk']; congr 1; omega)
        refine ⟨j + 1, ?_, by omega, by rw [List.length_cons]; omega, ?_⟩
        · rw [beh_cons, if_neg (by omega), if_neg hx, h1]; rfl
        · rw [List.drop_succ_cons, h4]; congr 1; omega
/-- The places of so many kids, from a place on. -/
def kidsFrom (T : List Nd) : Nat → Nat → List Nat
  | 0, _ => []
  | n + 1, p => p :: kidsFrom T n (behind T p)
def kidsOf (T : List Nd) (a : Int) : List Nat := if behind T a = 0 then [] else kidsFrom T ((T[a.toNat]?.map fun x => x.kids.toNat).getD 0) (a.toNat + 1)
theorem behind_pos {T : List Nd} {a : Int} (h : behind T a ≠ 0) : ∃ (m : Nat) (x : Nd) (k : Nat), a = m ∧ m < T.length ∧ T[m]? = some x ∧ 0 ≤ x.kids ∧ x.kids ≤ (T.length : Int) ∧ beh T.length (T.drop (m + 1)) x.kids = some k ∧ behind T a = m + 1 + k := by
  unfold behind at h ⊢
  split at h
  · exact absurd rfl h
  · rename_i hb
    rw [if_neg hb]
    obtain ⟨m, rfl⟩ := Int.eq_ofNat_of_zero_le (show 0 ≤ a by omega)
    have hm : m < T.length := by omega
    rw [show (m : Int).toNat = m from Int.toNat_natCast m] at h ⊢
    rw [List.drop_eq_getElem_cons hm, beh_cons, if_neg (by omega)] at h ⊢
    by_cases hx : T[m].kids < 0 ∨ (T.length : Int) < T[m].kids
    · rw [if_pos hx] at h; exact absurd rfl h
    · rw [if_neg hx] at h ⊢
      rw [show (1 : Int) - 1 + T[m].kids = T[m].kids by omega] at h ⊢
      cases hk : beh T.length (T.drop (m + 1)) T[m].kids with
      | none => rw [hk] at h; exact absurd rfl h
      | some k => exact ⟨m, T[m], k, rfl, hm, List.getElem?_eq_getElem hm, by omega, by omega, hk, by simp only [Option.map_some]; omega⟩
/-- Each of so many parts has its end. -/
theorem part_end {T : List Nd} {p n k : Nat} (h : beh T.length (T.drop p) ((n + 1 : Nat) : Int) = some k) : ∃ j, beh T.length (T.drop p) 1 = some j ∧ behind T (p : Int) = p + j ∧ beh T.length (T.drop (p + j)) (n : Int) = some (k - j) ∧ p + j ≤ T.length := by
  have hp : p < T.length := by
    rcases Nat.lt_or_ge p T.length with h1 | h1
    · exact h1
    · rw [List.drop_of_length_le h1, beh_nil, if_neg (by omega)] at h; cases h
  obtain ⟨j, h1, h2, h3, h4⟩ := beh_add T.length (T.drop p) 1 n k (by omega) (by omega) (by rw [← h]; congr 1; omega)
  rw [List.drop_drop] at h4
  rw [List.length_drop] at h3
  refine ⟨j, h1, ?_, h4, by omega⟩
  unfold behind
  rw [if_neg (by omega), show (p : Int).toNat = p from Int.toNat_natCast p, h1]
end Culp.Tr

/- Walks of trees, the document's: the depths of the nodes. -/
namespace Culp
set_option linter.unusedSimpArgs false
set_option linter.unusedVariables false
open Go Go.RowKit
/-- One more struct onto a row of the call's own, and where the row lies then. -/
theorem append_agg_at {P : Program} {w : World} {ops : Array Oper} {rest : List Oper} {o : Oper} {a : Act} {Q : Exit → Act → World → Prop} (hgd : o.guard = none) (s x : Operand) (t e : TypeId)
    (ho : o.op = .call { callee := .builtin .append, args := #[s, x], argTypes := #[t, t] })
    (base : Nat) (z : Value) (size bytes : Nat) (ht : P.underlying t = some (.slice e)) (hi : (P.info? e).map (fun i => (i.zero, i.size, i.bytes)) = some (some z, size, bytes))
    (hzs : z.cells.size = size) (h0 : 0 < size)
    (v : Value) (n : Nat) (xs : List Value) (hs : a.eval s = v) (hown : w.ownsRow base e size v n xs) (us : List Value) (hus : us.length = size)
    (g : Nat) (hx : a.eval x = .slice (some ⟨g, 0, none⟩) 1 1) (hgg : w.heap.size = g) (h1 : ∀ u ∈ us, u.oneCell' = true)
    (h63 : n + 1 ≤ 1000000000000000) (hbytes : (n + 1) * bytes ≤ 140737488355328) (hbase : base ≤ w.heap.size)
    (h : ∀ v' w', w'.ownsRow base e size v' (n + 1) (xs ++ us) → w.grownBy w' v.ownBlock → Below base w w' → (v'.ownBlock = v.ownBlock ∨ v'.ownBlock = some (w.heap.size + 1)) → wpList P ops Q rest (a.put o.dst v') w') :
    wpList P ops Q (o :: rest) a (w.alloc (.cells us.toArray e)) := by
  subst hgg
  obtain ⟨i, hi, hz, hz1, hz2⟩ := info_parts hi
  refine wpList_append_own_at _ hgd s x t ho base e i z size bytes ht hi hz hz1 hz2 hzs h0 v n xs hs (hown.alloc _) ⟨w.heap.size, 0, none⟩ 1 1 us hx (by omega) ?_ h1 (by unfold maxLen; omega) hbytes (by simp; omega) ?_
  · intro j u hj
    have e1 : (⟨w.heap.size, 0, none⟩ : Addr).add j = ⟨w.heap.size, j, none⟩ := by
      unfold Addr.add
      split
      · rename_i h0; subst h0; rfl
      · simp
    rw [e1, World.cell?_alloc_at _ _ _ _ rfl]
    simpa using hj
  · intro v' w' hown' hg _ hat
    have hg' : w.grownBy w' v.ownBlock :=
      { os := hg.os, tape := hg.tape, output := hg.output,
        size := by have := hg.size; simp at this; omega,
        block := fun k hk hne => by
          rw [hg.block k (by simp; omega) hne]
          exact Below.heap_alloc _ _ _ hk }
    refine h v' w' hown' hg' ((Below.refl base w).grown hg' hbase fun k hk => ?_) (by simpa using hat)
    have := hown.lt k hk
    omega
/-- Two slices that lie in no row in common. -/
def Apart (a b : Value) : Prop := ∀ k, a.ownBlock = some k → b.ownBlock ≠ some k
section
variable {w w' : World} {base base2 size size2 n m : Nat} {e e2 : TypeId} {a a' b : Value} {xs ys : List Value}
theorem Apart.symm (h : Apart a b) : Apart b a := fun k hb ha => h k ha hb
theorem own_apart_grown (h : w.ownsRow base e size b n xs) (hg : w.grownBy w' a.ownBlock) (hA : Apart a b) : w'.ownsRow base e size b n xs := by
  refine ⟨h.1, ?_⟩
  rcases h.2 with h2 | ⟨g, cap, cur, rfl, hb, hh, h3⟩
  · exact .inl h2
  · refine .inr ⟨g, cap, cur, rfl, hb, ?_, h3⟩
    rw [hg.block g (h.lt g rfl).2 (fun e => hA g e.symm rfl)]; exact hh
theorem own_apart_keep {g : Nat} (h : w.ownsRow base e size b n xs) (hk : Keep g w w') (hA : b.ownBlock ≠ some g) : w'.ownsRow base e size b n xs := by
  refine ⟨h.1, ?_⟩
  rcases h.2 with h2 | ⟨g', cap, cur, rfl, hb, hh, h3⟩
  · exact .inl h2
  · refine .inr ⟨g', cap, cur, rfl, hb, ?_, h3⟩
    rw [hk.block g' (h.lt g' rfl).2 (fun e => hA (by rw [e]; rfl))]; exact hh
theorem Apart.grow (hA : Apart a b) (h : w.ownsRow base e size b n xs) (hat : a'.ownBlock = a.ownBlock ∨ a'.ownBlock = some (w.heap.size + 1)) : Apart a' b := by
  intro k hk hb
  rcases hat with h1 | h1
  · exact hA k (h1 ▸ hk) hb
  · rw [h1] at hk
    have := (h.lt k hb).2
    injection hk with hk
    omega
end
end Culp
namespace Culp.Tr
set_option linter.unusedSimpArgs false
set_option linter.unusedVariables false
theorem deps_nil (S : List Int) : deps [] S = [] := rfl
theorem deps_stop {x : Nd} {l : List Nd} {S : List Int} (h : pop S = []) : deps (x :: l) S = [] := by rw [deps, h]
theorem deps_more {x : Nd} {l : List Nd} {S : List Int} {c : Int} {r : List Int} (h : pop S = c :: r) : deps (x :: l) S = (r.length + 1) :: deps l (max x.kids 0 :: (c - 1) :: r) := by rw [deps, h]
end Culp.Tr
namespace Go.Proofs.YtnhdbjhdmdefmaaDoor
set_option linter.unusedSimpArgs false
set_option linter.unusedVariables false
open Go.RowKit Go.Maps Culp

def natV (n : Nat) : Value := .int .i64 (n : Int)
/-- What Depths answers. -/
def DepRes (T : List Nd) (w : World) (e : Ending) (w' : World) : Prop := ∃ v, e = .returned (.tuple #[v, .int .i64 ((Tr.deps T [1]).length : Nat)]) ∧ w'.ownsRow w.heap.size 3 1 v (Tr.deps T [1]).length ((Tr.deps T [1]).map natV) ∧ Below w.heap.size w w'
end Go.Proofs.YtnhdbjhdmdefmaaDoor

/- Walks of trees, the document's: the checker. -/
namespace Culp.Tr
set_option linter.unusedSimpArgs false
set_option linter.unusedVariables false
theorem firstBad_cons (n : Nat) (x : Nd) (l : List Nd) (i : Nat) : firstBad n (x :: l) i = if may x = true ∧ i < n then firstBad n l (i + 1) else some i := rfl
theorem firstDeep_cons (d : Nat) (l : List Nat) (i : Nat) : firstDeep (d :: l) i = if 64 < d then some i else firstDeep l (i + 1) := rfl
end Culp.Tr
namespace Go.Proofs.YtnhdbjhdmdefmaaDoor
set_option linter.unusedSimpArgs false
set_option linter.unusedVariables false
open Go.RowKit Go.Maps Culp

theorem deps_len : ∀ (l : List Nd) (S : List Int), (Tr.deps l S).length ≤ l.length
  | [], S => by rw [Tr.deps_nil]; exact Nat.le_refl _
  | x :: l, S => by
    rw [Tr.deps]
    split
    · simp
    · rw [List.length_cons, List.length_cons]
      exact Nat.succ_le_succ (deps_len l _)
theorem bad_all : ∀ (n : Nat) (l : List Nd) (i : Nat), Tr.firstBad n l i = none → l ≠ [] → i + l.length ≤ n
  | n, [], i, _, h => absurd rfl h
  | n, x :: l, i, h, _ => by
    rw [Tr.firstBad_cons] at h
    split at h
    · rename_i hx
      cases l with
      | nil => simp; omega
      | cons y l =>
        have := bad_all n (y :: l) (i + 1) h (by simp)
        simp only [List.length_cons] at this ⊢
        omega
    · cases h
end Go.Proofs.YtnhdbjhdmdefmaaDoor

/- Walks of trees: where a part ends. -/
namespace Go.Proofs.YtnhdbjhdmdefmaaDoor
set_option linter.unusedSimpArgs false
set_option linter.unusedVariables false
open Go.RowKit Go.Maps Culp

/-- What is thrown. -/
def endsP : Value := .iface 118 (.agg #[])
/-- The part's end, or the throw. -/
def BehRes (T : List Nd) (a : Nat) (w : World) (e : Ending) (w' : World) : Prop := w' = w ∧ match Tr.beh T.length (T.drop a) 1 with
  | some k => e = .returned (.int .i64 ((a + k : Nat) : Int))
  | none => e = .panicked [{ v := endsP, recovered := false }]
/-- On the way: what is still to come tells what the whole is. -/
def Way (T : List Nd) (a j : Nat) (left : Int) : Prop := a ≤ j ∧ Tr.beh T.length (T.drop a) 1 = (Tr.beh T.length (T.drop j) left).map (· + (j - a))
section
variable {T : List Nd} {a j : Nat} {left : Int}
theorem Way.start (T : List Nd) (a : Nat) : Way T a a 1 := ⟨Nat.le_refl _, by rw [Nat.sub_self]; cases Tr.beh T.length (T.drop a) 1 <;> rfl⟩
theorem Way.zero (h : Way T a j 0) : Tr.beh T.length (T.drop a) 1 = some (j - a) := by rw [h.2, Tr.beh_zero]; simp
theorem Way.done (h : Way T a j left) (hj : T.length ≤ j) (hl : 0 < left) : Tr.beh T.length (T.drop a) 1 = none := by
  rw [h.2, List.drop_of_length_le hj, Tr.beh_nil, if_neg (by omega)]; rfl
theorem Way.bad (h : Way T a j left) (hj : j < T.length) (hl : 0 < left) (hx : T[j].kids < 0 ∨ (T.length : Int) < T[j].kids) : Tr.beh T.length (T.drop a) 1 = none := by
  rw [h.2, List.drop_eq_getElem_cons hj, Tr.beh_cons, if_neg (by omega), if_pos hx]; rfl
theorem Way.step (h : Way T a j left) (hj : j < T.length) (hl : 0 < left) (hx : ¬ (T[j].kids < 0 ∨ (T.length : Int) < T[j].kids)) : Way T a (j + 1) (left - 1 + T[j].kids) := by
  obtain ⟨h1, h2⟩ := h
  refine ⟨by omega, ?_⟩
  rw [h2, List.drop_eq_getElem_cons hj, Tr.beh_cons, if_neg (by omega), if_neg hx]
  cases Tr.beh T.length (T.drop (j + 1)) (left - 1 + T[j].kids) with
  | none => rfl
  | some k => simp only [Option.map_some, Option.some.injEq]; omega
end
set_option maxRecDepth 100000 in
set_option maxHeartbeats 1600000 in
theorem tbehind_any (T : List Nd) (tv : Value) (m : Nat) (w : World) (hn : Nodes w tv T) (hT : T.length ≤ 1000000):
    Calls Tryd.prog 55 #[tv, .int .i64 m] w (BehRes T m w) := by
  have HN := Lib.hid hn
  obtain ⟨A, c, rfl, hlc, _⟩ := hn
  have HW0 := Lib.hid (Way.start T m)
  go_enter Tryd.func55, Tryd.ntmps55
  go_wp2_with fail
  go_loop [1, 5] (fun av lv => ∃ (j : Nat) (left : Int), m ≤ j ∧ j ≤ m + T.length ∧ 0 ≤ left ∧ left ≤ 1 + (j : Int) * 1000000 ∧ av = .int .i64 j ∧ lv = .int .i64 left ∧ Hid (Way T m j left)) (fun av _ => m + T.length + 1 - (intOf av).toNat)
  case atStart => exact ⟨m, 1, Nat.le_refl _, by omega, by omega, by omega, rfl, rfl, HW0⟩
  case round =>
    obtain ⟨j, left, hmj, hj, hl0, hl1, rfl, rfl, H⟩ := hrel
    by_cases hz : left = 0
    · have HF : Hid (Tr.beh T.length (T.drop m) 1 = some (j - m)) := Lib.hid (by have := H.out; rw [hz] at this; exact this.zero)
      have hlz : ¬ 0 < left := by omega
      have hjm : m + (j - m) = j := by omega
      clear H hz
      go_wp2_with fail
      go_ret
      exact ⟨rfl, by rw [HF.out]; simp only; rw [hjm]; rfl⟩
    have hlp : 0 < left := by omega
    by_cases hlt : j < T.length
    · obtain ⟨A2, c2, e2, _, hN⟩ := HN.out
      simp only [Value.slice.injEq] at e2
      obtain ⟨rfl, _, rfl⟩ := e2
      obtain ⟨b, off, rfl, hM⟩ := hN (by omega)
      have hx : T[j]? = some T[j] := List.getElem?_eq_getElem hlt
      obtain ⟨n0, n1, n2, n3, n4, n5, n6, n7⟩ := hM.at_ hx
      by_cases hb : T[j].kids < 0 ∨ (T.length : Int) < T[j].kids
      · have HF := Lib.hid (H.out.bad hlt hlp hb)
        generalize T[j] = x at *
        clear hx hN hM H n0 n2 n3 n4 n5 n6 n7 hz
        rcases hb with hb | hb
        ·
          go_wp2_with fail
          exact ⟨rfl, rfl, by rw [HF.out]; rfl⟩
        · have hb0 : ¬ x.kids < 0 := by omega
          go_wp2_with fail
          exact ⟨rfl, rfl, by rw [HF.out]; rfl⟩
      · have HF := Lib.hid (H.out.step hlt hlp hb)
        generalize T[j] = x at *
        have hb1 : 0 ≤ x.kids := by omega
        have hb2 : x.kids ≤ (T.length : Int) := by omega
        have hlu : left ≤ 1 + 1000000 * 1000000 := by
          have : (j : Int) * 1000000 ≤ 1000000 * 1000000 := by omega
          omega
        have hcomm : left + x.kids - 1 = left - 1 + x.kids := by omega
        clear hx hN hM H n0 n2 n3 n4 n5 n6 n7 hz hb
        go_wp2_with fail
        go_round
        case rel => exact ⟨j + 1, left - 1 + x.kids, by omega, by omega, by omega, by omega, by go_num, rfl, HF⟩
        case measure => simp [intOf]; omega
    · have HF := Lib.hid (H.out.done (by omega) hlp)
      clear H hz
      go_wp2_with fail
      exact ⟨rfl, rfl, by rw [HF.out]; rfl⟩
/-- A block of one cell. -/
def One (a : Nat) (t : TypeId) (v : Value) (w : World) : Prop := w.heap[a]? = some (.cells #[v] t (0, 0))
theorem One.cell {a : Nat} {t : TypeId} {v : Value} {w : World} (h : One a t v w) : w.cell? ⟨a, 0, none⟩ = some v := by unfold One at h; simp [World.cell?, h]
theorem One.free {a : Nat} {t : TypeId} {v : Value} {w : World} (h : One a t v w) : w.frozen? ⟨a, 0, none⟩ = false := by unfold One at h; simp [World.frozen?, h]
theorem One.put {a : Nat} {t : TypeId} {v : Value} {w : World} (h : One a t v w) (u : Value) : One a t u (w.setCell ⟨a, 0, none⟩ u) := by
  unfold One at h ⊢
  simp [World.setCell, Array.getElem?_modify, h]
theorem one_alloc (w : World) (t : TypeId) (v : Value) : One w.heap.size t v (w.alloc (.cells #[v] t)) := (MapKept.heap_alloc w _).1
theorem mode_same {c₀ : Frame} {cs : List Frame} {u : FrameMode} (hu : c₀.mode = u) : c₀ :: cs = { c₀ with mode := u } :: cs := by cases c₀; simp_all
theorem catch_idle (a : Nat) (w : World) :
    CallsD Tryd.prog 54 #[.pointer (some ⟨a, 0, none⟩)] .returning w fun e u' w' => e = .returned (.tuple #[]) ∧ u' = .returning ∧ w' = w := by
  refine callsD_of_wpS Tryd.func54 rfl fun c₀ cs hu => ?_
  simp only [Tryd.ntmps54, Array.replicate, List.replicate, List.size_toArray, List.length_cons, List.length_nil]
  apply wpS_seq
  apply wpS_region
  simp [wpOpsS, go_sem, recoverD, hu, Exit.thenS]
  refine wpS_of_wp ?_
  go_wp2
  exact ⟨rfl, _, mode_same hu, _, results_none rfl _ _ _, rfl, rfl, rfl⟩
theorem catch_ends (a B : Nat) (x : Value) (older : List PanicEntry) (w : World) (hx : One a 3 x w) (ha : B ≤ a) :
    CallsD Tryd.prog 54 #[.pointer (some ⟨a, 0, none⟩)] (.panicking ({ v := endsP, recovered := false } :: older)) w fun en u' w' =>
      en = .returned (.tuple #[]) ∧ u' = .panicking ({ v := endsP, recovered := true } :: older) ∧ w'.cell? ⟨a, 0, none⟩ = some (.int .i64 0) ∧ Below B w w' := by
  have hp := (hx.put (.int .i64 0)).cell
  have hb : Below B w (w.setCell ⟨a, 0, none⟩ (.int .i64 0)) := (Below.refl _ _).setCell ha _
  have hc := hx.cell
  have hf := hx.free
  unfold endsP
  refine callsD_of_wpS Tryd.func54 rfl fun c₀ cs hu => ?_
  simp only [Tryd.ntmps54, Array.replicate, List.replicate, List.size_toArray, List.length_cons, List.length_nil]
  apply wpS_seq
  apply wpS_region
  simp [wpOpsS, go_sem, recoverD, hu, Exit.thenS]
  refine wpS_of_wp ?_
  go_wp2
  exact ⟨rfl, _, rfl, _, results_none rfl _ _ _, rfl, rfl, hp, hb⟩
theorem tbeh_some {T : List Nd} {m k : Nat} (hm : m < T.length) (h : Tr.beh T.length (T.drop m) 1 = some k) : Tr.behind T (m : Int) = m + k := by
  unfold Tr.behind
  rw [if_neg (by omega), show (m : Int).toNat = m from Int.toNat_natCast m, h]
theorem tbeh_none {T : List Nd} {m : Nat} (h : Tr.beh T.length (T.drop m) 1 = none) : Tr.behind T (m : Int) = 0 := by
  unfold Tr.behind
  split
  · rfl
  · rw [show (m : Int).toNat = m from Int.toNat_natCast m, h]
set_option maxRecDepth 100000 in
set_option maxHeartbeats 1600000 in
theorem tBehind_any (T : List Nd) (tv : Value) (a : Int) (w : World) (hn : Nodes w tv T) (hT : T.length ≤ 1000000) :
    Calls Tryd.prog 34 #[tv, .int .i64 a] w (Makes (.int .i64 (Tr.behind T a)) w) := by
  have hmf : ∀ (fn : Fn) (first cap : Array Value) (w : World), (Instr.makeFunc fn first cap).run Tryd.prog w = .ok (.func fn first cap) w := fun _ _ _ _ => rfl
  have HN := Lib.hid hn
  have hO : One w.heap.size 3 (.int .i64 0) (w.alloc (.cells #[.int .i64 0] 3)) := one_alloc _ _ _
  have hB : Below w.heap.size w (w.alloc (.cells #[.int .i64 0] 3)) := (Below.refl _ _).alloc (Nat.le_refl _) _
  have HO := Lib.hid hO
  have HB := Lib.hid hB
  by_cases ha : a < 0
  · have HF : Hid (Tr.behind T a = 0) := Lib.hid (by unfold Tr.behind; rw [if_pos (.inl ha)])
    clear hO hB
    go_enter_defers Tryd.func34, Tryd.ntmps34
    go_wp2_with fail
    rw [HF.out]
    simp [bodyPostD, Leaves, settle, results, Tryd.results34, go_sem, Makes]
    exact HB.out
  obtain ⟨m, rfl⟩ := Int.eq_ofNat_of_zero_le (show 0 ≤ a by omega)
  have HBH := Lib.hid (tbehind_any T tv m _ (HN.out.later hB) hT)
  clear hO hB
  cases h : Tr.beh T.length (T.drop m) 1 with
  | some k =>
    have hm : m < T.length := by
      rcases Nat.lt_or_ge m T.length with h1 | h1
      · exact h1
      · rw [List.drop_of_length_le h1, Tr.beh_nil, if_neg (by decide)] at h; cases h
    have HF := Lib.hid (tbeh_some hm h)
    have HK := Lib.hid h
    clear h hm
    go_enter_defers Tryd.func34, Tryd.ntmps34
    go_wp2_with fail
    refine HBH.out.mono ?_
    rintro e w2 ⟨rfl, he⟩
    rw [HK.out] at he
    obtain rfl := he
    have f0 := HO.out.cell
    have g0 := HO.out.free
    go_wp2_with fail
    refine leaves_cons (f := 54) (args := #[.pointer (some ⟨w.heap.size, 0, none⟩)]) (by simp) (by simp [go_sem]) ?_
    refine (catch_idle _ _).mono ?_
    rintro e u' w'' ⟨rfl, rfl, rfl⟩
    rw [HF.out]
    simp [Leaves, settle, results, Tryd.results34, go_sem, Makes]
    exact (Below.refl _ _).alloc (Nat.le_refl _) _
  | none =>
    have HF := Lib.hid (tbeh_none h)
    have HK := Lib.hid h
    clear h
    go_enter_defers Tryd.func34, Tryd.ntmps34
    go_wp2_with fail
    refine HBH.out.mono ?_
    rintro e w2 ⟨rfl, he⟩
    rw [HK.out] at he
    obtain rfl := he
    refine leaves_cons (f := 54) (args := #[.pointer (some ⟨w.heap.size, 0, none⟩)]) (by simp) (by simp [go_sem]) ?_
    refine (catch_ends w.heap.size w.heap.size _ [] _ HO.out (Nat.le_refl _)).mono ?_
    rintro e u' w'' ⟨rfl, rfl, k0, hB2⟩
    rw [HF.out]
    simp [Leaves, settle, results, Tryd.results34, go_sem, k0, Makes]
    exact HB.out.trans hB2
end Go.Proofs.YtnhdbjhdmdefmaaDoor

/- Walks of trees: a node's kids. -/
namespace Go.Proofs.YtnhdbjhdmdefmaaDoor
set_option linter.unusedSimpArgs false
set_option linter.unusedVariables false
open Go.RowKit Go.Maps Culp

/-- What Kids answers. -/
def KidRes (T : List Nd) (a : Int) (w : World) (e : Ending) (w' : World) : Prop := ∃ v, e = .returned v ∧ w'.ownsRow w.heap.size 3 1 v (Tr.kidsOf T a).length ((Tr.kidsOf T a).map natV) ∧ Below w.heap.size w w'
theorem kids_nil {T : List Nd} {a : Int} (h : Tr.behind T a = 0) : Tr.kidsOf T a = [] := by unfold Tr.kidsOf; rw [if_pos h]
theorem kids_some {T : List Nd} {m : Nat} {x : Nd} (h : Tr.behind T (m : Int) ≠ 0) (hx : T[m]? = some x) : Tr.kidsOf T m = Tr.kidsFrom T x.kids.toNat (m + 1) := by
  unfold Tr.kidsOf; rw [if_neg h, show (m : Int).toNat = m from Int.toNat_natCast m, hx]; rfl
end Go.Proofs.YtnhdbjhdmdefmaaDoor

/- Walks of trees: the depth; likeness. -/
namespace Culp
set_option linter.unusedSimpArgs false
set_option linter.unusedVariables false
open Go Go.RowKit
theorem own_mono {w : World} {base base' size n : Nat} {e : TypeId} {v : Value} {xs : List Value} (h : w.ownsRow base e size v n xs) (hb : base' ≤ base) : w.ownsRow base' e size v n xs := by
  refine ⟨h.1, ?_⟩
  rcases h.2 with h2 | ⟨g, cap, cur, rfl, hb', h3⟩
  · exact .inl h2
  · exact .inr ⟨g, cap, cur, rfl, Nat.le_trans hb hb', h3⟩
end Culp
namespace Culp.Tr
set_option linter.unusedSimpArgs false
set_option linter.unusedVariables false
/-- The greatest depth. -/
def deepOf (T : List Nd) : Nat := if T.length = 0 ∨ behind T 0 ≠ T.length then 0 else (deps T [1]).foldl max 0
theorem whole {T : List Nd} (h : behind T 0 = T.length) (h0 : T.length ≠ 0) : beh T.length (T.drop 0) ([1] : List Int).sum = some (T.length - 0) := by
  have h' := h
  unfold behind at h'
  rw [if_neg (by omega)] at h'
  show beh T.length (T.drop 0) 1 = _
  rw [show (0 : Int).toNat = 0 from rfl] at h'
  cases hb : beh T.length (T.drop 0) 1 with
  | none => rw [hb] at h'; simp at h'; omega
  | some k => rw [hb] at h'; simp at h'; rw [h']; rfl
theorem whole_step {N k : Nat} {x : Nd} {l : List Nd} {left : Int} (h : beh N (x :: l) left = some k) (hk : 0 < k) : 0 < left ∧ 0 ≤ x.kids ∧ x.kids ≤ (N : Int) ∧ beh N l (left - 1 + x.kids) = some (k - 1) := by
  rw [beh_cons] at h
  split at h
  · injection h with h; omega
  · split at h
    · cases h
    · simp only [Option.map_eq_some_iff] at h
      obtain ⟨j, hj, rfl⟩ := h
      exact ⟨by omega, by omega, by omega, by rw [hj]; rfl⟩
theorem fold_snoc (D : List Nat) (y : Nat) : (D ++ [y]).foldl max 0 = max (D.foldl max 0) y := by rw [List.foldl_append]; rfl
theorem fold_le {n : Nat} : ∀ (D : List Nat) (m : Nat), m ≤ n → (∀ y ∈ D, y ≤ n) → D.foldl max m ≤ n
  | [], m, hm, _ => hm
  | y :: D, m, hm, h => fold_le D (max m y) (by have := h y List.mem_cons_self; omega) fun z hz => h z (List.mem_cons_of_mem _ hz)
end Culp.Tr
namespace Go.Proofs.YtnhdbjhdmdefmaaDoor
set_option linter.unusedSimpArgs false
set_option linter.unusedVariables false
open Go.RowKit Go.Maps Culp

set_option maxRecDepth 100000 in
set_option maxHeartbeats 6400000 in
theorem tDeep_any (T : List Nd) (tv : Value) (w : World) (hn : Nodes w tv T) (hT : T.length ≤ 1000000) :
    Calls Tryd.prog 18 #[tv] w (Makes (.int .i64 (Tr.deepOf T)) w) := by
  have HN := Lib.hid hn
  have HBH := Lib.hid (tBehind_any T tv 0 w hn hT)
  obtain ⟨A, c, rfl, hlc, _⟩ := hn
  by_cases h0 : T.length = 0
  · have HC : Hid (Tr.deepOf T = 0) := Lib.hid (by unfold Tr.deepOf; rw [if_pos (.inl h0)])
    have e0 := eq_lit (n := T.length) (z := 0) (by omega)
    go_enter Tryd.func18, Tryd.ntmps18
    go_wp2_with fail
    go_ret
    exact Makes.mk (by rw [HC.out]; rfl) (Below.refl _ _)
  have e0 := ne_lit (n := T.length) (z := 0) (by omega)
  by_cases hb : Tr.behind T 0 = T.length
  · have HC : Hid (Tr.deepOf T = (Tr.deps T [1]).foldl max 0) := Lib.hid (by unfold Tr.deepOf; rw [if_neg (by rintro (h | h); exact h0 h; exact h hb)])
    have HWH := Lib.hid (Tr.whole hb h0)
    rw [hb] at HBH
    clear hb h0
    go_enter Tryd.func18, Tryd.ntmps18
    go_wp2_with fail
    refine HBH.out.mono ?_
    rintro e w0 ⟨rfl, hb0⟩
    have HBZ := Lib.hid hb0
    clear hb0
    go_wp2_with fail
    have hst : Stk w.heap.size (.slice (some ⟨w0.heap.size, 0, none⟩) 1 1) [1] (w0.alloc (.cells #[.int .i64 1] 3)) := own_mono (own_lit w0 3 (.int .i64 1)) HBZ.out.size
    have HST0 := Lib.hid hst
    have HB0 : Hid (Below w.heap.size w (w0.alloc (.cells #[.int .i64 1] 3))) := Lib.hid (HBZ.out.alloc HBZ.out.size _)
    clear hst HBZ HBH
    generalize w0.alloc (.cells #[.int .i64 1] 3) = w1 at *
    go_loopw [3, 4, 20] (fun dv v i wr => ∃ (k md : Nat) (S : List Int) (D : List Nat) (u : Value), u = v ∧ dv = .int .i64 md ∧ i = .int .i64 k ∧ k ≤ T.length ∧ S.length ≤ k + 1 ∧ md ≤ k + 1 ∧ Hid (md = D.foldl max 0) ∧ Hid (∀ n ∈ S, 0 ≤ n ∧ n ≤ 9223372036854775807) ∧ Hid (Tr.deps T [1] = D ++ Tr.deps (T.drop k) S) ∧ Hid (Tr.beh T.length (T.drop k) S.sum = some (T.length - k)) ∧ Hid (Stk w.heap.size u S wr) ∧ Hid (Below w.heap.size w wr)) (fun _ _ i _ => T.length - (intOf i).toNat)
    case atStart => exact ⟨0, 0, [1], [], _, rfl, rfl, rfl, Nat.zero_le _, Nat.le_refl _, by omega, Lib.hid rfl, Lib.hid (by simp), Lib.hid (by rw [List.drop_zero]; rfl), HWH, HST0, HB0⟩
    case round =>
      clear HST0 HB0 HWH
      obtain ⟨k, md, S, D, u, rfl, rfl, rfl, hk, hS, hmd, HM, HP, HDE, HWH, HST, HB⟩ := hrel
      by_cases hlt : k < T.length
      · obtain ⟨A2, c2, e2, _, hN⟩ := HN.out.later HB.out
        simp only [Value.slice.injEq] at e2
        obtain ⟨rfl, _, rfl⟩ := e2
        obtain ⟨b, off, rfl, hM⟩ := hN (by omega)
        have hx : T[k]? = some T[k] := List.getElem?_eq_getElem hlt
        obtain ⟨n0, n1, n2, n3, n4, n5, n6, n7⟩ := hM.at_ hx
        have hdrop : T.drop k = T[k] :: T.drop (k + 1) := List.drop_eq_getElem_cons hlt
        rw [hdrop] at HDE HWH
        generalize T[k] = x at *
        obtain ⟨hs0, hkd0, hkd1, hwh⟩ := Tr.whole_step HWH.out (by omega)
        have HS0 := Lib.hid hs0
        have HW2 := Lib.hid hwh
        clear hx hN hM hdrop HWH hs0 hwh
        go_wp2_with fail
        have HBX : Hid (Box wr.heap.size x (wr.alloc (.cells #[.int .i8 x.kind, .int .i64 x.kids, .int .i64 x.n, .string x.s, .string x.t, .string x.u, .int .i64 x.line, .int .i64 x.col] 42))) := Lib.hid (box_alloc wr x)
        have hb2 : Below wr.heap.size wr (wr.alloc (.cells #[.int .i8 x.kind, .int .i64 x.kids, .int .i64 x.n, .string x.s, .string x.t, .string x.u, .int .i64 x.line, .int .i64 x.col] 42)) := (Below.refl _ _).alloc (Nat.le_refl _) _
        have HST1 := Lib.hid (HST.out.later hb2)
        have HB1 := Lib.hid (below_later hb2 HB.out)
        clear hb2 HST HB n0 n1 n2 n3 n4 n5 n6 n7
        generalize wr.alloc (.cells #[.int .i8 x.kind, .int .i64 x.kids, .int .i64 x.n, .string x.s, .string x.t, .string x.u, .int .i64 x.line, .int .i64 x.col] 42) = w3 at *
        generalize wr.heap.size = gx at *
        go_loopw [4] (fun v wx => w3 = wx ∧ ∃ (S' : List Int) (u' : Value), v = u' ∧ S'.length ≤ S.length ∧ Hid (Tr.pop S' = Tr.pop S) ∧ Hid (∀ n ∈ S', n ∈ S) ∧ Hid (Stk w.heap.size u' S' w3)) (fun v _ => slLen v)
        case atStart => exact ⟨rfl, S, _, rfl, Nat.le_refl _, Lib.hid rfl, Lib.hid (fun _ h => h), HST1⟩
        case round =>
          clear HST1
          obtain ⟨rfl, S', u', rfl, hS', HPO, HSU, HSTi⟩ := hrel
          cases S' with
          | nil =>
            exfalso
            have h1 := HPO.out
            have h2 := Tr.pop_sum S
            rw [← h1] at h2
            have h3 := HS0.out
            rw [← h2] at h3
            exact absurd h3 (by decide)
          | cons c r =>
            obtain ⟨g, cap, rfl, hg0, hg1, hcap, hc0, hf0⟩ := HSTi.out.top
            have hcS := HSU.out c List.mem_cons_self
            have hcb := HP.out c hcS
            rw [List.length_cons] at hS'
            by_cases hz : c = 0
            · have ez : (c == 0) = true := by rw [hz]; rfl
              have HPO2 : Hid (Tr.pop r = Tr.pop S) := Lib.hid (by rw [← HPO.out, hz]; rfl)
              have HSU2 : Hid (∀ n ∈ r, n ∈ S) := Lib.hid (fun n hn => HSU.out n (List.mem_cons_of_mem _ hn))
              have HST2 := Lib.hid HSTi.out.pop
              clear HPO HSU HSTi hcS hcb hz hg0 hg1
              go_wp2_with fail
              go_roundw
              case rel => exact ⟨trivial, r, _, rfl, by omega, HPO2, HSU2, HST2⟩
              case measure => simp [slLen]
            have ez : (c == 0) = false := beq_no hz
            have hpop : Tr.pop S = c :: r := by rw [← HPO.out]; unfold Tr.pop; rw [List.dropWhile_cons, if_neg (by simp [hz])]
            have hsum : S.sum = c + r.sum := by rw [← Tr.pop_sum S, hpop, List.sum_cons]
            have HDE2 : Hid (Tr.deps T [1] = (D ++ [r.length + 1]) ++ Tr.deps (T.drop (k + 1)) (x.kids :: (c - 1) :: r)) := Lib.hid (by
              rw [HDE.out, Tr.deps_more hpop, show max x.kids 0 = x.kids by omega]; simp)
            have HP5 : Hid (∀ n ∈ x.kids :: (c - 1) :: r, 0 ≤ n ∧ n ≤ 9223372036854775807) := Lib.hid (by
              intro n hn
              rcases List.mem_cons.1 hn with rfl | hn
              · omega
              rcases List.mem_cons.1 hn with rfl | hn
              · omega
              · exact HP.out n (HSU.out n (List.mem_cons_of_mem _ hn)))
            have HW5 : Hid (Tr.beh T.length (T.drop (k + 1)) (x.kids :: (c - 1) :: r).sum = some (T.length - (k + 1))) := Lib.hid (by
              have h := HW2.out
              rw [hsum] at h
              rw [List.sum_cons, List.sum_cons, show x.kids + (c - 1 + r.sum) = c + r.sum - 1 + x.kids by omega, h]; congr 1)
            have HM5 : Hid (max md (r.length + 1) = (D ++ [r.length + 1]).foldl max 0) := Lib.hid (by rw [Tr.fold_snoc, ← HM.out])
            obtain ⟨hc1, hc2⟩ := hcb
            have hcp : 0 < c := by omega
            have HNE := Lib.hid (HSTi.out.ne HBX.out rfl)
            have HST4 : Hid (Stk w.heap.size (.slice (some ⟨g, 0, none⟩) (r.length + 1) cap) ((c - 1) :: r) (w3.setCell ⟨g, r.length, none⟩ (.int .i64 (c - 1)))) := Lib.hid (HSTi.out.dec (c - 1))
            have HBX4 : Hid (Box gx x (w3.setCell ⟨g, r.length, none⟩ (.int .i64 (c - 1)))) := Lib.hid (HBX.out.other HNE.out)
            have HB4 : Hid (Below w.heap.size w (w3.setCell ⟨g, r.length, none⟩ (.int .i64 (c - 1)))) := Lib.hid (HB1.out.setCell hg0 _)
            have own4 : (w3.setCell ⟨g, r.length, none⟩ (.int .i64 (c - 1))).ownsRow w.heap.size 3 1 (.slice (some ⟨g, 0, none⟩) (r.length + 1) cap) (r.length + 1) (((c - 1) :: r).reverse.map (Value.int .i64)) := HST4.out
            have q1 : (w3.setCell ⟨g, r.length, none⟩ (.int .i64 (c - 1))).cell? ⟨gx, 1, none⟩ = some (.int .i64 x.kids) := HBX4.out.cell 1
            clear HPO HSU HSTi HDE hpop hsum hcS hz hg1 hg0 HBX HB1 HM HP HW2 HS0
            go_wp2_with (at_builtin; refine append_agg rfl (.tmp 48) (.tmp 51) 72 3 rfl w.heap.size _ 1 8 Tryd.underlying72 int_info rfl (by decide) _ _ _ rfl own4 [.int .i64 x.kids] rfl w3.heap.size rfl (by simp) ?_ ?_ ?_ ?_ ?_)
            · first
                | rfl
                | (intro y hy; simp only [List.mem_cons, List.not_mem_nil, or_false] at hy; subst hy; rfl)
            · omega
            · omega
            · have := HB4.out.size
              simpa using this
            intro v' w5 hown' hg' hb'
            have HST5 : Hid (Stk w.heap.size v' (x.kids :: (c - 1) :: r) w5) := Lib.hid (Stk.push (S := (c - 1) :: r) (by simpa using hown'))
            have HB5 := Lib.hid (HB4.out.trans hb')
            clear own4 q1 hc0 hf0 hown' hg' hb' HST4 HB4 HBX4
            go_wp2_with fail
            go_roundw
            case rel => exact ⟨k + 1, max md (r.length + 1), x.kids :: (c - 1) :: r, D ++ [r.length + 1], v', rfl, by go_num, by go_num, by omega, by simp only [List.length_cons]; omega, by omega, HM5, HP5, HDE2, HW5, HST5, HB5⟩
            case measure => simp [intOf]; omega
      · have hkT : k = T.length := by omega
        have HF : Hid (Tr.deepOf T = md) := Lib.hid (by rw [HC.out, HDE.out, hkT, List.drop_length, Tr.deps_nil, List.append_nil, HM.out])
        clear hkT
        go_wp2_with fail
        go_ret
        exact Makes.mk (by rw [HF.out]; rfl) HB.out
  · have HC : Hid (Tr.deepOf T = 0) := Lib.hid (by unfold Tr.deepOf; rw [if_pos (.inr hb)])
    have e1 : (((Tr.behind T 0 : Nat) : Int) != ((T.length : Nat) : Int)) = true := by rw [bne, beq_no (by omega)]; rfl
    go_enter Tryd.func18, Tryd.ntmps18
    go_wp2_with fail
    refine HBH.out.mono ?_
    rintro e w1 ⟨rfl, hb1⟩
    have HB1 := Lib.hid hb1
    clear hb1
    go_wp2_with fail
    go_ret
    exact Makes.mk (by rw [HC.out]; rfl) HB1.out
end Go.Proofs.YtnhdbjhdmdefmaaDoor

/- Walks of trees: likeness of a list and itself. -/
namespace Go.Proofs.YtnhdbjhdmdefmaaDoor
set_option linter.unusedSimpArgs false
set_option linter.unusedVariables false
open Go.RowKit Go.Maps Culp

set_option maxRecDepth 100000 in
set_option maxHeartbeats 1600000 in
theorem Equal_same (T : List Nd) (tv uv : Value) (w : World) (hn : Nodes w tv T) (hu : Nodes w uv T) (hT : T.length ≤ 100000000000) :
    Calls Tryd.prog 13 #[tv, uv] w (Makes (.bool true) w) := by
  have HN := Lib.hid hn
  have HU := Lib.hid hu
  obtain ⟨A, c, rfl, hlc, _⟩ := hn
  obtain ⟨B, d, rfl, hld, _⟩ := hu
  go_enter Tryd.func13, Tryd.ntmps13
  go_wp2_with fail
  go_loopw [14] (fun i wr => ∃ k : Nat, k ≤ T.length ∧ i = .int .i64 k ∧ Hid (Below w.heap.size w wr)) (fun i _ => T.length - (intOf i).toNat)
  case atStart => exact ⟨0, Nat.zero_le _, rfl, Lib.hid (Below.refl _ _)⟩
  case round =>
    obtain ⟨k, hk, rfl, HB⟩ := hrel
    by_cases hlt : k < T.length
    · obtain ⟨A2, c2, e2, _, hN⟩ := HN.out.later HB.out
      simp only [Value.slice.injEq] at e2
      obtain ⟨rfl, _, rfl⟩ := e2
      obtain ⟨b, off, rfl, hM⟩ := hN (by omega)
      obtain ⟨B2, d2, e3, _, hN2⟩ := HU.out.later HB.out
      simp only [Value.slice.injEq] at e3
      obtain ⟨rfl, _, rfl⟩ := e3
      obtain ⟨b2, off2, rfl, hM2⟩ := hN2 (by omega)
      have hx : T[k]? = some T[k] := List.getElem?_eq_getElem hlt
      obtain ⟨n0, n1, n2, n3, n4, n5, n6, n7⟩ := hM.at_ hx
      obtain ⟨q0, q1, q2, q3, q4, q5, q6, q7⟩ := hM2.at_ hx
      generalize T[k] = x at *
      have hl2 : b2 < wr.heap.size := World.block_lt_of_cell? _ _ q0
      clear hx hN hM hN2 hM2
      have HBX : Hid (Box wr.heap.size x (wr.alloc (.cells #[.int .i8 x.kind, .int .i64 x.kids, .int .i64 x.n, .string x.s, .string x.t, .string x.u, .int .i64 x.line, .int .i64 x.col] 42))) := Lib.hid (box_alloc wr x)
      have hb2 : Below wr.heap.size wr (wr.alloc (.cells #[.int .i8 x.kind, .int .i64 x.kids, .int .i64 x.n, .string x.s, .string x.t, .string x.u, .int .i64 x.line, .int .i64 x.col] 42)) := (Below.refl _ _).alloc (Nat.le_refl _) _
      have HB1 := Lib.hid (below_later hb2 HB.out)
      have r0 := cell_later hb2 q0
      have r1 := cell_later hb2 q1
      have r2 := cell_later hb2 q2
      have r3 := cell_later hb2 q3
      have r4 := cell_later hb2 q4
      have r5 := cell_later hb2 q5
      have r6 := cell_later hb2 q6
      have r7 := cell_later hb2 q7
      have hne : ¬ b2 = wr.heap.size := by omega
      clear hb2 HB
      go_wp2_with fail
      clear n0 n1 n2 n3 n4 n5 n6 n7 q0 q1 q2 q3 q4 q5 q6 q7
      generalize wr.alloc (.cells #[.int .i8 x.kind, .int .i64 x.kids, .int .i64 x.n, .string x.s, .string x.t, .string x.u, .int .i64 x.line, .int .i64 x.col] 42) = w3 at *
      generalize wr.heap.size = gx at *
      have c0 : w3.cell? ⟨gx, 0, none⟩ = some (.int .i8 x.kind) := HBX.out.cell 0
      have c1 : w3.cell? ⟨gx, 1, none⟩ = some (.int .i64 x.kids) := HBX.out.cell 1
      have c2 : w3.cell? ⟨gx, 2, none⟩ = some (.int .i64 x.n) := HBX.out.cell 2
      have c3 : w3.cell? ⟨gx, 3, none⟩ = some (.string x.s) := HBX.out.cell 3
      have c4 : w3.cell? ⟨gx, 4, none⟩ = some (.string x.t) := HBX.out.cell 4
      have c5 : w3.cell? ⟨gx, 5, none⟩ = some (.string x.u) := HBX.out.cell 5
      have c6 : w3.cell? ⟨gx, 6, none⟩ = some (.int .i64 x.line) := HBX.out.cell 6
      have c7 : w3.cell? ⟨gx, 7, none⟩ = some (.int .i64 x.col) := HBX.out.cell 7
      refine wp_region_plan (S := fun w' => (w'.cell? ⟨gx, 0, none⟩ = some (.int .i8 x.kind) ∧ w'.cell? ⟨gx, 1, none⟩ = some (.int .i64 x.kids) ∧ w'.cell? ⟨gx, 2, none⟩ = some (.int .i64 x.n) ∧ w'.cell? ⟨gx, 3, none⟩ = some (.string x.s) ∧ w'.cell? ⟨gx, 4, none⟩ = some (.string x.t) ∧ w'.cell? ⟨gx, 5, none⟩ = some (.string x.u) ∧ w'.cell? ⟨gx, 6, none⟩ = some (.int .i64 x.line) ∧ w'.cell? ⟨gx, 7, none⟩ = some (.int .i64 x.col)) ∧
          (w'.cell? ⟨b2, off2 + k * 8, none⟩ = some (.int .i8 x.kind) ∧ w'.cell? ⟨b2, off2 + k * 8 + 1, none⟩ = some (.int .i64 x.kids) ∧ w'.cell? ⟨b2, off2 + k * 8 + 2, none⟩ = some (.int .i64 x.n) ∧ w'.cell? ⟨b2, off2 + k * 8 + 3, none⟩ = some (.string x.s) ∧ w'.cell? ⟨b2, off2 + k * 8 + 4, none⟩ = some (.string x.t) ∧ w'.cell? ⟨b2, off2 + k * 8 + 5, none⟩ = some (.string x.u) ∧ w'.cell? ⟨b2, off2 + k * 8 + 6, none⟩ = some (.int .i64 x.line) ∧ w'.cell? ⟨b2, off2 + k * 8 + 7, none⟩ = some (.int .i64 x.col)))
        [(0, true), (1, true), (2, true), (3, true), (4, true), (5, true)] (by kernel_rfl) (by kernel_rfl) (by kernel_rfl) (fun _ _ _ _ _ h => h) ⟨⟨c0, c1, c2, c3, c4, c5, c6, c7⟩, ⟨r0, r1, r2, r3, r4, r5, r6, r7⟩⟩ ?_
      clear c0 c1 c2 c3 c4 c5 c6 c7 r0 r1 r2 r3 r4 r5 r6 r7
      intro HP
      repeat (first | (apply wpPlan_look; rfl; rfl; (intro wq hq; (try dsimp only at hq); go_split_ands; go_simp; (try rw [if_neg (by omega)]); (try rw [if_pos (by omega)]); try with_reducible rfl); simp only [Act.put, List.setIfInBounds_toArray, List.set_cons_zero, List.set_cons_succ]) | (apply wpPlan_skip; rfl; rfl; simp only [Act.put, List.setIfInBounds_toArray, List.set_cons_zero, List.set_cons_succ]) | (apply wpPlan_pass; rfl; rfl; assumption; simp only [Act.put, List.setIfInBounds_toArray, List.set_cons_zero, List.set_cons_succ]))
      apply wpPlan_done
      clear HP
      have HB2 := Lib.hid HB1.out.drew
      go_wp2_with fail
      go_roundw
      case rel => exact ⟨k + 1, by omega, by go_num, HB2⟩
      case measure => simp [intOf]; omega
    · go_wp2_with fail
      go_ret
      exact Makes.mk rfl HB.out
end Go.Proofs.YtnhdbjhdmdefmaaDoor

/- Walks of trees: the free names of a known list. -/
namespace Culp.Tr
set_option linter.unusedSimpArgs false
set_option linter.unusedVariables false
/-- A sum of a number and a name. -/
def l3 : List Nd := [⟨10, 2, 0, ⟨#[]⟩, ⟨#[]⟩, ⟨#[]⟩, 0, 0⟩, ⟨1, 0, 1, ⟨#[]⟩, ⟨#[]⟩, ⟨#[]⟩, 0, 0⟩, ⟨4, 0, 0, ⟨#[120]⟩, ⟨#[]⟩, ⟨#[]⟩, 0, 0⟩]
theorem kids0 : kidsOf l3 0 = [1, 2] := by rfl
theorem kids1 : kidsOf l3 1 = [] := by rfl
theorem kids2 : kidsOf l3 2 = [] := by rfl
theorem check3 : check l3 = (0, 0) := by rfl
end Culp.Tr
namespace Go.Proofs.YtnhdbjhdmdefmaaDoor
set_option linter.unusedSimpArgs false
set_option linter.unusedVariables false
open Go.RowKit Go.Maps Culp

theorem strings_info : (Tryd.prog.info? 9).map (fun i => (i.zero, i.size, i.bytes)) = some (some (.string ByteArray.empty), 1, 16) := by kernel_rfl
theorem One.later {a : Nat} {t : TypeId} {v : Value} {w w' : World} (h : One a t v w) (hb : Below w.heap.size w w') : One a t v w' := (hb.block a (Array.getElem?_eq_some_iff.1 h).1).trans h
/-- What the closure leaves: the one name. -/
def FreeRes (a : Nat) (w : World) (e : Ending) (w' : World) : Prop := e = .returned (.tuple #[]) ∧ Keep a w w' ∧ ∃ g cap, One a 119 (.slice (some ⟨g, 0, none⟩) 1 cap) w' ∧ w'.cell? ⟨g, 0, none⟩ = some (.string ⟨#[120]⟩)
/-- What Free answers there. -/
def NameRes (w : World) (e : Ending) (w' : World) : Prop := ∃ g cap, e = .returned (.slice (some ⟨g, 0, none⟩) 1 cap) ∧ w'.cell? ⟨g, 0, none⟩ = some (.string ⟨#[120]⟩) ∧ Below w.heap.size w w'
end Go.Proofs.YtnhdbjhdmdefmaaDoor

/- Walks of trees: no idle program. -/
namespace Culp.Tr
set_option linter.unusedSimpArgs false
set_option linter.unusedVariables false
/-- A sign before a number that may not be. -/
def l2 : List Nd := [⟨16, 1, 0, ⟨#[]⟩, ⟨#[]⟩, ⟨#[]⟩, 0, 0⟩, ⟨1, 0, -1, ⟨#[]⟩, ⟨#[]⟩, ⟨#[]⟩, 0, 0⟩]
theorem check2 : check l2 = (18, 1) := by rfl
theorem behind3 : behind l3 0 = 3 := by rfl
theorem deep3 : deepOf l3 = 2 := by rfl
end Culp.Tr
namespace Go.Proofs.YtnhdbjhdmdefmaaDoor
set_option linter.unusedSimpArgs false
set_option linter.unusedVariables false
open Go.RowKit Go.Maps Culp

/-- Nodes that were just laid. -/
theorem lit_nodes (w : World) (T : List Nd) (cs : Array Value) (t : TypeId) (h : cs = (T.flatMap Nd.cells).toArray) : Nodes (w.alloc (.cells cs t)) (.slice (some ⟨w.heap.size, 0, none⟩) T.length T.length) T := by
  subst h
  refine ⟨_, _, rfl, Nat.le_refl _, fun _ => ⟨w.heap.size, 0, rfl, fun i x hx j u hu => ?_⟩⟩
  rw [Nat.zero_add, World.cell?_alloc_at _ _ _ _ rfl]
  have : ∀ (T : List Nd) (i : Nat), T[i]? = some x → (T.flatMap Nd.cells)[i * 8 + j]? = some u := by
    intro T
    induction T with
    | nil => intro i h; simp at h
    | cons y T ih =>
      intro i h
      have hj : j < 8 := by have := (List.getElem?_eq_some_iff.1 hu).1; simpa [Nd.cells] using this
      cases i with
      | zero =>
        simp at h; subst h
        rw [List.flatMap_cons, Nat.zero_mul, Nat.zero_add, List.getElem?_append_left (by simpa [Nd.cells] using hj)]
        exact hu
      | succ i =>
        have h8 : y.cells.length = 8 := rfl
        rw [List.flatMap_cons, List.getElem?_append_right (by rw [h8]; omega), h8, show (i + 1) * 8 + j - 8 = i * 8 + j by omega]
        exact ih i (by simpa using h)
  simpa using this T i hx
end Go.Proofs.YtnhdbjhdmdefmaaDoor

/- Walks of trees, the document's: kids, depth; lists of ints alike. -/
namespace Go.Proofs.YtnhdbjhdmdefmaaDoor
set_option linter.unusedSimpArgs false
set_option linter.unusedVariables false
open Go.RowKit Go.Maps Culp

end Go.Proofs.YtnhdbjhdmdefmaaDoor

/- Walks of trees: lists of ints alike; the document's depth. -/
namespace Culp.Tr
set_option linter.unusedSimpArgs false
set_option linter.unusedVariables false
theorem fold_take (D : List Nat) (k : Nat) (h : k < D.length) : (D.take (k + 1)).foldl max 0 = max ((D.take k).foldl max 0) D[k] := by
  rw [List.take_add_one, List.getElem?_eq_getElem h]
  simp only [Option.toList_some]
  rw [fold_snoc]
theorem deps_bound : ∀ (l : List Nd) (S : List Int), ∀ y ∈ deps l S, y ≤ S.length + l.length
  | [], S, y, h => by rw [deps_nil] at h; cases h
  | x :: l, S, y, h => by
    rw [deps] at h
    split at h
    · cases h
    · rename_i c r hp
      have hl : r.length + 1 ≤ S.length := by
        have := (List.dropWhile_sublist (p := (· == (0 : Int))) (l := S)).length_le
        unfold pop at hp
        rw [hp, List.length_cons] at this
        exact this
      rcases List.mem_cons.1 h with rfl | h
      · omega
      · have := deps_bound l _ y h
        simp only [List.length_cons] at this ⊢
        omega
end Culp.Tr
namespace Go.Proofs.YtnhdbjhdmdefmaaDoor
set_option linter.unusedSimpArgs false
set_option linter.unusedVariables false
open Go.RowKit Go.Maps Culp

end Go.Proofs.YtnhdbjhdmdefmaaDoor

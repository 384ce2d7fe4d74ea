
/- Walks of print.Expr and of the document's answer. -/
import Derived.Test.YtacihffkjadbbaaGreatDoorUl
import Derived.Test.YtacihffkjadbbaaGreatDoorUo
namespace Culp.Pt
set_option linter.unusedSimpArgs false
set_option linter.unusedVariables false
open Culp Culp.Tr
theorem tens_len : ∀ (f n : Nat), (Tx.tens f n).length ≤ f
  | 0, n => by simp [Tx.tens]
  | f + 1, n => by
    rw [Tx.tens]
    split
    · simp
    · have := tens_len f (n / 10)
      simp; omega
theorem decimal_len (n : Nat) : (Tx.decimal n).length ≤ 20 := by
  unfold Tx.decimal
  split
  · simp
  · exact tens_len 20 n
theorem escs_len2 : ∀ {l m : List UInt8}, Tx.escs l = some m → m.length ≤ 2 * l.length
  | [], m, h => by
    simp [Tx.escs] at h
    subst h; simp
  | c :: l, m, h => by
    have h2 : Tx.escs ([c] ++ l) = some m := h
    rw [Tx.escs_app] at h2
    cases h1 : Tx.escs [c] with
    | none => rw [h1] at h2; simp at h2
    | some x =>
      cases h3 : Tx.escs l with
      | none => rw [h1, h3] at h2; simp at h2
      | some y =>
        rw [h1, h3] at h2
        simp at h2
        have := escs_len2 h3
        have hx : x.length ≤ 2 := by
          simp [Tx.escs] at h1
          cases he : Tx.esc c with
          | none => rw [he] at h1; simp at h1
          | some e => rw [he] at h1; simp at h1; have := Tx.esc_len he; rw [← h1]; omega
        rw [← h2]; simp; omega
theorem quote_len {l q : List UInt8} (h : Tx.quote l = some q) : q.length ≤ 130 := by
  unfold Tx.quote at h
  split at h
  · cases h
  · rename_i hl
    cases he : Tx.escs l with
    | none => rw [he] at h; simp at h
    | some m =>
      rw [he] at h
      simp at h
      have := escs_len2 he
      rw [← h]; simp; omega
theorem may_name {x : Nd} (h : may x = true) (hk : x.kind = 4 ∨ x.kind = 5 ∨ x.kind = 8) : Tx.isName x.s.data.toList = true := by
  unfold may sOk at h
  rw [if_neg (by omega), if_pos hk] at h
  simp only [Bool.and_eq_true] at h
  exact h.1.1.2
theorem pre_len {x : Nd} (hm : may x = true) : (pre x).length ≤ 1000 := by
  obtain ⟨k30, kar⟩ := may_kind hm
  rcases kind_or kar k30 with h | h | h | h | h | h | h | h | ⟨h, -⟩ | h
  · have := decimal_len x.n.toNat
    simp [pre, h]; omega
  · obtain ⟨q, hq⟩ := may_str hm h
    have := quote_len hq
    simp [pre, h, strOf, hq]; omega
  · simp only [pre, h]
    simp
    split <;> simp
  · have := name_len32 (may_name hm (.inl h))
    simp [pre, h] at this ⊢; omega
  · simp [pre, h]
  · simp [pre, h]
  · simp [pre, h]
  · simp [pre, h]
  · rcases h with h | h | h | h | h | h | h | h <;> simp [pre, h]
  · rcases h with h | h | h | h | h | h | h | h | h | h | h | h | h
    · have h1 := name_len32 (may_name hm (.inr (.inl h)))
      have h2 := Go.Proofs.YtacihffkjadbbaaGreatDoor.note_len _ (may_t hm (.inl h))
      have h3 := Go.Proofs.YtacihffkjadbbaaGreatDoor.note_len _ (may_u hm (.inl h))
      simp [pre, h] at h1 ⊢; omega
    · obtain ⟨f, a, ht⟩ := may_two hm h
      have h1 := may_two_len hm h ht
      have h2 := Go.Proofs.YtacihffkjadbbaaGreatDoor.note_len _ (may_t hm (.inr (.inl h)))
      have h3 := Go.Proofs.YtacihffkjadbbaaGreatDoor.note_len _ (may_u hm (.inr h))
      have h4 : f.length ≤ 32 ∧ a.length ≤ 32 := by
        unfold may sOk twoOk at hm
        simp only [Bool.and_eq_true, h, ht] at hm
        have h5 := hm.1.1.2
        simp at h5
        exact ⟨name_len32 h5.1, name_len32 h5.2⟩
      simp [pre, h, ht]; omega
    · have h1 := name_len32 (may_name hm (.inr (.inr h)))
      have h2 := Go.Proofs.YtacihffkjadbbaaGreatDoor.note_len _ (may_t hm (.inr (.inr h)))
      simp [pre, h] at h1 ⊢; omega
    all_goals simp [pre, h]
theorem post_len {x : Nd} (hm : may x = true) : (post x).length ≤ 401 := by
  by_cases h : x.kind = 29
  · have h2 := Go.Proofs.YtacihffkjadbbaaGreatDoor.note_len _ (may_as hm h)
    simp [post, h]; omega
  · unfold post
    rw [if_neg h]
    repeat' apply Go.Proofs.YtacihffkjadbbaaGreatDoor.ite_len
    all_goals decide
theorem br_len (c : Bool) (l : List UInt8) : (br c l).length ≤ l.length + 2 := by
  unfold br
  split
  · simp
  · omega
theorem kids_len : ∀ (x : Nd) (k : Nat) (f : F), (∀ y ∈ f.flat, may y = true) → (kids x k f).length ≤ 1500 * f.flat.length
  | x, k, .nil, _ => by simp [kids]
  | x, k, .cons y ky r, h => by
    have h1 := kids_len y 0 ky (fun z hz => h z (by simp [F.flat, hz]))
    have h2 := kids_len x (k + 1) r (fun z hz => h z (by simp [F.flat, hz]))
    have hy := h y (by simp [F.flat])
    have h3 := pre_len hy
    have h4 := post_len hy
    have h5 := Go.Proofs.YtacihffkjadbbaaGreatDoor.sep_len x k
    have h6 := br_len (decide (rank y.kind < asked x.kind k)) (pre y ++ kids y 0 ky ++ post y)
    rw [kids]
    simp only [F.flat, List.length_append, List.length_cons] at h6 ⊢
    omega
theorem part_len {x : Nd} {ks : F} (h : ∀ y ∈ x :: ks.flat, may y = true) : (part x ks).length ≤ 1500 * (1 + ks.flat.length) := by
  have h1 := kids_len x 0 ks (fun z hz => h z (by simp [hz]))
  have hx := h x (by simp)
  have h3 := pre_len hx
  have h4 := post_len hx
  unfold part
  simp only [List.length_append]
  omega
end Culp.Pt
namespace Culp.Pt
set_option linter.unusedSimpArgs false
set_option linter.unusedVariables false
open Culp Culp.Tr
theorem word_ne {l : List UInt8} (h : Tx.isName l = true) : l ≠ [] := by
  unfold Tx.isName at h
  simp only [Bool.and_eq_true, decide_eq_true_eq] at h
  exact h.1.1.1.1
theorem tens_ne {n : Nat} (h : n ≠ 0) : Tx.tens 20 n ≠ [] := by
  rw [Tx.tens, if_neg h]; simp
theorem decimal_ne (n : Nat) : Tx.decimal n ≠ [] := by
  unfold Tx.decimal
  split
  · simp
  · exact tens_ne (by assumption)
theorem quote_ne {l q : List UInt8} (h : Tx.quote l = some q) : q ≠ [] := by
  unfold Tx.quote at h
  split at h
  · cases h
  · cases he : Tx.escs l with
    | none => rw [he] at h; simp at h
    | some m => rw [he] at h; simp at h; rw [← h]; simp
/-- What is written is never nothing. -/
theorem part_ne {x : Nd} {ks : F} (hm : may x = true) (hc : (ks.cnt : Int) = x.kids) : part x ks ≠ [] := by
  obtain ⟨k30, kar⟩ := may_kind hm
  have har := may_arit hm
  have hp : ∀ l, pre x ≠ [] → l = pre x → part x ks ≠ [] := fun l h _ => by unfold part; simp [h]
  rcases kind_or kar k30 with h | h | h | h | h | h | h | h | ⟨h, -⟩ | h
  · exact hp _ (by simp [pre, h, decimal_ne]) rfl
  · obtain ⟨q, hq⟩ := may_str hm h
    exact hp _ (by simp [pre, h, strOf, hq, quote_ne hq]) rfl
  · exact hp _ (by simp only [pre, h]; simp; split <;> simp) rfl
  · exact hp _ (by have := word_ne (may_name hm (.inl h)); simp [pre, h] at this ⊢; exact this) rfl
  · exact hp _ (by simp [pre, h]) rfl
  · exact hp _ (by simp [pre, h]) rfl
  · exact hp _ (by simp [pre, h]) rfl
  · obtain ⟨y, ky, z, kz, rfl⟩ := Go.Proofs.YtacihffkjadbbaaGreatDoor.two_of (ks := ks) (by rw [h] at har; simp [arit] at har; omega)
    rw [Go.Proofs.YtacihffkjadbbaaGreatDoor.part_call h]; simp
  · exact hp _ (by rcases h with h | h | h | h | h | h | h | h <;> simp [pre, h]) rfl
  · rcases h with h | h | h | h | h | h | h | h | h | h | h | h | h
    · exact hp _ (by simp [pre, h]) rfl
    · obtain ⟨f, a, ht⟩ := may_two hm h
      exact hp _ (by simp [pre, h, ht]) rfl
    · exact hp _ (by simp [pre, h]) rfl
    · exact hp _ (by simp [pre, h]) rfl
    · obtain ⟨y, ky, z, kz, rfl⟩ := Go.Proofs.YtacihffkjadbbaaGreatDoor.two_of (ks := ks) (by rw [h] at har; simp [arit] at har; omega)
      rw [Go.Proofs.YtacihffkjadbbaaGreatDoor.part_set h]; simp
    · obtain ⟨y, ky, z, kz, rfl⟩ := Go.Proofs.YtacihffkjadbbaaGreatDoor.two_of (ks := ks) (by rw [h] at har; simp [arit] at har; omega)
      rw [Go.Proofs.YtacihffkjadbbaaGreatDoor.part_eq h]; simp
    · obtain ⟨y, ky, z, kz, rfl⟩ := Go.Proofs.YtacihffkjadbbaaGreatDoor.two_of (ks := ks) (by rw [h] at har; simp [arit] at har; omega)
      rw [Go.Proofs.YtacihffkjadbbaaGreatDoor.part_less h]; simp
    · obtain ⟨y, ky, z, kz, rfl⟩ := Go.Proofs.YtacihffkjadbbaaGreatDoor.two_of (ks := ks) (by rw [h] at har; simp [arit] at har; omega)
      rw [Go.Proofs.YtacihffkjadbbaaGreatDoor.part_add h]; simp
    · obtain ⟨y, ky, z, kz, rfl⟩ := Go.Proofs.YtacihffkjadbbaaGreatDoor.two_of (ks := ks) (by rw [h] at har; simp [arit] at har; omega)
      rw [Go.Proofs.YtacihffkjadbbaaGreatDoor.part_sub h]; simp
    · obtain ⟨y, ky, z, kz, rfl⟩ := Go.Proofs.YtacihffkjadbbaaGreatDoor.two_of (ks := ks) (by rw [h] at har; simp [arit] at har; omega)
      rw [Go.Proofs.YtacihffkjadbbaaGreatDoor.part_join h]; simp
    · obtain ⟨y, ky, z, kz, rfl⟩ := Go.Proofs.YtacihffkjadbbaaGreatDoor.two_of (ks := ks) (by rw [h] at har; simp [arit] at har; omega)
      rw [Go.Proofs.YtacihffkjadbbaaGreatDoor.part_mul h]; simp
    · exact hp _ (by simp [pre, h]) rfl
    · exact hp _ (by simp [pre, h]) rfl
end Culp.Pt
namespace Go.Proofs.YtacihffkjadbbaaGreatDoor
set_option linter.unusedSimpArgs false
set_option linter.unusedVariables false
open Go.RowKit Go.Maps Culp
/-- What is answered of a text: it, or that it is too long. -/
def outV (s : List UInt8) : Value := if 65536 < s.length then .tuple #[.string ⟨#[]⟩, .int .i64 10] else .tuple #[.string (bs s), .int .i64 0]
def badV (e : Nat) : Value := .tuple #[.string ⟨#[]⟩, .int .i64 e]
set_option maxRecDepth 100000 in
set_option maxHeartbeats 1600000 in
theorem pExpr_bad (T : List Nd) (tv : Value) (w : World) (hn : Nodes w tv T) (hS : Sp w) (hz : ∀ x ∈ T, x.s.size ≤ 140737488351232) (hk : ∀ x ∈ T, x.kids ≤ 9223372036854775807) (hc : (Tr.check T).1 ≠ 0) :
    Calls Tryz.prog 15 #[tv] w (Makes (badV (Tr.check T).1) w) := by
  have HCK := Lib.hid (tCheck_any T tv w hn hS hz hk)
  have e0 := neq_lit (z := 0) (show ((Tr.check T).1 : Int) ≠ 0 by omega)
  generalize Tr.check T = c at *
  clear hc hz hk hn hS
  go_enter Tryz.func15, Tryz.ntmps15
  go_wp2_with fail
  refine HCK.out.mono ?_
  rintro e w1 ⟨rfl, hb1⟩
  go_wp2_with fail
  refine bodyPost_ret (v := badV c.1) (by simp [results, Tryz.results15, go_sem, badV]) rfl ?_
  exact ⟨rfl, hb1⟩
theorem rpExpr_bad (T : List Nd) (tv : Value) (w : World) (hn : Nodes w tv T) (hS : Sp w) (hz : ∀ x ∈ T, x.s.size ≤ 140737488351232) (hk : ∀ x ∈ T, x.kids ≤ 9223372036854775807) (hc : (Tr.check T).1 ≠ 0) :
    Calls Tryz.prog 16 #[tv] w (Makes (badV (Tr.check T).1) w) := by
  have HCK := Lib.hid (rCheck_any T tv w hn hz hk)
  have e0 := neq_lit (z := 0) (show ((Tr.check T).1 : Int) ≠ 0 by omega)
  generalize Tr.check T = c at *
  clear hc hz hk hn hS
  go_enter Tryz.func16, Tryz.ntmps16
  go_wp2_with fail
  refine HCK.out.mono ?_
  rintro e w1 ⟨rfl, hb1⟩
  go_wp2_with fail
  refine bodyPost_ret (v := badV c.1) (by simp [results, Tryz.results16, go_sem, badV]) rfl ?_
  exact ⟨rfl, hb1⟩
set_option maxRecDepth 100000 in
set_option maxHeartbeats 3200000 in
theorem rpExpr_ok (T : List Nd) (tv : Value) (w : World) (hn : Nodes w tv T) (hz : ∀ x ∈ T, x.s.size ≤ 140737488351232 ∧ x.n ≤ 9223372036854775807) (hk : ∀ x ∈ T, x.kids ≤ 9223372036854775807) (hc : Tr.check T = (0, 0)) (hT : T.length ≤ 4096)
    (x : Nd) (ks : Tr.F) (he : T = x :: ks.flat) (hO : (Tr.F.cons x ks .nil).Ok) (hm : ∀ y ∈ T, Tr.may y = true) :
    Calls Tryz.prog 16 #[tv] w (Makes (outV (Pt.part x ks)) w) := by
  have HCK := Lib.hid (rCheck_any T tv w hn (fun x hx => (hz x hx).1) hk)
  rw [hc] at HCK
  have hA := rall_parts T tv w hn (by omega) hz (.cons x ks .nil) hO (fun y hy => hm y (by rw [he]; simpa [Tr.F.flat] using hy))
  have hlen := Pt.part_len (x := x) (ks := ks) (fun y hy => hm y (by rw [he]; exact hy))
  have hl0 : 1 + ks.flat.length ≤ 4096 := by rw [he] at hT; simp at hT; omega
  have HP := Lib.hid (fun w' hb => hA.1 0 w' ⟨[], [], by rw [he]; simp, rfl⟩ hb (by omega))
  have hs : (Pt.part x ks).length ≤ 6144000 := by omega
  clear hn hz hk hc hT he hO hm hA hlen hl0
  generalize Pt.part x ks = s at *
  have hss : (bs s).size = s.length := bs_size s
  go_enter Tryz.func16, Tryz.ntmps16
  go_wp2_with fail
  refine HCK.out.mono ?_
  rintro e w1 ⟨rfl, hb1⟩
  have HB1 := Lib.hid hb1
  clear hb1
  go_wp2_with fail
  refine (HP.out _ HB1.out).mono ?_
  rintro e w2 ⟨rfl, hb2⟩
  have HB2 := Lib.hid (below_later hb2 HB1.out)
  clear hb2
  by_cases hlt : 65536 < s.length
  · have HO : Hid (outV s = .tuple #[.string ⟨#[]⟩, .int .i64 10]) := Lib.hid (by unfold outV; rw [if_pos hlt])
    go_wp2_with fail
    refine bodyPost_ret (v := .tuple #[.string ⟨#[]⟩, .int .i64 10]) (by simp [results, Tryz.results16, go_sem]) rfl ?_
    exact ⟨by rw [HO.out], HB2.out⟩
  · have HO : Hid (outV s = .tuple #[.string (bs s), .int .i64 0]) := Lib.hid (by unfold outV; rw [if_neg hlt])
    go_wp2_with fail
    refine bodyPost_ret (v := .tuple #[.string (bs s), .int .i64 0]) (by simp [results, Tryz.results16, go_sem]) rfl ?_
    exact ⟨by rw [HO.out], HB2.out⟩
/-- A printer that is made. -/
theorem ps_new (w0 w : World) (lv : Value) (hB : Below w0.heap.size w0 w) : PS w0 lv w.heap.size none [] (w.alloc (.cells #[.pointer none, .slice none 0 0, lv, .int .i64 0] 74)) [] 0 (.pointer none) (.slice none 0 0) (w.alloc (.cells #[.pointer none, .slice none 0 0, lv, .int .i64 0] 74)) :=
  ⟨⟨hB.size, heap_alloc_new w _, World.ownsRow_nil _ _ _ _, by simp [Value.ownBlock]⟩, .inl rfl, KeepN.refl _ _ _, .inl rfl, hB.alloc hB.size _⟩
theorem PS.to_pen {w0 w1 w : World} {lv v : Value} {b i : Nat} {o : Option Nat} {l : List UInt8} (h : PS w0 lv b o [] w1 l i (.pointer (some ⟨b, 0, none⟩)) v w) : Pen 74 [lv, .int .i64 i] w0.heap.size b (Lib.byteCells l) w := by
  have := h.pen.pen h.self
  simpa using this
set_option maxRecDepth 100000 in
set_option maxHeartbeats 3200000 in
theorem pExpr_ok (T : List Nd) (tv : Value) (w : World) (hn : Nodes w tv T) (hS : Sp w) (hPw : Pw w) (hz : ∀ x ∈ T, x.s.size ≤ 140737488351232 ∧ x.n ≤ 9223372036854775807) (hk : ∀ x ∈ T, x.kids ≤ 9223372036854775807) (hc : Tr.check T = (0, 0)) (hT : T.length ≤ 4096)
    (x : Nd) (ks : Tr.F) (he : T = x :: ks.flat) (hO : (Tr.F.cons x ks .nil).Ok) (hm : ∀ y ∈ T, Tr.may y = true) :
    Calls Tryz.prog 15 #[tv] w (Makes (outV (Pt.part x ks)) w) := by
  have HCK := Lib.hid (tCheck_any T tv w hn hS (fun x hx => (hz x hx).1) hk)
  rw [hc] at HCK
  have hA := all_parts w tv T hn (by omega) hz hPw (.cons x ks .nil) hO (fun y hy => hm y (by rw [he]; simpa [Tr.F.flat] using hy)) (by rw [he] at hT; simp [Tr.F.flat] at hT ⊢; omega)
  have hlen := Pt.part_len (x := x) (ks := ks) (fun y hy => hm y (by rw [he]; exact hy))
  have hl0 : 1 + ks.flat.length ≤ 4096 := by rw [he] at hT; simp at hT; omega
  have HP := Lib.hid hA.1
  have HR : Hid (∃ R, T.drop 0 = (x :: ks.flat) ++ R) := Lib.hid ⟨[], by rw [he]; simp⟩
  have hs : (Pt.part x ks).length ≤ 6144000 := by omega
  have hne := Pt.part_ne (ks := ks) (hm x (by rw [he]; simp)) hO.1
  have HNE := Lib.hid hne
  obtain ⟨A, c, rfl, -⟩ := hn
  clear hS hPw hz hk hc hT he hO hm hA hlen hl0 hne
  generalize hsv : Pt.part x ks = s at *
  unfold NodeP at HP
  rw [hsv] at HP
  clear hsv
  go_enter Tryz.func15, Tryz.ntmps15
  go_wp2_with fail
  refine HCK.out.mono ?_
  rintro e w1 ⟨rfl, hb1⟩
  have HS0 := Lib.hid (ps_new w w1 (.slice A T.length c) hb1)
  clear hb1
  go_wp2_with fail
  refine (HP.out _ _ _ _ _ _ _ _ _ HS0.out HR.out (by simp; omega)).mono ?_
  rintro e w2 ⟨rfl, v2, h2⟩
  rw [List.nil_append] at h2
  have HQ := Lib.hid h2.to_pen
  have HB2 := Lib.hid h2.below
  clear h2 HS0
  go_wp2_with fail
  refine (Len_pen HQ.out).mono ?_
  rintro e w' ⟨rfl, rfl⟩
  rw [Lib.byteCells_length]
  by_cases hlt : 65536 < s.length
  · have HO : Hid (outV s = .tuple #[.string ⟨#[]⟩, .int .i64 10]) := Lib.hid (by unfold outV; rw [if_pos hlt])
    go_wp2_with fail
    refine bodyPost_ret (v := .tuple #[.string ⟨#[]⟩, .int .i64 10]) (by simp [results, Tryz.results15, go_sem]) rfl ?_
    exact ⟨by rw [HO.out], HB2.out⟩
  · have HO : Hid (outV s = .tuple #[.string (bs s), .int .i64 0]) := Lib.hid (by unfold outV; rw [if_neg hlt])
    go_wp2_with fail
    refine (String_pen HQ.out HNE.out).mono ?_
    rintro e w3 ⟨rfl, hb3⟩
    have HB3 := Lib.hid (HB2.out.trans hb3)
    clear hb3
    go_wp2_with fail
    refine bodyPost_ret (v := .tuple #[.string (bs s), .int .i64 0]) (by simp [results, Tryz.results15, go_sem, bs]) rfl ?_
    exact ⟨by rw [HO.out], HB3.out⟩
end Go.Proofs.YtacihffkjadbbaaGreatDoor

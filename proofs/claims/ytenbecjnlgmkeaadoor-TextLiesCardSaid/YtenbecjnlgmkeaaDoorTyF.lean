/- The walk of the statement TextWords. -/
import Derived.Test.YtenbecjnlgmkeaaDoorTyD
namespace Culp.Tx
set_option linter.unusedSimpArgs false
set_option linter.unusedVariables false
theorem words_none {s : List UInt8} (h : ∀ t q, toks s = .ok [(t, q)] → t.s ≠ s) : isName s = false ∧ isWord s = false := by
  constructor
  · cases hn : isName s with
    | false => rfl
    | true => exact absurd rfl (h _ _ (name_toks hn))
  · cases hw : isWord s with
    | false => rfl
    | true => exact absurd rfl (h _ _ (word_toks hw))
theorem words_one {s : List UInt8} {t : Tk} {q : Nat × Nat} (h : toks s = .ok [(t, q)]) (hs : t.s = s) : isName s = decide (t.kind = 2) ∧ isWord s = decide (t.kind = 1) := by
  obtain ⟨h1, h2⟩ := toks_alone h hs
  constructor
  · by_cases hk : t.kind = 2
    · rw [h1 hk, decide_eq_true hk]
    · cases hn : isName s with
      | false => rw [decide_eq_false hk]
      | true =>
        have := name_toks hn
        rw [h] at this
        injection this with this; injection this with this; injection this with this
        rw [this] at hk
        exact absurd rfl hk
  · by_cases hk : t.kind = 1
    · rw [h2 hk, decide_eq_true hk]
    · cases hn : isWord s with
      | false => rw [decide_eq_false hk]
      | true =>
        have := word_toks hn
        rw [h] at this
        injection this with this; injection this with this; injection this with this
        rw [this] at hk
        exact absurd rfl hk
theorem toksF_err : ∀ (f : Nat) (p : Nat × Nat) (l : List UInt8) (x : Nat) (q : Nat × Nat), toksF f p l = .error (x, q) → 11 ≤ x ∧ x ≤ 14
  | 0, p, l, x, q, h => by simp [toksF] at h
  | f + 1, p, l, x, q, h => by
    rw [toksF] at h
    split at h
    · cases h
    · split at h
      · rename_i e he
        injection h with h; injection h with h _
        subst h
        exact one_err he
      · split at h
        · rename_i e' he'
          injection h with h
          subst h
          exact toksF_err f _ _ x q he'
        · cases h
theorem toks_err {l : List UInt8} {x : Nat} {q : Nat × Nat} (h : toks l = .error (x, q)) : 10 ≤ x ∧ x ≤ 14 := by
  unfold toks at h
  split at h
  · injection h with h; injection h with h _; omega
  · have := toksF_err _ _ _ _ _ h; omega
end Culp.Tx
namespace Go.Proofs.YtenbecjnlgmkeaaDoor
open Go.RowKit Go.Maps Culp

theorem rIsWord_s (s : ByteArray) (w : World) : Calls Tryd.prog 24 #[.string s] w (Makes (.bool (Tx.isWord s.data.toList)) w) := by
  have := rIsWord_any s.data.toList w
  rw [bs_self] at this
  exact this
set_option maxRecDepth 100000 in
set_option maxHeartbeats 3200000 in
theorem TextWords_any (s : ByteArray) (w : World) (hs : s.size ≤ 140737488351232) (hS : Sp w) : Calls Tryd.prog 6 #[.string s] w (Makes (.bool true) w) := by
  have HS := Lib.hid hS
  clear hS
  go_enter Tryd.func6, Tryd.ntmps6
  go_wp2_with fail
  refine (works_any _ HS.out).mono ?_
  rintro e w1 ⟨rfl, hb1⟩
  have HB1 := Lib.hid hb1
  clear hb1
  go_wp2_with fail
  refine (Long_any' _ _).mono ?_
  rintro e w' ⟨rfl, rfl⟩
  by_cases hlong : 2147483647 < s.size
  · go_wp2_with fail
    go_ret
    exact Makes.mk rfl HB1.out
  go_wp2_with fail
  refine (tIsWord_any s _ hs (HS.out.later HB1.out)).mono ?_
  rintro e w2 ⟨rfl, hb2⟩
  have HB2 := Lib.hid (below_later hb2 HB1.out)
  clear hb2
  go_wp2_with fail
  refine (rIsWord_s s _).mono ?_
  rintro e w3 ⟨rfl, hb3⟩
  have HB3 := Lib.hid (below_later hb3 HB2.out)
  clear hb3
  go_wp2_with fail
  refine (tIsName_any s _ hs (HS.out.later HB3.out)).mono ?_
  rintro e w4 ⟨rfl, hb4⟩
  have HB4 := Lib.hid (below_later hb4 HB3.out)
  clear hb4
  go_wp2_with fail
  refine (rIsName_any s _ hs).mono ?_
  rintro e w5 ⟨rfl, hb5⟩
  have HB5 := Lib.hid (below_later hb5 HB4.out)
  clear hb5
  have hcv := conv_bytes w5 s
  obtain ⟨hbv, hb6⟩ := bytes_of w5 s
  have HBV := Lib.hid hbv
  have HB6 := Lib.hid (below_later hb6 HB5.out)
  clear hbv hb6
  go_wp2_with fail
  clear hcv
  refine (tTokens_any s _ _ HBV.out hs (HS.out.later HB6.out)).mono ?_
  rintro e w6 ⟨hb7, hres⟩
  have HB6' := Lib.hid (below_later hb7 HB6.out)
  clear hb7
  cases ht : Tx.toks s.data.toList with
  | error x =>
    obtain ⟨x, p⟩ := x
    rw [ht] at hres
    obtain rfl := hres
    have HNO := Lib.hid (Tx.words_none (s := s.data.toList) (fun t q h => by rw [ht] at h; cases h))
    have hx := Tx.toks_err ht
    have ex := ne_lit (n := x) (z := 0) (by omega)
    have HB7 := Lib.hid (below_later ((Below.refl w6.heap.size w6).alloc (Nat.le_refl _) (.cells #[.int .i64 p.1, .int .i64 p.2] 29)) HB6'.out)
    clear ht hx HB6'
    go_wp2_with fail
    refine (tIsName_any s _ hs (HS.out.later HB7.out)).mono ?_
    rw [HNO.out.1]
    rintro e w8 ⟨rfl, hb8⟩
    have HB8 := Lib.hid (below_later hb8 HB7.out)
    clear hb8
    go_wp2_with fail
    refine (tIsWord_any s _ hs (HS.out.later HB8.out)).mono ?_
    rw [HNO.out.2]
    rintro e w9 ⟨rfl, hb9⟩
    have HB9 := Lib.hid (below_later hb9 HB8.out)
    clear hb9
    go_wp2_with fail
    go_ret
    exact Makes.mk rfl HB9.out
  | ok L =>
    rw [ht] at hres
    obtain ⟨v, rfl, hown⟩ := hres
    have hb7 : Below w6.heap.size w6 (w6.alloc (.cells #[.int .i64 0, .int .i64 0] 29)) := (Below.refl _ _).alloc (Nat.le_refl _) _
    have hst := (own_structs tcells_len hown).later hb7
    have HB7 := Lib.hid (below_later hb7 HB6'.out)
    obtain ⟨A, c, rfl, hA⟩ := hst
    clear hown hb7 HB6'
    by_cases h1 : L.length = 1
    · obtain ⟨x, rfl⟩ : ∃ x, L = [x] := by
        match L, h1 with
        | [x], _ => exact ⟨x, rfl⟩
      obtain ⟨t, q⟩ := x
      obtain ⟨g, o, rfl, hc⟩ := hA (by simp)
      have k0 : (w6.alloc (.cells #[.int .i64 0, .int .i64 0] 29)).cell? ⟨g, o, none⟩ = some (.int .i8 t.kind) := by have := hc 0 _ rfl 0 _ rfl; simpa using this
      have k2 : (w6.alloc (.cells #[.int .i64 0, .int .i64 0] 29)).cell? ⟨g, o + 2, none⟩ = some (.string (bs t.s)) := by have := hc 0 _ rfl 2 _ rfl; simpa using this
      have K0 := Lib.hid k0
      have hb := beq_bs t.s s.toList
      clear hc h1 hA
      by_cases hts : t.s = s.data.toList
      · obtain ⟨n1, n2⟩ := Tx.words_one ht hts
        have N1 := Lib.hid n1
        have N2 := Lib.hid n2
        have qs : ((bs t.s).toList == s.toList) = true := by rw [hb, toL', hts]; simp
        clear hb hts n1 n2 ht
        go_wp2_with fail
        refine (tIsName_any s _ hs (HS.out.later HB7.out)).mono ?_
        rw [N1.out]
        rintro e w8 ⟨rfl, hb8⟩
        have HB8 := Lib.hid (below_later hb8 HB7.out)
        have K8 := Lib.hid (cell_later hb8 K0.out)
        clear hb8 k0 K0 k2
        by_cases c2 : t.kind = 2
        · have c1 : ¬ t.kind = 1 := by omega
          have N3 := Lib.hid (decide_eq_false c1)
          have D2 := decide_eq_true c2
          have e2 : ((t.kind : Int) == 2) = true := by rw [c2]; rfl
          have e1 : ((t.kind : Int) == 1) = false := by rw [c2]; rfl
          rw [D2]
          have k8 := K8.out
          generalize t.kind = kd at *
          clear c1 c2
          go_wp2_with fail
          refine (tIsWord_any s _ hs (HS.out.later HB8.out)).mono ?_
          rw [N2.out, N3.out]
          rintro e w9 ⟨rfl, hb9⟩
          have HB9 := Lib.hid (below_later hb9 HB8.out)
          have k9 := cell_later hb9 K8.out
          clear hb9 k8
          go_wp2_with fail
          go_ret
          exact Makes.mk rfl HB9.out
        · have e2 := ne_lit (n := t.kind) (z := 2) (by omega)
          have D2 := decide_eq_false c2
          rw [D2]
          have k8 := K8.out
          by_cases c1 : t.kind = 1
          · have N3 := Lib.hid (decide_eq_true c1)
            have e1 : ((t.kind : Int) == 1) = true := by rw [c1]; rfl
            generalize t.kind = kd at *
            clear c1 c2 D2
            go_wp2_with fail
            refine (tIsWord_any s _ hs (HS.out.later HB8.out)).mono ?_
            rw [N2.out, N3.out]
            rintro e w9 ⟨rfl, hb9⟩
            have HB9 := Lib.hid (below_later hb9 HB8.out)
            have k9 := cell_later hb9 K8.out
            clear hb9 k8
            go_wp2_with fail
            go_ret
            exact Makes.mk rfl HB9.out
          · have N3 := Lib.hid (decide_eq_false c1)
            have e1 := ne_lit (n := t.kind) (z := 1) (by omega)
            generalize t.kind = kd at *
            clear c1 c2 D2
            go_wp2_with fail
            refine (tIsWord_any s _ hs (HS.out.later HB8.out)).mono ?_
            rw [N2.out, N3.out]
            rintro e w9 ⟨rfl, hb9⟩
            have HB9 := Lib.hid (below_later hb9 HB8.out)
            have k9 := cell_later hb9 K8.out
            clear hb9 k8
            go_wp2_with fail
            go_ret
            exact Makes.mk rfl HB9.out
      · have HNO := Lib.hid (Tx.words_none (s := s.data.toList) (fun t' q' h => by rw [ht] at h; injection h with h; injection h with h; injection h with h; rw [← h]; exact hts))
        have qs : ((bs t.s).toList == s.toList) = false := by rw [hb, toL']; simp [hts]
        clear hb hts ht
        go_wp2_with fail
        refine (tIsName_any s _ hs (HS.out.later HB7.out)).mono ?_
        rw [HNO.out.1]
        rintro e w8 ⟨rfl, hb8⟩
        have HB8 := Lib.hid (below_later hb8 HB7.out)
        clear hb8
        go_wp2_with fail
        refine (tIsWord_any s _ hs (HS.out.later HB8.out)).mono ?_
        rw [HNO.out.2]
        rintro e w9 ⟨rfl, hb9⟩
        have HB9 := Lib.hid (below_later hb9 HB8.out)
        clear hb9
        go_wp2_with fail
        go_ret
        exact Makes.mk rfl HB9.out
    · have HNO := Lib.hid (Tx.words_none (s := s.data.toList) (fun t' q' h => by rw [ht] at h; injection h with h; rw [h] at h1; exact absurd rfl h1))
      have e1 := ne_lit (n := L.length) (z := 1) (by omega)
      clear ht hA
      generalize L.length = n at *
      clear h1
      go_wp2_with fail
      refine (tIsName_any s _ hs (HS.out.later HB7.out)).mono ?_
      rw [HNO.out.1]
      rintro e w8 ⟨rfl, hb8⟩
      have HB8 := Lib.hid (below_later hb8 HB7.out)
      clear hb8
      go_wp2_with fail
      refine (tIsWord_any s _ hs (HS.out.later HB8.out)).mono ?_
      rw [HNO.out.2]
      rintro e w9 ⟨rfl, hb9⟩
      have HB9 := Lib.hid (below_later hb9 HB8.out)
      clear hb9
      go_wp2_with fail
      go_ret
      exact Makes.mk rfl HB9.out
end Go.Proofs.YtenbecjnlgmkeaaDoor

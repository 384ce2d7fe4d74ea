/- The walk of the statement TextCut. -/
import Derived.Test.YtenbecjnlgmkeaaDoorTyH
import Derived.Test.YtenbecjnlgmkeaaDoorTyF
namespace Culp.Tx
set_option linter.unusedSimpArgs false
set_option linter.unusedVariables false
theorem toks_at {l : List UInt8} (h : l.length ≤ 65536) : toks l = toksAt (1, 1) l := by unfold toks; rw [if_neg (by omega)]
theorem toks_len : ∀ (f : Nat) (l : List UInt8) (p : Nat × Nat) (L : List (Tk × (Nat × Nat))), l.length ≤ f → toksAt p l = .ok L → L.length ≤ l.length
  | f, l, p, L, hf, h => by
    rcases toksAt_inv h with ⟨h1, rfl⟩ | ⟨h1, t, m, r, h2, h3, rfl⟩
    · simp
    have hb := one_bounds h2
    rw [List.length_drop] at hb
    cases f with
    | zero => omega
    | succ f =>
      have := toks_len f (l.drop (behind false l + m)) _ r (by rw [List.length_drop]; omega) h3
      rw [List.length_drop] at this
      simp only [List.length_cons]; omega
theorem toks_len' {l : List UInt8} {L : List (Tk × (Nat × Nat))} (h : toks l = .ok L) : L.length ≤ l.length := by
  by_cases hl : l.length ≤ 65536
  · rw [toks_at hl] at h; exact toks_len _ _ _ _ (Nat.le_refl _) h
  · unfold toks at h; rw [if_pos (by omega)] at h; cases h
end Culp.Tx
namespace Go.Proofs.YtenbecjnlgmkeaaDoor
open Go.RowKit Go.Maps Culp

/-- What the tokens of a beginning are. -/
structure CutOk (L Q : List (Tx.Tk × (Nat × Nat))) (N : Nat) : Prop where
  q : N ≤ Q.length
  l : N ≤ L.length
  same : ∀ i, i < N → Q[i]? = L[i]?
  qn : Q.length ≤ N + 1
  qm : Q.length ≤ 16384
  lm : L.length ≤ 16384
theorem own_len {w : World} {base : Nat} {e : TypeId} {size : Nat} {v : Value} {n : Nat} {xs : List Value} (h : w.ownsRow base e size v n xs) : n ≤ maxLen := by
  rcases h.2 with ⟨_, h0⟩ | ⟨g, cap, cur, rfl, _, _, hc, hm, _⟩
  · omega
  · omega
theorem cut_res {s : ByteArray} {L : List (Tx.Tk × (Nat × Nat))} {m : Nat} (ht : Tx.toks s.data.toList = .ok L) (hm : m ≤ s.size) (hs : s.size ≤ 16384) {w w' : World} {e : Ending} (h : ToksRes (bs (s.data.toList.take m)).data.toList w e w') :
    Below w.heap.size w w' ∧ ((∃ v Q N, e = .returned (.tuple #[v, .int .i64 0, .agg #[.int .i64 0, .int .i64 0]]) ∧ Toks w' v Q ∧ CutOk L Q N) ∨
      (∃ (p : Nat × Nat) (j : Nat) (t : Tx.Tk), e = .returned (.tuple #[.slice none 0 0, .int .i64 14, .agg #[.int .i64 p.1, .int .i64 p.2]]) ∧ L[j]? = some (t, p))) := by
  obtain ⟨hb, h⟩ := h
  refine ⟨hb, ?_⟩
  have hl := size_list s
  rw [bs_list] at h
  rw [Tx.toks_at (by rw [hl]; omega)] at ht
  rw [Tx.toks_at (by rw [List.length_take]; omega)] at h
  have hL := Tx.toks_len _ _ _ _ (Nat.le_refl _) ht
  have hQ := fun Q h => Tx.toks_len _ (s.data.toList.take m) (1, 1) Q (Nat.le_refl _) h
  rcases Tx.toks_cut _ _ _ L m (Nat.le_refl _) ht (by rw [hl]; exact hm) with ⟨A, B, x, h1, rfl, h3⟩ | ⟨q, h1, t, h2⟩
  · rw [h1] at h
    obtain ⟨v, rfl, hown⟩ := h
    refine .inl ⟨v, _, A.length, rfl, own_structs tcells_len hown, ⟨by simp, by simp, fun i hi => ?_, by simp; omega, by have := hQ _ h1; rw [List.length_take] at this; omega, by omega⟩⟩
    rw [List.getElem?_append_left hi, List.getElem?_append_left hi]
  · rw [h1] at h
    obtain ⟨j, hj⟩ := List.getElem?_of_mem h2
    exact .inr ⟨q, j, t, h, hj⟩
theorem cut_bytes {w : World} {A : Option Addr} {c : Nat} {s : ByteArray} (h : BytesV w (.slice A s.size c) s) {m : Nat} (hm : m ≤ s.size) : BytesV w (.slice A m c) (bs (s.data.toList.take m)) := by
  obtain ⟨A', c', hv, hc, hA⟩ := h
  cases hv
  have hl := size_list s
  have hsz : (bs (s.data.toList.take m)).size = m := by rw [bs_size, List.length_take]; omega
  refine ⟨A, c, by rw [hsz], by rw [hsz]; omega, fun h0 => ?_⟩
  rw [hsz] at h0
  obtain ⟨b, o, rfl, hB⟩ := hA (by omega)
  refine ⟨b, o, rfl, fun i hi => ?_⟩
  rw [hsz] at hi
  rw [hB i (by omega)]
  have h1 := get_byte (bs (s.data.toList.take m)) i (by omega)
  rw [bs_list, List.getElem?_take_of_lt hi, get_byte s i (by omega)] at h1
  injection h1 with h1
  rw [h1]
theorem structs_of {α : Type} {f : α → List Value} {n m c : Nat} {A : Option Addr} {w : World} {L : List α} (h : Structs f n w (.slice A m c) L) : 0 < L.length → ∃ g o, A = some ⟨g, o, none⟩ ∧ ∀ i x, L[i]? = some x → ∀ j u, (f x)[j]? = some u → w.cell? ⟨g, o + i * n + j, none⟩ = some u := by
  obtain ⟨A', c', hv, h⟩ := h
  cases hv
  exact h
theorem int_eq {a b : Nat} (h : a = b) : (((a : Nat) : Int) == ((b : Nat) : Int)) = true := by rw [h]; exact beq_self_eq_true _
theorem int_ne {a b : Nat} (h : ¬ a = b) : (((a : Nat) : Int) == ((b : Nat) : Int)) = false := beq_eq_false_iff_ne.2 (by omega)
theorem str_eq {a b : List UInt8} (h : a = b) : ((bs a).toList == (bs b).toList) = true := by rw [h]; exact beq_self_eq_true _
theorem str_ne {a b : List UInt8} (h : ¬ a = b) : ((bs a).toList == (bs b).toList) = false := beq_eq_false_iff_ne.2 (by rw [toL', toL']; exact h)
set_option maxRecDepth 100000 in
set_option maxHeartbeats 3200000 in
theorem TextCut_any (s : ByteArray) (sv : Value) (n : Int) (w : World) (hb : BytesV w sv s) (hS : Sp w) (hn1 : -9223372036854775808 ≤ n) (hn2 : n ≤ 9223372036854775807) : Calls Tryd.prog 5 #[sv, .int .i64 n] w (Makes (.bool true) w) := by
  have HS := Lib.hid hS
  have HBV := Lib.hid hb
  obtain ⟨A, c, rfl, hc, _⟩ := hb
  clear hS
  go_enter Tryd.func5, Tryd.ntmps5
  go_wp2_with fail
  refine (works_any _ HS.out).mono ?_
  rintro e w1 ⟨rfl, hb1⟩
  have HB1 := Lib.hid hb1
  have HBV1 := Lib.hid (HBV.out.later hb1)
  clear hb1
  by_cases hbig : (16384 : Int) < (s.size : Int)
  · go_wp2_with fail
    go_ret
    exact Makes.mk rfl HB1.out
  have hs : s.size ≤ 16384 := by omega
  have HSZ := Lib.hid hs
  clear hs
  go_wp2_with fail
  refine (tTokens_any s _ _ HBV1.out (Nat.le_trans HSZ.out (by decide)) (HS.out.later HB1.out)).mono ?_
  rintro e w2 ⟨hb2, hres⟩
  have HB2 := Lib.hid (below_later hb2 HB1.out)
  have HBV2 := Lib.hid (HBV1.out.later hb2)
  clear hb2
  cases ht : Tx.toks s.data.toList with
  | error x =>
    obtain ⟨x, p⟩ := x
    rw [ht] at hres
    obtain rfl := hres
    have hx := Tx.toks_err ht
    have ex := neq_lit (n := x) (z := 0) (by omega)
    have HB3 := Lib.hid (below_later ((Below.refl w2.heap.size w2).alloc (Nat.le_refl _) (.cells #[.int .i64 p.1, .int .i64 p.2] 29)) HB2.out)
    clear ht hx
    go_wp2_with fail
    go_ret
    exact Makes.mk rfl HB3.out
  | ok L =>
    rw [ht] at hres
    obtain ⟨v, rfl, hown⟩ := hres
    have HT := Lib.hid ht
    have hb3 : Below w2.heap.size w2 (w2.alloc (.cells #[.int .i64 0, .int .i64 0] 29)) := (Below.refl _ _).alloc (Nat.le_refl _) _
    obtain ⟨A1, c1, rfl, _⟩ := own_structs tcells_len hown
    have HST := Lib.hid ((own_structs tcells_len hown).later hb3)
    have HLM := Lib.hid (own_len hown)
    have HB3 := Lib.hid (below_later hb3 HB2.out)
    have HBV3 := Lib.hid (HBV2.out.later hb3)
    clear hown hb3 ht
    by_cases hn0 : n < 0
    · go_wp2_with fail
      go_ret
      exact Makes.mk rfl HB3.out
    by_cases hn3 : (s.size : Int) < n
    · go_wp2_with fail
      go_ret
      exact Makes.mk rfl HB3.out
    obtain ⟨m, rfl⟩ := Int.eq_ofNat_of_zero_le (show 0 ≤ n by omega)
    have hm : m ≤ s.size := by omega
    have hmz : (bs (s.data.toList.take m)).size ≤ 16384 := by rw [bs_size, List.length_take, size_list]; have := HSZ.out; omega
    have HM := Lib.hid hm
    have HMZ := Lib.hid hmz
    go_wp2_with fail
    refine (CopyBytes_any (bs (s.data.toList.take m)) _ _ (cut_bytes HBV3.out HM.out) (Nat.le_trans HMZ.out (by decide))).mono ?_
    rintro e w4 ⟨v', rfl, hbv, hb4⟩
    have HB4 := Lib.hid (below_later hb4 HB3.out)
    have HST4 := Lib.hid (HST.out.later hb4)
    have HBV4 := Lib.hid hbv
    clear hbv hb4
    go_wp2_with fail
    refine (tTokens_any (bs (s.data.toList.take m)) _ _ HBV4.out (Nat.le_trans HMZ.out (by decide)) (HS.out.later HB4.out)).mono ?_
    rintro e w5 hres
    obtain ⟨hb5, hres⟩ := cut_res HT.out HM.out HSZ.out hres
    have HB5 := Lib.hid (below_later hb5 HB4.out)
    have HST5 := Lib.hid (HST4.out.later hb5)
    clear hb5
    rcases hres with ⟨v2, Q, N, rfl, hq, hok⟩ | ⟨p, j, t, rfl, hj⟩
    · have hb6 : Below w5.heap.size w5 (w5.alloc (.cells #[.int .i64 0, .int .i64 0] 29)) := (Below.refl _ _).alloc (Nat.le_refl _) _
      have HB6 := Lib.hid (below_later hb6 HB5.out)
      have HA1 := Lib.hid (structs_of (HST5.out.later hb6))
      have hq2 := hq
      obtain ⟨A2, c2, rfl, _⟩ := hq2
      have HA2 := Lib.hid (structs_of (Structs.later hq hb6))
      have HOK := Lib.hid hok
      have i1 : (Q.length : Int) ≤ (L.length : Int) + 1 := by have := hok.qn; have := hok.l; omega
      have i3 : (L.length : Int) ≤ 1000000000000000000 := by have := hok.lm; omega
      have i4 : (Q.length : Int) ≤ 1000000000000000000 := by have := hok.qm; omega
      clear hb6 hok hq
      go_wp2_with fail
      generalize w5.alloc (.cells #[.int .i64 0, .int .i64 0] 29) = w6 at *
      go_loopw [12] (fun i wr => ∃ k : Nat, k ≤ Q.length ∧ k ≤ L.length ∧ i = .int .i64 k ∧ Hid (Below w6.heap.size w6 wr)) (fun i _ => Q.length - (intOf i).toNat)
      case atStart => exact ⟨0, Nat.zero_le _, Nat.zero_le _, rfl, Lib.hid (Below.refl _ _)⟩
      case round =>
        obtain ⟨k, hk1, hk2, rfl, HBE⟩ := hrel
        have HE : Hid (N ≤ k → (Q.length : Int) - 1 ≤ (k : Int)) := Lib.hid (fun h => by have := HOK.out.qn; omega)
        by_cases h1 : k < Q.length
        · by_cases h2 : k < L.length
          · obtain ⟨g, o, rfl, hA⟩ := HA1.out (by omega)
            obtain ⟨g2, o2, rfl, hB⟩ := HA2.out (by omega)
            have hx : L[k]? = some L[k] := List.getElem?_eq_getElem h2
            have hy : Q[k]? = some Q[k] := List.getElem?_eq_getElem h1
            have HN : Hid (k < N → Q[k] = L[k]) := Lib.hid (fun h => by have := HOK.out.same k h; rw [hx, hy] at this; injection this)
            have a0 := cell_later HBE.out (hA k _ hx 0 _ rfl)
            have a1 := cell_later HBE.out (hA k _ hx 1 _ rfl)
            have a2 := cell_later HBE.out (hA k _ hx 2 _ rfl)
            have a3 := cell_later HBE.out (hA k _ hx 3 _ rfl)
            have a4 := cell_later HBE.out (hA k _ hx 4 _ rfl)
            have b0 := cell_later HBE.out (hB k _ hy 0 _ rfl)
            have b1 := cell_later HBE.out (hB k _ hy 1 _ rfl)
            have b2 := cell_later HBE.out (hB k _ hy 2 _ rfl)
            have b3 := cell_later HBE.out (hB k _ hy 3 _ rfl)
            have b4 := cell_later HBE.out (hB k _ hy 4 _ rfl)
            rw [Nat.add_zero] at a0 b0
            generalize L[k] = x at *
            generalize Q[k] = y at *
            clear hx hy hA hB
            have q1 : decide ((k : Int) < (Q.length : Int)) = true := decide_eq_true (by omega)
            have q2 : decide ((k : Int) < (L.length : Int)) = true := decide_eq_true (by omega)
            by_cases d : ¬ y.1.kind = x.1.kind
            · have e0 := int_ne d
              have i2 := HE.out (Nat.le_of_not_lt fun h => d (by rw [HN.out h]))
              clear d
              go_wp2_with fail
              refine wp_region_plan (S := fun w' => (w'.cell? ⟨g, o + k * 5, none⟩ = some (.int .i8 x.1.kind) ∧ w'.cell? ⟨g, o + k * 5 + 1, none⟩ = some (.int .i64 x.1.n) ∧ w'.cell? ⟨g, o + k * 5 + 2, none⟩ = some (.string (bs x.1.s)) ∧ w'.cell? ⟨g, o + k * 5 + 3, none⟩ = some (.int .i64 x.2.1) ∧ w'.cell? ⟨g, o + k * 5 + 4, none⟩ = some (.int .i64 x.2.2)) ∧
                  (w'.cell? ⟨g2, o2 + k * 5, none⟩ = some (.int .i8 y.1.kind) ∧ w'.cell? ⟨g2, o2 + k * 5 + 1, none⟩ = some (.int .i64 y.1.n) ∧ w'.cell? ⟨g2, o2 + k * 5 + 2, none⟩ = some (.string (bs y.1.s)) ∧ w'.cell? ⟨g2, o2 + k * 5 + 3, none⟩ = some (.int .i64 y.2.1) ∧ w'.cell? ⟨g2, o2 + k * 5 + 4, none⟩ = some (.int .i64 y.2.2)))
                [(0, true), (1, true), (2, true), (3, true), (4, true), (5, true), (6, true), (7, true), (8, true), (9, true), (10, true), (11, true), (12, true), (13, true), (14, true), (15, true), (16, true), (17, true), (18, true), (19, true), (20, true)] (by kernel_rfl) (by kernel_rfl) (by kernel_rfl) (fun _ _ _ _ _ h => h) ⟨⟨a0, a1, a2, a3, a4⟩, ⟨b0, b1, b2, b3, b4⟩⟩ ?_
              clear a0 a1 a2 a3 a4 b0 b1 b2 b3 b4
              intro HP
              repeat (first | (apply wpPlan_look; rfl; rfl; (intro wq hq; (try dsimp only at hq); go_split_ands; go_simp; (try rw [if_neg (by omega)]); (try rw [if_pos (by omega)]); try with_reducible rfl); simp only [Act.put, List.setIfInBounds_toArray, List.set_cons_zero, List.set_cons_succ]) | (apply wpPlan_skip; rfl; rfl; simp only [Act.put, List.setIfInBounds_toArray, List.set_cons_zero, List.set_cons_succ]) | (apply wpPlan_pass; rfl; rfl; assumption; simp only [Act.put, List.setIfInBounds_toArray, List.set_cons_zero, List.set_cons_succ]))
              apply wpPlan_done
              clear q1 q2 e0
              generalize Q.length = nq at *
              generalize L.length = nl at *
              go_wp2_with fail
              go_ret
              exact Makes.mk rfl (below_later HBE.out.drew HB6.out)
            have e0 := int_eq (Decidable.not_not.1 d)
            clear d
            by_cases d : ¬ y.1.n = x.1.n
            · have e1 := int_ne d
              have i2 := HE.out (Nat.le_of_not_lt fun h => d (by rw [HN.out h]))
              clear d
              go_wp2_with fail
              refine wp_region_plan (S := fun w' => (w'.cell? ⟨g, o + k * 5, none⟩ = some (.int .i8 x.1.kind) ∧ w'.cell? ⟨g, o + k * 5 + 1, none⟩ = some (.int .i64 x.1.n) ∧ w'.cell? ⟨g, o + k * 5 + 2, none⟩ = some (.string (bs x.1.s)) ∧ w'.cell? ⟨g, o + k * 5 + 3, none⟩ = some (.int .i64 x.2.1) ∧ w'.cell? ⟨g, o + k * 5 + 4, none⟩ = some (.int .i64 x.2.2)) ∧
                  (w'.cell? ⟨g2, o2 + k * 5, none⟩ = some (.int .i8 y.1.kind) ∧ w'.cell? ⟨g2, o2 + k * 5 + 1, none⟩ = some (.int .i64 y.1.n) ∧ w'.cell? ⟨g2, o2 + k * 5 + 2, none⟩ = some (.string (bs y.1.s)) ∧ w'.cell? ⟨g2, o2 + k * 5 + 3, none⟩ = some (.int .i64 y.2.1) ∧ w'.cell? ⟨g2, o2 + k * 5 + 4, none⟩ = some (.int .i64 y.2.2)))
                [(0, true), (1, true), (2, true), (3, true), (4, true), (5, true), (6, true), (7, true), (8, true), (9, true), (10, true), (11, true), (12, true), (13, true), (14, true), (15, true), (16, true), (17, true), (18, true), (19, true), (20, true)] (by kernel_rfl) (by kernel_rfl) (by kernel_rfl) (fun _ _ _ _ _ h => h) ⟨⟨a0, a1, a2, a3, a4⟩, ⟨b0, b1, b2, b3, b4⟩⟩ ?_
              clear a0 a1 a2 a3 a4 b0 b1 b2 b3 b4
              intro HP
              repeat (first | (apply wpPlan_look; rfl; rfl; (intro wq hq; (try dsimp only at hq); go_split_ands; go_simp; (try rw [if_neg (by omega)]); (try rw [if_pos (by omega)]); try with_reducible rfl); simp only [Act.put, List.setIfInBounds_toArray, List.set_cons_zero, List.set_cons_succ]) | (apply wpPlan_skip; rfl; rfl; simp only [Act.put, List.setIfInBounds_toArray, List.set_cons_zero, List.set_cons_succ]) | (apply wpPlan_pass; rfl; rfl; assumption; simp only [Act.put, List.setIfInBounds_toArray, List.set_cons_zero, List.set_cons_succ]))
              apply wpPlan_done
              clear q1 q2 e0 e1
              generalize Q.length = nq at *
              generalize L.length = nl at *
              go_wp2_with fail
              go_ret
              exact Makes.mk rfl (below_later HBE.out.drew HB6.out)
            have e1 := int_eq (Decidable.not_not.1 d)
            clear d
            by_cases d : ¬ y.1.s = x.1.s
            · have e2 := str_ne d
              have i2 := HE.out (Nat.le_of_not_lt fun h => d (by rw [HN.out h]))
              clear d
              go_wp2_with fail
              refine wp_region_plan (S := fun w' => (w'.cell? ⟨g, o + k * 5, none⟩ = some (.int .i8 x.1.kind) ∧ w'.cell? ⟨g, o + k * 5 + 1, none⟩ = some (.int .i64 x.1.n) ∧ w'.cell? ⟨g, o + k * 5 + 2, none⟩ = some (.string (bs x.1.s)) ∧ w'.cell? ⟨g, o + k * 5 + 3, none⟩ = some (.int .i64 x.2.1) ∧ w'.cell? ⟨g, o + k * 5 + 4, none⟩ = some (.int .i64 x.2.2)) ∧
                  (w'.cell? ⟨g2, o2 + k * 5, none⟩ = some (.int .i8 y.1.kind) ∧ w'.cell? ⟨g2, o2 + k * 5 + 1, none⟩ = some (.int .i64 y.1.n) ∧ w'.cell? ⟨g2, o2 + k * 5 + 2, none⟩ = some (.string (bs y.1.s)) ∧ w'.cell? ⟨g2, o2 + k * 5 + 3, none⟩ = some (.int .i64 y.2.1) ∧ w'.cell? ⟨g2, o2 + k * 5 + 4, none⟩ = some (.int .i64 y.2.2)))
                [(0, true), (1, true), (2, true), (3, true), (4, true), (5, true), (6, true), (7, true), (8, true), (9, true), (10, true), (11, true), (12, true), (13, true), (14, true), (15, true), (16, true), (17, true), (18, true), (19, true), (20, true)] (by kernel_rfl) (by kernel_rfl) (by kernel_rfl) (fun _ _ _ _ _ h => h) ⟨⟨a0, a1, a2, a3, a4⟩, ⟨b0, b1, b2, b3, b4⟩⟩ ?_
              clear a0 a1 a2 a3 a4 b0 b1 b2 b3 b4
              intro HP
              repeat (first | (apply wpPlan_look; rfl; rfl; (intro wq hq; (try dsimp only at hq); go_split_ands; go_simp; (try rw [if_neg (by omega)]); (try rw [if_pos (by omega)]); try with_reducible rfl); simp only [Act.put, List.setIfInBounds_toArray, List.set_cons_zero, List.set_cons_succ]) | (apply wpPlan_skip; rfl; rfl; simp only [Act.put, List.setIfInBounds_toArray, List.set_cons_zero, List.set_cons_succ]) | (apply wpPlan_pass; rfl; rfl; assumption; simp only [Act.put, List.setIfInBounds_toArray, List.set_cons_zero, List.set_cons_succ]))
              apply wpPlan_done
              clear q1 q2 e0 e1 e2
              generalize Q.length = nq at *
              generalize L.length = nl at *
              go_wp2_with fail
              go_ret
              exact Makes.mk rfl (below_later HBE.out.drew HB6.out)
            have e2 := str_eq (Decidable.not_not.1 d)
            clear d
            by_cases d : ¬ y.2.1 = x.2.1
            · have e3 := int_ne d
              have i2 := HE.out (Nat.le_of_not_lt fun h => d (by rw [HN.out h]))
              clear d
              go_wp2_with fail
              refine wp_region_plan (S := fun w' => (w'.cell? ⟨g, o + k * 5, none⟩ = some (.int .i8 x.1.kind) ∧ w'.cell? ⟨g, o + k * 5 + 1, none⟩ = some (.int .i64 x.1.n) ∧ w'.cell? ⟨g, o + k * 5 + 2, none⟩ = some (.string (bs x.1.s)) ∧ w'.cell? ⟨g, o + k * 5 + 3, none⟩ = some (.int .i64 x.2.1) ∧ w'.cell? ⟨g, o + k * 5 + 4, none⟩ = some (.int .i64 x.2.2)) ∧
                  (w'.cell? ⟨g2, o2 + k * 5, none⟩ = some (.int .i8 y.1.kind) ∧ w'.cell? ⟨g2, o2 + k * 5 + 1, none⟩ = some (.int .i64 y.1.n) ∧ w'.cell? ⟨g2, o2 + k * 5 + 2, none⟩ = some (.string (bs y.1.s)) ∧ w'.cell? ⟨g2, o2 + k * 5 + 3, none⟩ = some (.int .i64 y.2.1) ∧ w'.cell? ⟨g2, o2 + k * 5 + 4, none⟩ = some (.int .i64 y.2.2)))
                [(0, true), (1, true), (2, true), (3, true), (4, true), (5, true), (6, true), (7, true), (8, true), (9, true), (10, true), (11, true), (12, true), (13, true), (14, true), (15, true), (16, true), (17, true), (18, true), (19, true), (20, true)] (by kernel_rfl) (by kernel_rfl) (by kernel_rfl) (fun _ _ _ _ _ h => h) ⟨⟨a0, a1, a2, a3, a4⟩, ⟨b0, b1, b2, b3, b4⟩⟩ ?_
              clear a0 a1 a2 a3 a4 b0 b1 b2 b3 b4
              intro HP
              repeat (first | (apply wpPlan_look; rfl; rfl; (intro wq hq; (try dsimp only at hq); go_split_ands; go_simp; (try rw [if_neg (by omega)]); (try rw [if_pos (by omega)]); try with_reducible rfl); simp only [Act.put, List.setIfInBounds_toArray, List.set_cons_zero, List.set_cons_succ]) | (apply wpPlan_skip; rfl; rfl; simp only [Act.put, List.setIfInBounds_toArray, List.set_cons_zero, List.set_cons_succ]) | (apply wpPlan_pass; rfl; rfl; assumption; simp only [Act.put, List.setIfInBounds_toArray, List.set_cons_zero, List.set_cons_succ]))
              apply wpPlan_done
              clear q1 q2 e0 e1 e2 e3
              generalize Q.length = nq at *
              generalize L.length = nl at *
              go_wp2_with fail
              go_ret
              exact Makes.mk rfl (below_later HBE.out.drew HB6.out)
            have e3 := int_eq (Decidable.not_not.1 d)
            clear d
            by_cases d : ¬ y.2.2 = x.2.2
            · have e4 := int_ne d
              have i2 := HE.out (Nat.le_of_not_lt fun h => d (by rw [HN.out h]))
              clear d
              go_wp2_with fail
              refine wp_region_plan (S := fun w' => (w'.cell? ⟨g, o + k * 5, none⟩ = some (.int .i8 x.1.kind) ∧ w'.cell? ⟨g, o + k * 5 + 1, none⟩ = some (.int .i64 x.1.n) ∧ w'.cell? ⟨g, o + k * 5 + 2, none⟩ = some (.string (bs x.1.s)) ∧ w'.cell? ⟨g, o + k * 5 + 3, none⟩ = some (.int .i64 x.2.1) ∧ w'.cell? ⟨g, o + k * 5 + 4, none⟩ = some (.int .i64 x.2.2)) ∧
                  (w'.cell? ⟨g2, o2 + k * 5, none⟩ = some (.int .i8 y.1.kind) ∧ w'.cell? ⟨g2, o2 + k * 5 + 1, none⟩ = some (.int .i64 y.1.n) ∧ w'.cell? ⟨g2, o2 + k * 5 + 2, none⟩ = some (.string (bs y.1.s)) ∧ w'.cell? ⟨g2, o2 + k * 5 + 3, none⟩ = some (.int .i64 y.2.1) ∧ w'.cell? ⟨g2, o2 + k * 5 + 4, none⟩ = some (.int .i64 y.2.2)))
                [(0, true), (1, true), (2, true), (3, true), (4, true), (5, true), (6, true), (7, true), (8, true), (9, true), (10, true), (11, true), (12, true), (13, true), (14, true), (15, true), (16, true), (17, true), (18, true), (19, true), (20, true)] (by kernel_rfl) (by kernel_rfl) (by kernel_rfl) (fun _ _ _ _ _ h => h) ⟨⟨a0, a1, a2, a3, a4⟩, ⟨b0, b1, b2, b3, b4⟩⟩ ?_
              clear a0 a1 a2 a3 a4 b0 b1 b2 b3 b4
              intro HP
              repeat (first | (apply wpPlan_look; rfl; rfl; (intro wq hq; (try dsimp only at hq); go_split_ands; go_simp; (try rw [if_neg (by omega)]); (try rw [if_pos (by omega)]); try with_reducible rfl); simp only [Act.put, List.setIfInBounds_toArray, List.set_cons_zero, List.set_cons_succ]) | (apply wpPlan_skip; rfl; rfl; simp only [Act.put, List.setIfInBounds_toArray, List.set_cons_zero, List.set_cons_succ]) | (apply wpPlan_pass; rfl; rfl; assumption; simp only [Act.put, List.setIfInBounds_toArray, List.set_cons_zero, List.set_cons_succ]))
              apply wpPlan_done
              clear q1 q2 e0 e1 e2 e3 e4
              generalize Q.length = nq at *
              generalize L.length = nl at *
              go_wp2_with fail
              go_ret
              exact Makes.mk rfl (below_later HBE.out.drew HB6.out)
            have e4 := int_eq (Decidable.not_not.1 d)
            clear d
            go_wp2_with fail
            refine wp_region_plan (S := fun w' => (w'.cell? ⟨g, o + k * 5, none⟩ = some (.int .i8 x.1.kind) ∧ w'.cell? ⟨g, o + k * 5 + 1, none⟩ = some (.int .i64 x.1.n) ∧ w'.cell? ⟨g, o + k * 5 + 2, none⟩ = some (.string (bs x.1.s)) ∧ w'.cell? ⟨g, o + k * 5 + 3, none⟩ = some (.int .i64 x.2.1) ∧ w'.cell? ⟨g, o + k * 5 + 4, none⟩ = some (.int .i64 x.2.2)) ∧
                (w'.cell? ⟨g2, o2 + k * 5, none⟩ = some (.int .i8 y.1.kind) ∧ w'.cell? ⟨g2, o2 + k * 5 + 1, none⟩ = some (.int .i64 y.1.n) ∧ w'.cell? ⟨g2, o2 + k * 5 + 2, none⟩ = some (.string (bs y.1.s)) ∧ w'.cell? ⟨g2, o2 + k * 5 + 3, none⟩ = some (.int .i64 y.2.1) ∧ w'.cell? ⟨g2, o2 + k * 5 + 4, none⟩ = some (.int .i64 y.2.2)))
              [(0, true), (1, true), (2, true), (3, true), (4, true), (5, true), (6, true), (7, true), (8, true), (9, true), (10, true), (11, true), (12, true), (13, true), (14, true), (15, true), (16, true), (17, true), (18, true), (19, true), (20, true)] (by kernel_rfl) (by kernel_rfl) (by kernel_rfl) (fun _ _ _ _ _ h => h) ⟨⟨a0, a1, a2, a3, a4⟩, ⟨b0, b1, b2, b3, b4⟩⟩ ?_
            clear a0 a1 a2 a3 a4 b0 b1 b2 b3 b4
            intro HP
            repeat (first | (apply wpPlan_look; rfl; rfl; (intro wq hq; (try dsimp only at hq); go_split_ands; go_simp; (try rw [if_neg (by omega)]); (try rw [if_pos (by omega)]); try with_reducible rfl); simp only [Act.put, List.setIfInBounds_toArray, List.set_cons_zero, List.set_cons_succ]) | (apply wpPlan_skip; rfl; rfl; simp only [Act.put, List.setIfInBounds_toArray, List.set_cons_zero, List.set_cons_succ]) | (apply wpPlan_pass; rfl; rfl; assumption; simp only [Act.put, List.setIfInBounds_toArray, List.set_cons_zero, List.set_cons_succ]))
            apply wpPlan_done
            clear q1 q2 e0 e1 e2 e3 e4
            go_wp2_with fail
            go_roundw
            case rel => exact ⟨k + 1, by omega, by omega, by go_num, Lib.hid HBE.out.drew⟩
            case measure => simp [intOf]; omega
          · have i2 := HE.out (by have := HOK.out.l; omega)
            have q1 : decide ((k : Int) < (Q.length : Int)) = true := decide_eq_true (by omega)
            have q2 : decide ((k : Int) < (L.length : Int)) = false := decide_eq_false (by omega)
            go_wp2_with fail
            refine wp_region_plan (S := fun _ => True)
              [(0, true), (1, true), (2, true), (3, true), (4, true), (5, true), (6, true), (7, true), (8, true), (9, true), (10, true), (11, true), (12, true), (13, true), (14, true), (15, true), (16, true), (17, true), (18, true), (19, true), (20, true)] (by kernel_rfl) (by kernel_rfl) (by kernel_rfl) (fun _ _ _ _ _ h => h) trivial ?_
            intro HP
            repeat (first | (apply wpPlan_look; rfl; rfl; (intro wq hq; (try dsimp only at hq); go_split_ands; go_simp; (try rw [if_neg (by omega)]); (try rw [if_pos (by omega)]); try with_reducible rfl); simp only [Act.put, List.setIfInBounds_toArray, List.set_cons_zero, List.set_cons_succ]) | (apply wpPlan_skip; rfl; rfl; simp only [Act.put, List.setIfInBounds_toArray, List.set_cons_zero, List.set_cons_succ]) | (apply wpPlan_pass; rfl; rfl; assumption; simp only [Act.put, List.setIfInBounds_toArray, List.set_cons_zero, List.set_cons_succ]))
            apply wpPlan_done
            clear q1 q2
            generalize Q.length = nq at *
            generalize L.length = nl at *
            go_wp2_with fail
            go_ret
            exact Makes.mk rfl (below_later HBE.out.drew HB6.out)
        · have i2 := HE.out (by have := HOK.out.q; omega)
          have q1 : decide ((k : Int) < (Q.length : Int)) = false := decide_eq_false (by omega)
          go_wp2_with fail
          refine wp_region_plan (S := fun _ => True)
            [(0, true), (1, true), (2, true), (3, true), (4, true), (5, true), (6, true), (7, true), (8, true), (9, true), (10, true), (11, true), (12, true), (13, true), (14, true), (15, true), (16, true), (17, true), (18, true), (19, true), (20, true)] (by kernel_rfl) (by kernel_rfl) (by kernel_rfl) (fun _ _ _ _ _ h => h) trivial ?_
          intro HP
          repeat (first | (apply wpPlan_look; rfl; rfl; (intro wq hq; (try dsimp only at hq); go_split_ands; go_simp; (try rw [if_neg (by omega)]); (try rw [if_pos (by omega)]); try with_reducible rfl); simp only [Act.put, List.setIfInBounds_toArray, List.set_cons_zero, List.set_cons_succ]) | (apply wpPlan_skip; rfl; rfl; simp only [Act.put, List.setIfInBounds_toArray, List.set_cons_zero, List.set_cons_succ]) | (apply wpPlan_pass; rfl; rfl; assumption; simp only [Act.put, List.setIfInBounds_toArray, List.set_cons_zero, List.set_cons_succ]))
          apply wpPlan_done
          clear q1
          generalize Q.length = nq at *
          generalize L.length = nl at *
          go_wp2_with fail
          go_ret
          exact Makes.mk rfl (below_later HBE.out.drew HB6.out)
    · have hb6 : Below w5.heap.size w5 (w5.alloc (.cells #[.int .i64 p.1, .int .i64 p.2] 29)) := (Below.refl _ _).alloc (Nat.le_refl _) _
      have HB6 := Lib.hid (below_later hb6 HB5.out)
      have HA1 := Lib.hid (structs_of (HST5.out.later hb6))
      have hjl : j < L.length := (List.getElem?_eq_some_iff.1 hj).1
      have HJ := Lib.hid hj
      have i3 : (L.length : Int) ≤ 1000000000000000000 := by have h1 := Tx.toks_len' HT.out; rw [size_list] at h1; have h2 := HSZ.out; omega
      have p0 : (w5.alloc (.cells #[.int .i64 p.1, .int .i64 p.2] 29)).cell? ⟨w5.heap.size, 0, none⟩ = some (.int .i64 p.1) := World.cell?_alloc_at _ _ _ _ rfl
      have p1 : (w5.alloc (.cells #[.int .i64 p.1, .int .i64 p.2] 29)).cell? ⟨w5.heap.size, 1, none⟩ = some (.int .i64 p.2) := World.cell?_alloc_at _ _ _ _ rfl
      have P0 := Lib.hid p0
      have P1 := Lib.hid p1
      clear hb6 hj p0 p1
      go_wp2_with fail
      generalize w5.alloc (.cells #[.int .i64 p.1, .int .i64 p.2] 29) = w6 at *
      go_loopw [12] (fun i wr => i = .int .i64 0 ∧ Hid (Below w6.heap.size w6 wr)) (fun i _ => 0)
      case atStart => exact ⟨rfl, Lib.hid (Below.refl _ _)⟩
      case round =>
        obtain ⟨rfl, HBE⟩ := hrel
        go_wp2_with fail
        refine wp_region_plan (S := fun _ => True)
          [(0, true), (1, true), (2, true), (3, true), (4, true), (5, true), (6, true), (7, true), (8, true), (9, true), (10, true), (11, true), (12, true), (13, true), (14, true), (15, true), (16, true), (17, true), (18, true), (19, true), (20, true)] (by kernel_rfl) (by kernel_rfl) (by kernel_rfl) (fun _ _ _ _ _ h => h) trivial ?_
        intro HP
        repeat (first | (apply wpPlan_look; rfl; rfl; (intro wq hq; (try dsimp only at hq); go_split_ands; go_simp; (try rw [if_neg (by omega)]); (try rw [if_pos (by omega)]); try with_reducible rfl); simp only [Act.put, List.setIfInBounds_toArray, List.set_cons_zero, List.set_cons_succ]) | (apply wpPlan_skip; rfl; rfl; simp only [Act.put, List.setIfInBounds_toArray, List.set_cons_zero, List.set_cons_succ]) | (apply wpPlan_pass; rfl; rfl; assumption; simp only [Act.put, List.setIfInBounds_toArray, List.set_cons_zero, List.set_cons_succ]))
        apply wpPlan_done
        go_wp2_with fail
        have HBE2 := Lib.hid HBE.out.drew
        clear HBE
        generalize wr.drew = w7 at *
        go_loopw [12] (fun i wr => ∃ k : Nat, k ≤ j ∧ i = .int .i64 k ∧ Hid (Below w6.heap.size w6 wr)) (fun i _ => j - (intOf i).toNat)
        case atStart => exact ⟨0, Nat.zero_le _, rfl, HBE2⟩
        case round =>
          clear HBE2
          obtain ⟨k, hkj, rfl, HBE⟩ := hrel
          have hk : k < L.length := by omega
          obtain ⟨g, o, rfl, hA⟩ := HA1.out (by omega)
          have hx : L[k]? = some L[k] := List.getElem?_eq_getElem hk
          have a3 := cell_later HBE.out (hA k _ hx 3 _ rfl)
          have a4 := cell_later HBE.out (hA k _ hx 4 _ rfl)
          have p0 := cell_later HBE.out P0.out
          have p1 := cell_later HBE.out P1.out
          have HN : Hid (k = j → L[k] = (t, p)) := Lib.hid (fun h => by subst h; have := HJ.out; rw [hx] at this; injection this)
          have q2 : decide ((k : Int) < (L.length : Int)) = true := decide_eq_true (by omega)
          generalize L[k] = x at *
          clear hx hA
          by_cases d : x.2.1 = p.1 ∧ x.2.2 = p.2
          · have e3 := int_eq d.1
            have e4 := int_eq d.2
            clear d
            go_wp2_with fail
            refine wp_region_plan (S := fun w' => (w'.cell? ⟨g, o + k * 5 + 3, none⟩ = some (.int .i64 x.2.1) ∧ w'.cell? ⟨g, o + k * 5 + 4, none⟩ = some (.int .i64 x.2.2)) ∧ (w'.cell? ⟨w5.heap.size, 0, none⟩ = some (.int .i64 p.1) ∧ w'.cell? ⟨w5.heap.size, 1, none⟩ = some (.int .i64 p.2)))
              [(0, true), (1, true), (2, true), (3, true), (4, true), (5, true), (6, true), (7, true), (8, true), (9, true), (10, true), (11, true), (12, true)] (by kernel_rfl) (by kernel_rfl) (by kernel_rfl) (fun _ _ _ _ _ h => h) ⟨⟨a3, a4⟩, ⟨p0, p1⟩⟩ ?_
            clear a3 a4 p0 p1
            intro HP
            repeat (first | (apply wpPlan_look; rfl; rfl; (intro wq hq; (try dsimp only at hq); go_split_ands; go_simp; (try rw [if_neg (by omega)]); (try rw [if_pos (by omega)]); try with_reducible rfl); simp only [Act.put, List.setIfInBounds_toArray, List.set_cons_zero, List.set_cons_succ]) | (apply wpPlan_skip; rfl; rfl; simp only [Act.put, List.setIfInBounds_toArray, List.set_cons_zero, List.set_cons_succ]) | (apply wpPlan_pass; rfl; rfl; assumption; simp only [Act.put, List.setIfInBounds_toArray, List.set_cons_zero, List.set_cons_succ]))
            apply wpPlan_done
            clear e3 e4 q2
            have hkl : (k : Int) < (L.length : Int) := by omega
            clear hk hkj hjl
            go_wp2_with fail
            go_ret
            exact Makes.mk rfl (below_later HBE.out.drew HB6.out)
          · have hne : k ≠ j := fun h => d (by rw [HN.out h]; exact ⟨rfl, rfl⟩)
            by_cases d3 : x.2.1 = p.1
            · have e3 := int_eq d3
              have e4 := int_ne (fun h => d ⟨d3, h⟩)
              clear d d3
              go_wp2_with fail
              refine wp_region_plan (S := fun w' => (w'.cell? ⟨g, o + k * 5 + 3, none⟩ = some (.int .i64 x.2.1) ∧ w'.cell? ⟨g, o + k * 5 + 4, none⟩ = some (.int .i64 x.2.2)) ∧ (w'.cell? ⟨w5.heap.size, 0, none⟩ = some (.int .i64 p.1) ∧ w'.cell? ⟨w5.heap.size, 1, none⟩ = some (.int .i64 p.2)))
                [(0, true), (1, true), (2, true), (3, true), (4, true), (5, true), (6, true), (7, true), (8, true), (9, true), (10, true), (11, true), (12, true)] (by kernel_rfl) (by kernel_rfl) (by kernel_rfl) (fun _ _ _ _ _ h => h) ⟨⟨a3, a4⟩, ⟨p0, p1⟩⟩ ?_
              clear a3 a4 p0 p1
              intro HP
              repeat (first | (apply wpPlan_look; rfl; rfl; (intro wq hq; (try dsimp only at hq); go_split_ands; go_simp; (try rw [if_neg (by omega)]); (try rw [if_pos (by omega)]); try with_reducible rfl); simp only [Act.put, List.setIfInBounds_toArray, List.set_cons_zero, List.set_cons_succ]) | (apply wpPlan_skip; rfl; rfl; simp only [Act.put, List.setIfInBounds_toArray, List.set_cons_zero, List.set_cons_succ]) | (apply wpPlan_pass; rfl; rfl; assumption; simp only [Act.put, List.setIfInBounds_toArray, List.set_cons_zero, List.set_cons_succ]))
              apply wpPlan_done
              clear e3 e4 q2
              go_wp2_with fail
              go_roundw
              case rel => exact ⟨k + 1, by omega, by go_num, Lib.hid HBE.out.drew⟩
              case measure => simp [intOf]; omega
            · have e3 := int_ne d3
              clear d d3
              go_wp2_with fail
              refine wp_region_plan (S := fun w' => (w'.cell? ⟨g, o + k * 5 + 3, none⟩ = some (.int .i64 x.2.1) ∧ w'.cell? ⟨g, o + k * 5 + 4, none⟩ = some (.int .i64 x.2.2)) ∧ (w'.cell? ⟨w5.heap.size, 0, none⟩ = some (.int .i64 p.1) ∧ w'.cell? ⟨w5.heap.size, 1, none⟩ = some (.int .i64 p.2)))
                [(0, true), (1, true), (2, true), (3, true), (4, true), (5, true), (6, true), (7, true), (8, true), (9, true), (10, true), (11, true), (12, true)] (by kernel_rfl) (by kernel_rfl) (by kernel_rfl) (fun _ _ _ _ _ h => h) ⟨⟨a3, a4⟩, ⟨p0, p1⟩⟩ ?_
              clear a3 a4 p0 p1
              intro HP
              repeat (first | (apply wpPlan_look; rfl; rfl; (intro wq hq; (try dsimp only at hq); go_split_ands; go_simp; (try rw [if_neg (by omega)]); (try rw [if_pos (by omega)]); try with_reducible rfl); simp only [Act.put, List.setIfInBounds_toArray, List.set_cons_zero, List.set_cons_succ]) | (apply wpPlan_skip; rfl; rfl; simp only [Act.put, List.setIfInBounds_toArray, List.set_cons_zero, List.set_cons_succ]) | (apply wpPlan_pass; rfl; rfl; assumption; simp only [Act.put, List.setIfInBounds_toArray, List.set_cons_zero, List.set_cons_succ]))
              apply wpPlan_done
              clear e3 q2
              go_wp2_with fail
              go_roundw
              case rel => exact ⟨k + 1, by omega, by go_num, Lib.hid HBE.out.drew⟩
              case measure => simp [intOf]; omega
end Go.Proofs.YtenbecjnlgmkeaaDoor

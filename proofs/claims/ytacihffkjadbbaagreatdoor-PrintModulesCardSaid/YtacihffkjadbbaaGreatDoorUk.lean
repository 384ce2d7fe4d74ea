
/- Walks of the printer: a part. -/
import Derived.Test.YtacihffkjadbbaaGreatDoorUj
import Derived.Test.YtacihffkjadbbaaGreatDoorHd
namespace Culp.Tr
set_option linter.unusedSimpArgs false
set_option linter.unusedVariables false
open Culp
theorem may_n {x : Nd} (h : may x = true) (hk : x.kind = 1) : 0 ≤ x.n := by
  unfold may nOk at h
  simp only [Bool.and_eq_true, hk] at h
  simpa using h.1.1.1.2
theorem may_str {x : Nd} (h : may x = true) (hk : x.kind = 2) : ∃ q, Tx.quote x.s.data.toList = some q := by
  unfold may sOk at h
  simp only [Bool.and_eq_true, hk] at h
  exact Option.isSome_iff_exists.1 (by simpa using h.1.1.2)
theorem note_or {s : ByteArray} (h : note s.data.toList = true) : s.size = 0 ∨ isTy s.data.toList = true := by
  unfold note at h
  simp only [Bool.or_eq_true, decide_eq_true_eq] at h
  rcases h with h | h
  · exact .inl (by show s.data.size = 0; rw [← Array.length_toList, h]; rfl)
  · exact .inr h
theorem may_t {x : Nd} (h : may x = true) (hk : x.kind = 5 ∨ x.kind = 6 ∨ x.kind = 8) : x.t.size = 0 ∨ isTy x.t.data.toList = true := by
  unfold may tOk at h
  rw [if_pos hk] at h
  simp only [Bool.and_eq_true] at h
  exact note_or h.1.2
theorem may_as {x : Nd} (h : may x = true) (hk : x.kind = 29) : x.t.size = 0 ∨ isTy x.t.data.toList = true := by
  unfold may tOk at h
  rw [if_neg (by omega), if_pos hk] at h
  simp only [Bool.and_eq_true] at h
  exact .inr h.1.2
theorem may_u {x : Nd} (h : may x = true) (hk : x.kind = 5 ∨ x.kind = 6) : x.u.size = 0 ∨ isTy x.u.data.toList = true := by
  unfold may uOk at h
  rw [if_pos hk] at h
  simp only [Bool.and_eq_true] at h
  exact note_or h.2
theorem may_two {x : Nd} (h : may x = true) (hk : x.kind = 6) : ∃ f a, two x.s.data.toList = some (f, a) := by
  unfold may sOk twoOk at h
  simp only [Bool.and_eq_true, hk] at h
  have h2 := h.1.1.2
  cases ht : two x.s.data.toList with
  | none => rw [ht] at h2; simp at h2
  | some p => exact ⟨p.1, p.2, rfl⟩
theorem may_arit {x : Nd} (h : may x = true) : arit x.kind = -1 ∨ arit x.kind = x.kids := by
  unfold may kOk at h
  simp only [Bool.and_eq_true, Bool.or_eq_true, decide_eq_true_eq] at h
  exact h.1.1.1.1.2
theorem may_kind {x : Nd} (h : may x = true) : x.kind ≠ 30 ∧ arit x.kind ≠ -2 := by
  have h1 := may_arit h
  have h2 := may_kids h
  unfold may kOk at h
  simp only [Bool.and_eq_true, Bool.or_eq_true, decide_eq_true_eq] at h
  exact ⟨h.1.1.1.1.1.1, by omega⟩
theorem kind_or {k : Int} (h : arit k ≠ -2) (h30 : k ≠ 30) : k = 1 ∨ k = 2 ∨ k = 3 ∨ k = 4 ∨ k = 18 ∨ k = 29 ∨ k = 21 ∨ k = 7 ∨ ((k = 26 ∨ k = 17 ∨ k = 19 ∨ k = 20 ∨ k = 22 ∨ k = 23 ∨ k = 24 ∨ k = 25) ∧ arit k = if k = 25 then 2 else 1) ∨ k = 5 ∨ k = 6 ∨ k = 8 ∨ k = 9 ∨ k = 28 ∨ k = 14 ∨ k = 15 ∨ k = 10 ∨ k = 11 ∨ k = 13 ∨ k = 12 ∨ k = 16 ∨ k = 27 := by
  unfold arit at h ⊢
  split
  · omega
  split
  · omega
  split
  · omega
  split
  · omega
  split
  · omega
  · simp_all
theorem dec_tens : ∀ (f n : Nat), n < 10 ^ f → n ≠ 0 → Tx.tens f n = Go.Lib.decDigits n
  | 0, n, h, h0 => by simp at h; omega
  | f + 1, n, h, h0 => by
    rw [Tx.tens, if_neg h0, Go.Lib.decDigits]
    by_cases h1 : n < 10
    · rw [dif_pos h1, show n / 10 = 0 by omega, show n % 10 = n by omega]
      cases f <;> simp [Tx.tens]
    · rw [dif_neg h1, dec_tens f (n / 10) (by rw [Nat.pow_succ] at h; omega) (by omega)]
theorem dec_itoa {n : Int} (h0 : 0 ≤ n) (h1 : n ≤ 9223372036854775807) : Go.Lib.itoa n = Tx.decimal n.toNat := by
  unfold Go.Lib.itoa Tx.decimal
  rw [if_neg (by omega)]
  split
  · rename_i h
    rw [h, Go.Lib.decDigits]
    simp
  · exact (dec_tens 20 _ (by have : (10 : Nat) ^ 20 = 100000000000000000000 := by decide
                             omega) (by assumption)).symm
end Culp.Tr
namespace Go.Proofs.YtacihffkjadbbaaGreatDoor
set_option linter.unusedSimpArgs false
set_option linter.unusedVariables false
open Go.RowKit Culp
set_option maxRecDepth 100000 in
theorem FormatInt_any (n : Int) (h0 : 0 ≤ n) (h1 : n ≤ 9223372036854775807) (w : World) (hP : Pw w) : Calls Tryz.prog 70 #[.int .i64 n, .int .i64 10] w (Makes (.string (bs (Tx.decimal n.toNat))) w) := by
  have HP := Lib.hid hP
  have HE := Lib.hid (Tr.dec_itoa h0 h1)
  have HI := Lib.hid (fun (w : World) hw => Any.internal_strconv_FormatInt_10 { Tryz.laysM171 with } n (by omega) h1 w hw)
  clear hP
  go_enter Tryz.func70, Tryz.ntmps70
  go_wp2_with fail
  refine (HI.out _ HP.out).mono ?_
  rintro e w2 ⟨rfl, k, os, rfl⟩
  have HB : Hid (Below w.heap.size w (Go.Sort.grow (w.drewN k) os)) := Lib.hid (Lib.below_grow _ w (Nat.le_refl _) k os)
  generalize Go.Sort.grow (w.drewN k) os = w3 at *
  go_wp2_with fail
  go_ret
  exact Makes.mk (by rw [HE.out]; rfl) HB.out
set_option maxRecDepth 100000 in
theorem iFormatBool_any (t : Bool) (w : World) : Calls Tryz.prog 101 #[.bool t] w (Gives (.string (bs (if t then [116, 114, 117, 101] else [102, 97, 108, 115, 101]))) w) := by
  cases t
  all_goals
    go_enter Tryz.func101, Tryz.ntmps101
    go_wp2_with fail
    go_ret
    exact Gives.mk rfl
set_option maxRecDepth 100000 in
theorem FormatBool_any (t : Bool) (w : World) : Calls Tryz.prog 72 #[.bool t] w (Gives (.string (bs (if t then [116, 114, 117, 101] else [102, 97, 108, 115, 101]))) w) := by
  cases t
  · go_enter Tryz.func72, Tryz.ntmps72
    go_wp2_with fail
    refine (iFormatBool_any false _).mono ?_
    rintro e w2 ⟨rfl, rfl⟩
    go_wp2_with fail
    go_ret
    exact Gives.mk rfl
  · go_enter Tryz.func72, Tryz.ntmps72
    go_wp2_with fail
    refine (iFormatBool_any true _).mono ?_
    rintro e w2 ⟨rfl, rfl⟩
    go_wp2_with fail
    go_ret
    exact Gives.mk rfl
end Go.Proofs.YtacihffkjadbbaaGreatDoor


/- The walk of the statement TreeBounds: the law itself. -/
import Derived.Test.YtebameiaeldfiaaDoorTrT
namespace Culp.Tr
set_option linter.unusedSimpArgs false
set_option linter.unusedVariables false
theorem chain_sz (n : Nat) : (∀ x ∈ chainL n, x.s.size ≤ 100000000000000) ∧ ∀ x ∈ chainL n, x.kids ≤ 9223372036854775807 := by
  have key : ∀ x ∈ chainL n, x = neg1 ∨ x = numN 0 := by
    intro x hx
    unfold chainL at hx
    rcases List.mem_append.1 hx with hx | hx
    · exact .inl (List.eq_of_mem_replicate hx)
    · exact .inr (List.mem_singleton.1 hx)
  constructor
  · intro x hx
    rcases key x hx with rfl | rfl <;> decide
  · intro x hx
    rcases key x hx with rfl | rfl <;> decide
theorem wide_sz (n : Nat) (hn : n ≤ 100000) : (∀ x ∈ wideL n, x.s.size ≤ 100000000000000) ∧ ∀ x ∈ wideL n, x.kids ≤ 9223372036854775807 := by
  constructor
  · intro x hx
    unfold wideL at hx
    rcases List.mem_cons.1 hx with rfl | hx
    · exact Nat.zero_le _
    · obtain ⟨i, _, rfl⟩ := List.mem_map.1 hx
      exact Nat.zero_le _
  · intro x hx
    unfold wideL at hx
    rcases List.mem_cons.1 hx with rfl | hx
    · show (n : Int) ≤ _; omega
    · obtain ⟨i, _, rfl⟩ := List.mem_map.1 hx
      show (0 : Int) ≤ _; omega
end Culp.Tr
namespace Go.Proofs.YtebameiaeldfiaaDoor
open Go.RowKit Go.Maps Culp

set_option maxRecDepth 100000 in
set_option maxHeartbeats 6400000 in
theorem TreeBounds_any (w : World) (hS : Sp w) : Calls Tryd.prog 6 #[] w (Makes (.bool true) w) := by
  have HS := Lib.hid hS
  have HB0 : Hid (Below w.heap.size w w) := Lib.hid (Below.refl _ _)
  clear hS
  go_enter Tryd.func6, Tryd.ntmps6
  go_wp2_with fail
  refine (chain_any 63 _ (by decide)).mono ?_
  rintro e wa ⟨va, rfl, hna, hba⟩
  have HB1a := Lib.hid (below_later hba HB0.out)
  have HNA := Lib.hid hna
  clear hna hba
  go_wp2_with fail
  refine (tCheck_any _ _ _ HNA.out (HS.out.later HB1a.out) (Tr.chain_sz 63).1 (Tr.chain_sz 63).2).mono ?_
  rw [Tr.chain63]
  rintro e wb ⟨rfl, hbb⟩
  have HB1 := Lib.hid (below_later hbb HB1a.out)
  clear hbb HB1a HB0 HNA
  go_wp2_with fail
  refine (chain_any 64 _ (by decide)).mono ?_
  rintro e wa ⟨va, rfl, hna, hba⟩
  have HB2a := Lib.hid (below_later hba HB1.out)
  have HNA := Lib.hid hna
  clear hna hba
  go_wp2_with fail
  refine (tCheck_any _ _ _ HNA.out (HS.out.later HB2a.out) (Tr.chain_sz 64).1 (Tr.chain_sz 64).2).mono ?_
  rw [Tr.chain64]
  rintro e wb ⟨rfl, hbb⟩
  have HB2 := Lib.hid (below_later hbb HB2a.out)
  clear hbb HB2a HB1 HNA
  go_wp2_with fail
  refine (wide_any 4095 _ (by decide)).mono ?_
  rintro e wa ⟨va, rfl, hna, hba⟩
  have HB3a := Lib.hid (below_later hba HB2.out)
  have HNA := Lib.hid hna
  clear hna hba
  go_wp2_with fail
  refine (tCheck_any _ _ _ HNA.out (HS.out.later HB3a.out) (Tr.wide_sz 4095 (by decide)).1 (Tr.wide_sz 4095 (by decide)).2).mono ?_
  rw [Tr.check_wide 4095 (by decide) (by decide)]
  rintro e wb ⟨rfl, hbb⟩
  have HB3 := Lib.hid (below_later hbb HB3a.out)
  clear hbb HB3a HB2 HNA
  go_wp2_with fail
  refine (wide_any 4096 _ (by decide)).mono ?_
  rintro e wa ⟨va, rfl, hna, hba⟩
  have HB4a := Lib.hid (below_later hba HB3.out)
  have HNA := Lib.hid hna
  clear hna hba
  go_wp2_with fail
  refine (tCheck_any _ _ _ HNA.out (HS.out.later HB4a.out) (Tr.wide_sz 4096 (by decide)).1 (Tr.wide_sz 4096 (by decide)).2).mono ?_
  rw [Tr.check_many 4096 (by decide)]
  rintro e wb ⟨rfl, hbb⟩
  have HB4 := Lib.hid (below_later hbb HB4a.out)
  clear hbb HB4a HB3 HNA
  go_wp2_with fail
  go_loop [9, 10, 11] (fun sv tv i => ∃ (k : Nat) (a b : ByteArray), k ≤ 63 ∧ i = .int .i64 k ∧ sv = .string a ∧ tv = .string b ∧ Hid (a = bs (List.replicate k 97)) ∧ Hid (b = bs (List.replicate k 108 ++ [105])) ∧ a.size = k ∧ b.size = k + 1) (fun _ _ i => 63 - (intOf i).toNat)
  case atStart => exact ⟨0, _, _, by omega, rfl, rfl, rfl, Lib.hid rfl, Lib.hid rfl, rfl, rfl⟩
  case round =>
    obtain ⟨k, a, b, hk, rfl, rfl, rfl, HA, HBs, ha, hb⟩ := hrel
    by_cases hlt : k < 63
    · go_wp2_with fail
      go_round
      case rel =>
        refine ⟨k + 1, _, _, by omega, by go_num, rfl, rfl, Lib.hid ?_, Lib.hid ?_, ?_, ?_⟩
        · rw [HA.out, List.replicate_succ']; exact bs_app _ [97]
        · rw [HBs.out, List.replicate_succ, List.cons_append]; exact bs_app [108] _
        · rw [ByteArray.size_append, ha]; rfl
        · rw [ByteArray.size_append, hb]; show 1 + (k + 1) = _; omega
      case measure => simp [intOf]; omega
    · have hk63 : k = 63 := by omega
      have HA6 : Hid (a = bs (List.replicate 63 97)) := Lib.hid (by rw [HA.out, hk63])
      have HB6 : Hid (b = bs (List.replicate 63 108 ++ [105])) := Lib.hid (by rw [HBs.out, hk63])
      have ha6 : a.size ≤ 63 := by omega
      have hb6 : b.size ≤ 64 := by omega
      have E12 : Hid (Tr.check [⟨2, 0, 0, a ++ (⟨#[10]⟩ : ByteArray), ⟨#[]⟩, ⟨#[]⟩, 0, 0⟩] = (0, 0)) := Lib.hid (by rw [HA6.out]; show Tr.check [⟨2, 0, 0, bs _ ++ bs [10], ⟨#[]⟩, ⟨#[]⟩, 0, 0⟩] = _; rw [bs_app]; exact Tr.str_yes)
      have E13 : Hid (Tr.check [⟨2, 0, 0, a ++ (⟨#[10, 98]⟩ : ByteArray), ⟨#[]⟩, ⟨#[]⟩, 0, 0⟩] = (18, 0)) := Lib.hid (by rw [HA6.out]; show Tr.check [⟨2, 0, 0, bs _ ++ bs [10, 98], ⟨#[]⟩, ⟨#[]⟩, 0, 0⟩] = _; rw [bs_app]; exact Tr.str_no)
      have E14 : Hid (Tr.check [⟨29, 1, 0, ⟨#[]⟩, b, ⟨#[]⟩, 0, 0⟩, ⟨1, 0, 0, ⟨#[]⟩, ⟨#[]⟩, ⟨#[]⟩, 0, 0⟩] = (0, 0)) := Lib.hid (by rw [HB6.out]; exact Tr.as_yes)
      have E15 : Hid (Tr.check [⟨29, 1, 0, ⟨#[]⟩, (⟨#[108]⟩ : ByteArray) ++ b, ⟨#[]⟩, 0, 0⟩, ⟨1, 0, 0, ⟨#[]⟩, ⟨#[]⟩, ⟨#[]⟩, 0, 0⟩] = (18, 0)) := Lib.hid (by rw [HB6.out]; show Tr.check [⟨29, 1, 0, ⟨#[]⟩, bs [108] ++ bs _, ⟨#[]⟩, 0, 0⟩, _] = _; rw [bs_app]; exact Tr.as_no)
      have S12 : Hid ((∀ x ∈ ([⟨2, 0, 0, a ++ (⟨#[10]⟩ : ByteArray), ⟨#[]⟩, ⟨#[]⟩, 0, 0⟩] : List Nd), x.s.size ≤ 100000000000000) ∧ ∀ x ∈ ([⟨2, 0, 0, a ++ (⟨#[10]⟩ : ByteArray), ⟨#[]⟩, ⟨#[]⟩, 0, 0⟩] : List Nd), x.kids ≤ 9223372036854775807) := Lib.hid ⟨fun x hx => by rw [List.mem_singleton.1 hx]; show (a ++ _).size ≤ _; rw [ByteArray.size_append]; show a.size + 1 ≤ _; omega, fun x hx => by rw [List.mem_singleton.1 hx]; show (0 : Int) ≤ _; omega⟩
      have S13 : Hid ((∀ x ∈ ([⟨2, 0, 0, a ++ (⟨#[10, 98]⟩ : ByteArray), ⟨#[]⟩, ⟨#[]⟩, 0, 0⟩] : List Nd), x.s.size ≤ 100000000000000) ∧ ∀ x ∈ ([⟨2, 0, 0, a ++ (⟨#[10, 98]⟩ : ByteArray), ⟨#[]⟩, ⟨#[]⟩, 0, 0⟩] : List Nd), x.kids ≤ 9223372036854775807) := Lib.hid ⟨fun x hx => by rw [List.mem_singleton.1 hx]; show (a ++ _).size ≤ _; rw [ByteArray.size_append]; show a.size + 2 ≤ _; omega, fun x hx => by rw [List.mem_singleton.1 hx]; show (0 : Int) ≤ _; omega⟩
      have S14 : Hid ((∀ x ∈ ([⟨29, 1, 0, ⟨#[]⟩, b, ⟨#[]⟩, 0, 0⟩, ⟨1, 0, 0, ⟨#[]⟩, ⟨#[]⟩, ⟨#[]⟩, 0, 0⟩] : List Nd), x.s.size ≤ 100000000000000) ∧ ∀ x ∈ ([⟨29, 1, 0, ⟨#[]⟩, b, ⟨#[]⟩, 0, 0⟩, ⟨1, 0, 0, ⟨#[]⟩, ⟨#[]⟩, ⟨#[]⟩, 0, 0⟩] : List Nd), x.kids ≤ 9223372036854775807) := Lib.hid ⟨by simp; decide, by simp⟩
      have S15 : Hid ((∀ x ∈ ([⟨29, 1, 0, ⟨#[]⟩, (⟨#[108]⟩ : ByteArray) ++ b, ⟨#[]⟩, 0, 0⟩, ⟨1, 0, 0, ⟨#[]⟩, ⟨#[]⟩, ⟨#[]⟩, 0, 0⟩] : List Nd), x.s.size ≤ 100000000000000) ∧ ∀ x ∈ ([⟨29, 1, 0, ⟨#[]⟩, (⟨#[108]⟩ : ByteArray) ++ b, ⟨#[]⟩, 0, 0⟩, ⟨1, 0, 0, ⟨#[]⟩, ⟨#[]⟩, ⟨#[]⟩, 0, 0⟩] : List Nd), x.kids ≤ 9223372036854775807) := Lib.hid ⟨by simp; decide, by simp⟩
      clear HA HBs ha hb hk63
      go_wp2_with fail
      have HNA : Hid (Nodes (wb.alloc (.cells #[.int .i8 2, .int .i64 0, .int .i64 0, .string (a ++ (⟨#[10]⟩ : ByteArray)), .string ⟨#[]⟩, .string ⟨#[]⟩, .int .i64 0, .int .i64 0] 41)) (.slice (some ⟨wb.heap.size, 0, none⟩) 1 1) [⟨2, 0, 0, a ++ (⟨#[10]⟩ : ByteArray), ⟨#[]⟩, ⟨#[]⟩, 0, 0⟩]) := Lib.hid (lit_nodes wb [⟨2, 0, 0, a ++ (⟨#[10]⟩ : ByteArray), ⟨#[]⟩, ⟨#[]⟩, 0, 0⟩] _ _ rfl)
      have hba : Below wb.heap.size wb (wb.alloc (.cells #[.int .i8 2, .int .i64 0, .int .i64 0, .string (a ++ (⟨#[10]⟩ : ByteArray)), .string ⟨#[]⟩, .string ⟨#[]⟩, .int .i64 0, .int .i64 0] 41)) := (Below.refl _ _).alloc (Nat.le_refl _) _
      have HB5a := Lib.hid (below_later hba HB4.out)
      clear hba
      refine (tCheck_any _ _ _ HNA.out (HS.out.later HB5a.out) S12.out.1 S12.out.2).mono ?_
      rw [E12.out]
      rintro e wb ⟨rfl, hbb⟩
      have HB5 := Lib.hid (below_later hbb HB5a.out)
      clear hbb HB5a HB4 HNA
      go_wp2_with fail
      have HNA : Hid (Nodes (wb.alloc (.cells #[.int .i8 2, .int .i64 0, .int .i64 0, .string (a ++ (⟨#[10, 98]⟩ : ByteArray)), .string ⟨#[]⟩, .string ⟨#[]⟩, .int .i64 0, .int .i64 0] 41)) (.slice (some ⟨wb.heap.size, 0, none⟩) 1 1) [⟨2, 0, 0, a ++ (⟨#[10, 98]⟩ : ByteArray), ⟨#[]⟩, ⟨#[]⟩, 0, 0⟩]) := Lib.hid (lit_nodes wb [⟨2, 0, 0, a ++ (⟨#[10, 98]⟩ : ByteArray), ⟨#[]⟩, ⟨#[]⟩, 0, 0⟩] _ _ rfl)
      have hba : Below wb.heap.size wb (wb.alloc (.cells #[.int .i8 2, .int .i64 0, .int .i64 0, .string (a ++ (⟨#[10, 98]⟩ : ByteArray)), .string ⟨#[]⟩, .string ⟨#[]⟩, .int .i64 0, .int .i64 0] 41)) := (Below.refl _ _).alloc (Nat.le_refl _) _
      have HB6a := Lib.hid (below_later hba HB5.out)
      clear hba
      refine (tCheck_any _ _ _ HNA.out (HS.out.later HB6a.out) S13.out.1 S13.out.2).mono ?_
      rw [E13.out]
      rintro e wb ⟨rfl, hbb⟩
      have HB6 := Lib.hid (below_later hbb HB6a.out)
      clear hbb HB6a HB5 HNA
      go_wp2_with fail
      have HNA : Hid (Nodes (wb.alloc (.cells #[.int .i8 29, .int .i64 1, .int .i64 0, .string ⟨#[]⟩, .string b, .string ⟨#[]⟩, .int .i64 0, .int .i64 0, .int .i8 1, .int .i64 0, .int .i64 0, .string ⟨#[]⟩, .string ⟨#[]⟩, .string ⟨#[]⟩, .int .i64 0, .int .i64 0] 41)) (.slice (some ⟨wb.heap.size, 0, none⟩) 2 2) [⟨29, 1, 0, ⟨#[]⟩, b, ⟨#[]⟩, 0, 0⟩, ⟨1, 0, 0, ⟨#[]⟩, ⟨#[]⟩, ⟨#[]⟩, 0, 0⟩]) := Lib.hid (lit_nodes wb [⟨29, 1, 0, ⟨#[]⟩, b, ⟨#[]⟩, 0, 0⟩, ⟨1, 0, 0, ⟨#[]⟩, ⟨#[]⟩, ⟨#[]⟩, 0, 0⟩] _ _ rfl)
      have hba : Below wb.heap.size wb (wb.alloc (.cells #[.int .i8 29, .int .i64 1, .int .i64 0, .string ⟨#[]⟩, .string b, .string ⟨#[]⟩, .int .i64 0, .int .i64 0, .int .i8 1, .int .i64 0, .int .i64 0, .string ⟨#[]⟩, .string ⟨#[]⟩, .string ⟨#[]⟩, .int .i64 0, .int .i64 0] 41)) := (Below.refl _ _).alloc (Nat.le_refl _) _
      have HB7a := Lib.hid (below_later hba HB6.out)
      clear hba
      refine (tCheck_any _ _ _ HNA.out (HS.out.later HB7a.out) S14.out.1 S14.out.2).mono ?_
      rw [E14.out]
      rintro e wb ⟨rfl, hbb⟩
      have HB7 := Lib.hid (below_later hbb HB7a.out)
      clear hbb HB7a HB6 HNA
      go_wp2_with fail
      have HNA : Hid (Nodes (wb.alloc (.cells #[.int .i8 29, .int .i64 1, .int .i64 0, .string ⟨#[]⟩, .string ((⟨#[108]⟩ : ByteArray) ++ b), .string ⟨#[]⟩, .int .i64 0, .int .i64 0, .int .i8 1, .int .i64 0, .int .i64 0, .string ⟨#[]⟩, .string ⟨#[]⟩, .string ⟨#[]⟩, .int .i64 0, .int .i64 0] 41)) (.slice (some ⟨wb.heap.size, 0, none⟩) 2 2) [⟨29, 1, 0, ⟨#[]⟩, (⟨#[108]⟩ : ByteArray) ++ b, ⟨#[]⟩, 0, 0⟩, ⟨1, 0, 0, ⟨#[]⟩, ⟨#[]⟩, ⟨#[]⟩, 0, 0⟩]) := Lib.hid (lit_nodes wb [⟨29, 1, 0, ⟨#[]⟩, (⟨#[108]⟩ : ByteArray) ++ b, ⟨#[]⟩, 0, 0⟩, ⟨1, 0, 0, ⟨#[]⟩, ⟨#[]⟩, ⟨#[]⟩, 0, 0⟩] _ _ rfl)
      have hba : Below wb.heap.size wb (wb.alloc (.cells #[.int .i8 29, .int .i64 1, .int .i64 0, .string ⟨#[]⟩, .string ((⟨#[108]⟩ : ByteArray) ++ b), .string ⟨#[]⟩, .int .i64 0, .int .i64 0, .int .i8 1, .int .i64 0, .int .i64 0, .string ⟨#[]⟩, .string ⟨#[]⟩, .string ⟨#[]⟩, .int .i64 0, .int .i64 0] 41)) := (Below.refl _ _).alloc (Nat.le_refl _) _
      have HB8a := Lib.hid (below_later hba HB7.out)
      clear hba
      refine (tCheck_any _ _ _ HNA.out (HS.out.later HB8a.out) S15.out.1 S15.out.2).mono ?_
      rw [E15.out]
      rintro e wb ⟨rfl, hbb⟩
      have HB8 := Lib.hid (below_later hbb HB8a.out)
      clear hbb HB8a HB7 HNA
      go_wp2_with fail
      refine (works_any _ (HS.out.later HB8.out)).mono ?_
      rintro e wb ⟨rfl, hbb⟩
      have HB9 := Lib.hid (below_later hbb HB8.out)
      clear hbb
      go_wp2_with fail
      go_ret
      exact Makes.mk rfl HB9.out
end Go.Proofs.YtebameiaeldfiaaDoor


/- How a number is written, by the document. -/
import Derived.Test.YtacihffkjadbbaaGreatDoorR4W
import Derived.Test.YtacihffkjadbbaaGreatDoorTxT
namespace Culp.Tx
set_option linter.unusedSimpArgs false
set_option linter.unusedVariables false
theorem tens_step {f k : Nat} (h : k < 10 ^ f) (h0 : k ≠ 0) : ∃ f', f = f' + 1 ∧ k / 10 < 10 ^ f' ∧ tens f k = tens f' (k / 10) ++ [UInt8.ofNat (48 + k % 10)] := by
  cases f with
  | zero => simp at h; omega
  | succ f =>
    rw [Nat.pow_succ] at h
    exact ⟨f, rfl, by omega, by rw [tens, if_neg h0]⟩
end Culp.Tx
namespace Go.Proofs.YtacihffkjadbbaaGreatDoor
open Go.RowKit Go.Maps Culp
theorem one_row (w : World) (x : UInt8) : (convert 70 9 (.slice (some ⟨w.heap.size, 0, none⟩) 1 1)).run Tryz.prog (w.alloc (.cells #[byteV x] 5)) = .ok (.string (bs [x])) (w.alloc (.cells #[byteV x] 5)) :=
  text_at (w.alloc (.cells #[byteV x] 5)) w.heap.size 1 [x] (by
    intro i hi
    have h0 : i = 0 := by rw [bs_size] at hi; simpa using hi
    subst h0
    exact World.cell?_alloc_at _ _ _ _ rfl)
theorem byte_dig (k : Nat) : byteV (UInt8.ofNat (48 + k % 10)) = .int .u8 (48 + (k : Int) % 10) := by
  unfold byteV
  rw [UInt8.toNat_ofNat']
  congr 1
  omega
set_option maxRecDepth 100000 in
set_option maxHeartbeats 1600000 in
theorem Decimal_any (n : Nat) (w : World) (hn : n ≤ 9223372036854775807) : Calls Tryz.prog 107 #[.int .i64 n] w (Makes (.string (bs (Tx.decimal n))) w) := by
  by_cases h0 : n = 0
  · subst h0
    go_enter Tryz.func107, Tryz.ntmps107
    go_wp2
    go_ret
    exact Makes.mk rfl (Below.refl _ _)
  have HD : Hid (Tx.decimal n = Tx.tens 20 n) := Lib.hid (by unfold Tx.decimal; rw [if_neg h0])
  have e0 := neq_lit (n := n) (z := 0) (by omega)
  have e1 := ne_lit (n := n) (z := 0) (by omega)
  have hp : n < 10 ^ 20 := by omega
  have HP := Lib.hid hp
  clear h0 hp
  go_enter Tryz.func107, Tryz.ntmps107
  go_wp2_with fail
  go_loopw [3, 4] (fun sv mv wr => ∃ (k f : Nat) (r : List UInt8), sv = .string (bs r) ∧ mv = .int .u64 k ∧ k ≤ 9223372036854775807 ∧ r.length ≤ 20 ∧ Hid (r.length + f = 20) ∧ Hid (k < 10 ^ f) ∧ Hid (Tx.tens 20 n = Tx.tens f k ++ r) ∧ Hid (Below w.heap.size w wr)) (fun _ mv _ => (intOf mv).toNat)
  case atStart => exact ⟨n, 20, [], rfl, rfl, hn, by simp, Lib.hid rfl, HP, Lib.hid (by simp), Lib.hid (Below.refl _ _)⟩
  case round =>
    clear HP
    obtain ⟨k, f, r, rfl, rfl, hk, hr, HF, HK, HT, HB⟩ := hrel
    by_cases hk0 : k = 0
    · have HE : Hid (Tx.decimal n = r) := Lib.hid (by rw [HD.out, HT.out, hk0]; cases f <;> simp [Tx.tens])
      have hkz : ¬ 0 < k := by omega
      clear hk0 hk
      go_wp2_with fail
      go_ret
      exact Makes.mk (by rw [HE.out]; rfl) HB.out
    · obtain ⟨f', rfl, hk2, ht⟩ := Tx.tens_step HK.out hk0
      have hz : (bs r).size ≤ 20 := by rw [bs_size]; exact hr
      have hkp : 0 < k := by omega
      have HT2 := Lib.hid ht
      have HK2 := Lib.hid hk2
      have hq : k % 10 < 10 := Nat.mod_lt _ (by decide)
      have hcv := one_row wr (UInt8.ofNat (48 + k % 10))
      rw [byte_dig] at hcv
      have hbw : Below w.heap.size w (wr.alloc (.cells #[.int .u8 (48 + (k : Int) % 10)] 5)) := HB.out.alloc HB.out.size _
      have HB2 := Lib.hid hbw
      clear ht hk2 hk0 hbw
      generalize UInt8.ofNat (48 + k % 10) = x at *
      have hz1 : (bs [x]).size = 1 := rfl
      go_wp2_with fail
      rw [bs_app]
      go_roundw
      case rel =>
        refine ⟨k / 10, f', x :: r, rfl, by go_num, by omega, ?_, Lib.hid ?_, HK2, Lib.hid ?_, HB2⟩
        · have := HF.out; simp; omega
        · have := HF.out; simp; omega
        · rw [HT.out, HT2.out]; simp
      case measure => simp [intOf]; omega
end Go.Proofs.YtacihffkjadbbaaGreatDoor

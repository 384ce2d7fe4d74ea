/- Walks of the reference of package text: numbers. -/
import Derived.Test.YtenbecjnlgmkeaaDoorTxB
namespace Go.Proofs.YtenbecjnlgmkeaaDoor
set_option linter.unusedSimpArgs false
set_option linter.unusedVariables false
open Go.RowKit Culp

theorem value_lt : ∀ l : List UInt8, l.all Tx.digit = true → Tx.value l < 10 ^ l.length := by
  refine Tx.snoc_ind ?_ ?_
  · intro _; decide
  · intro l c ih h
    rw [List.all_append, Bool.and_eq_true] at h
    have := ih h.1
    have hd : Tx.digit c = true := by simpa using h.2
    have := digit_low hd
    rw [Tx.value_snoc, List.length_append, List.length_singleton, Nat.pow_succ]
    omega
theorem worth_long {l : List UInt8} (h : 19 < l.length) : Tx.worth l = none := by
  cases hw : Tx.worth l with
  | none => rfl
  | some n =>
    obtain ⟨h0, h1, h2, h3⟩ := Tx.worth_some hw
    have hh : ∀ c, l.head? = some c → c.toNat ≠ 48 := fun c hc h48 => h0 ⟨by rw [hc]; congr 1; exact UInt8.toNat_inj.1 h48, by omega⟩
    have := Tx.value_ge l h1 hh (by intro e; rw [e] at h; simp at h)
    have : 10 ^ 19 ≤ 10 ^ (l.length - 1) := Nat.pow_le_pow_right (by omega) (by omega)
    omega
def WorthRes (l : List UInt8) (w : World) (e : Ending) (w' : World) : Prop := ∃ v : Int, e = .returned (.tuple #[.int .i64 v, .bool (Tx.worth l).isSome]) ∧ (∀ n, Tx.worth l = some n → v = n) ∧ w = w'
theorem WorthRes.no {l : List UInt8} {w : World} {v : Int} (h : Tx.worth l = none) : WorthRes l w (.returned (.tuple #[.int .i64 v, .bool false])) w := ⟨v, by rw [h]; rfl, (fun n hn => by rw [h] at hn; cases hn), rfl⟩
theorem WorthRes.yes {l : List UInt8} {w : World} {n : Nat} (h : Tx.worth l = some n) : WorthRes l w (.returned (.tuple #[.int .i64 (n : Int), .bool true])) w := ⟨n, by rw [h]; rfl, (fun m hm => by rw [h] at hm; injection hm with hm; rw [hm]), rfl⟩

set_option maxHeartbeats 800000 in
theorem worth_any (s : ByteArray) (w : World) (h0 : 0 < s.size) (hs : s.size ≤ 65536) :
    Calls Tryd.prog 38 #[.string s] w (WorthRes s.data.toList w) := by
  have hl := size_list s
  have hh := head_get s h0
  by_cases h19 : 19 < s.size
  · have HW := Lib.hid (worth_long (l := s.data.toList) (by rw [hl]; exact h19))
    clear hl hh
    go_enter Tryd.func38, Tryd.ntmps38
    go_wp2_with fail
    go_ret2
    exact WorthRes.no HW.out
  by_cases hz : s[0].toNat = 48 ∧ 1 < s.size
  · obtain ⟨hz, h1⟩ := hz
    have HW := Lib.hid (worth_zero (l := s.data.toList) (by rw [hh]; congr 1; exact UInt8.toNat_inj.1 hz) (by omega))
    have q : (((s[0].toNat : Nat) : Int) == 48) = true := by simp [hz]
    clear hl hh hz
    go_enter Tryd.func38, Tryd.ntmps38
    go_wp2_with fail
    go_ret2
    exact WorthRes.no HW.out
  have HZ := Lib.hid hz
  have HH := Lib.hid hh
  have HL := Lib.hid hl
  have key : ∃ b : Bool, (((s[0].toNat : Nat) : Int) == 48) = b ∧ (b = true → s.size = 1) := by
    refine ⟨_, rfl, fun h => ?_⟩
    simp at h
    omega
  clear hl hh hz
  obtain ⟨b, q, hb⟩ := key
  have fin : ∀ (k : Nat), s.size ≤ k → (s.data.toList.take k).all Tx.digit = true → (Tx.value (s.data.toList.take k) ≤ 9223372036854775807 → Tx.worth s.data.toList = some (Tx.value (s.data.toList.take k))) ∧ (¬ Tx.value (s.data.toList.take k) ≤ 9223372036854775807 → Tx.worth s.data.toList = none) := by
    intro k hk ha
    rw [List.take_of_length_le (by rw [HL.out]; omega)] at ha ⊢
    refine ⟨fun hv => Tx.worth_mk ?_ ha hv, fun hv => worth_big (by omega)⟩
    rintro ⟨a1, a2⟩
    rw [HH.out] at a1
    rw [HL.out] at a2
    injection a1 with a1
    exact HZ.out ⟨by rw [a1]; rfl, a2⟩
  have HF := Lib.hid fin
  clear fin
  have h1 : b = true → s.size ≤ 1 := fun h => by rw [hb h]; omega
  clear hb
  cases b
  case' true => have h1 := h1 rfl
  case' false => clear h1
  all_goals
    go_enter Tryd.func38, Tryd.ntmps38
    go_wp2_with fail
    go_loop [4, 5] (fun n i => ∃ k : Nat, k ≤ s.size ∧ i = .int .i64 k ∧ n = .int .u64 (Tx.value (s.data.toList.take k) : Nat) ∧ Hid ((s.data.toList.take k).all Tx.digit = true) ∧ Tx.value (s.data.toList.take k) ≤ 9999999999999999999) (fun _ i => s.size - (intOf i).toNat)
    case atStart => exact ⟨0, Nat.zero_le _, rfl, rfl, Lib.hid rfl, by simp [Tx.value]⟩
    case round =>
      obtain ⟨k, hk, rfl, rfl, HA, hv⟩ := hrel
      by_cases hlt : k < s.size
      · have hmem := mem_get s k hlt
        have HS : Hid (Tx.value (s.data.toList.take (k + 1)) = 10 * Tx.value (s.data.toList.take k) + (s[k].toNat - 48)) := Lib.hid (by rw [take_snoc' s k hlt, Tx.value_snoc])
        have HT : Hid (s.data.toList.take (k + 1) = s.data.toList.take k ++ [s[k]]) := Lib.hid (take_snoc' s k hlt)
        have HN : Hid (Tx.digit s[k] = false → Tx.worth s.data.toList = none) := Lib.hid (fun h => worth_char (not_all_of hmem h))
        have hv18 : Tx.value (s.data.toList.take k) ≤ 999999999999999999 := by
          have h1 := value_lt _ HA.out
          have h2 : (s.data.toList.take k).length ≤ 18 := by rw [List.length_take]; omega
          have h3 : 10 ^ (s.data.toList.take k).length ≤ 10 ^ 18 := Nat.pow_le_pow_right (by omega) h2
          omega
        clear hmem
        cases hd : Tx.digit s[k]
        · go_wp2_with fail
          refine (rdigit_any s[k] _).mono ?_
          rintro e w' ⟨rfl, rfl⟩
          go_wp2_with fail
          go_ret2
          exact WorthRes.no (HN.out hd)
        · have hb2 := digit_low hd
          have HD := Lib.hid hd
          clear hd
          go_wp2_with fail
          refine (rdigit_any s[k] _).mono ?_
          rw [HD.out]
          rintro e w' ⟨rfl, rfl⟩
          go_wp2_with fail
          go_round
          case rel =>
            refine ⟨k + 1, by omega, by go_num, ?_, Lib.hid ?_, ?_⟩
            · rw [HS.out]; exact int_congr (by omega)
            · rw [HT.out, List.all_append, HA.out]; simp [HD.out]
            · rw [HS.out]; omega
          case measure => simp [intOf]; omega
      · have HW := Lib.hid (HF.out k (by omega) HA.out)
        by_cases hm : Tx.value (s.data.toList.take k) ≤ 9223372036854775807
        · have q2 : decide (((Tx.value (s.data.toList.take k) : Nat) : Int) ≤ 9223372036854775807) = true := decide_eq_true (by omega)
          go_wp2_with fail
          go_ret2
          exact WorthRes.yes (HW.out.1 hm)
        · have q2 : decide (((Tx.value (s.data.toList.take k) : Nat) : Int) ≤ 9223372036854775807) = false := decide_eq_false (by omega)
          go_wp2_with fail
          go_ret2
          exact WorthRes.no (HW.out.2 hm)
end Go.Proofs.YtenbecjnlgmkeaaDoor

/- Walks of package text and of its reference: numbers. -/
import Derived.Test.YtenbecjnlgmkeaaDoorTxA
import Derived.IntWalk
namespace Go.Proofs.YtenbecjnlgmkeaaDoor
set_option linter.unusedSimpArgs false
set_option linter.unusedVariables false
open Go.RowKit Culp

theorem inner_low {c : UInt8} (h : Tx.inner c = true) : 48 ≤ c.toNat ∧ c.toNat ≤ 122 := by
  unfold Tx.inner Tx.letter Tx.digit at h
  simp only [Bool.or_eq_true, decide_eq_true_eq] at h
  omega
theorem digit_low {c : UInt8} (h : Tx.digit c = true) : 48 ≤ c.toNat ∧ c.toNat ≤ 57 := by
  unfold Tx.digit at h
  simpa using h
def numV (l : List UInt8) : Int := match Tx.worth l with | some n => (n : Int) | none => 0
theorem numV_some {l : List UInt8} {n : Nat} (h : Tx.worth l = some n) : numV l = n := by unfold numV; rw [h]
theorem numV_none {l : List UInt8} (h : Tx.worth l = none) : numV l = 0 := by unfold numV; rw [h]
theorem take_snoc' (s : ByteArray) (k : Nat) (h : k < s.size) : s.data.toList.take (k + 1) = s.data.toList.take k ++ [s[k]] := by
  rw [List.take_succ_eq_append_getElem (by simpa using h)]; rfl
theorem size_list (s : ByteArray) : s.data.toList.length = s.size := by simp
theorem mem_get (s : ByteArray) (k : Nat) (h : k < s.size) : s[k] ∈ s.data.toList := by
  have : s.data.toList[k]'(by simpa using h) = s[k] := rfl
  rw [← this]; exact List.getElem_mem _
theorem all_take {l : List UInt8} {p : UInt8 → Bool} (h : l.all p = true) (k : Nat) : (l.take k).all p = true := by
  rw [List.all_eq_true] at h ⊢
  exact fun x hx => h x (List.mem_of_mem_take hx)
theorem not_all_of {l : List UInt8} {p : UInt8 → Bool} {x : UInt8} (hx : x ∈ l) (h : p x = false) : ¬ l.all p = true := fun ha => by
  rw [List.all_eq_true] at ha
  rw [ha x hx] at h; cases h
theorem worth_zero {l : List UInt8} (h : l.head? = some 48) (h1 : 1 < l.length) : Tx.worth l = none := by unfold Tx.worth; rw [if_pos ⟨h, h1⟩]
theorem worth_char {l : List UInt8} (h : ¬ l.all Tx.digit = true) : Tx.worth l = none := by
  unfold Tx.worth
  split
  · rfl
  · first | rfl | rw [if_neg h]
theorem worth_big {l : List UInt8} (h : 9223372036854775807 < Tx.value l) : Tx.worth l = none := by
  unfold Tx.worth
  split
  · rfl
  · split
    · rw [if_neg (by omega)]
    · rfl
theorem head_get (s : ByteArray) (h : 0 < s.size) : s.data.toList.head? = some s[0] := by
  rw [List.head?_eq_getElem?, List.getElem?_eq_getElem (by simpa using h)]; rfl
def NumRes (l : List UInt8) (w : World) (e : Ending) (w' : World) : Prop := Gives (.tuple #[.int .i64 (numV l), .bool (Tx.worth l).isSome]) w e w'
theorem NumRes.no {l : List UInt8} {w : World} (h : Tx.worth l = none) : NumRes l w (.returned (.tuple #[.int .i64 0, .bool false])) w := Gives.mk (by rw [numV_none h, h]; rfl)
theorem NumRes.yes {l : List UInt8} {w : World} {n : Nat} (h : Tx.worth l = some n) : NumRes l w (.returned (.tuple #[.int .i64 (n : Int), .bool true])) w := Gives.mk (by rw [numV_some h, h]; rfl)

set_option maxHeartbeats 800000 in
theorem number_any (s : ByteArray) (w : World) (h0 : 0 < s.size) (hs : s.size ≤ 65536) (hin : s.data.toList.all Tx.inner = true) :
    Calls Tryd.prog 49 #[.string s] w (NumRes s.data.toList w) := by
  have HI := Lib.hid hin
  have hl := size_list s
  have hh := head_get s h0
  by_cases hz : s[0].toNat = 48 ∧ 1 < s.size
  · obtain ⟨hz, h1⟩ := hz
    have HW := Lib.hid (worth_zero (l := s.data.toList) (by rw [hh]; congr 1; exact UInt8.toNat_inj.1 hz) (by omega))
    have q : (((s[0].toNat : Nat) : Int) == 48) = true := by simp [hz]
    clear hin hl hh hz
    go_enter Tryd.func49, Tryd.ntmps49
    go_wp2_with fail
    go_ret2
    exact NumRes.no HW.out
  have HZ := Lib.hid hz
  have HH := Lib.hid hh
  have HL := Lib.hid hl
  have key : ∃ b : Bool, (((s[0].toNat : Nat) : Int) == 48) = b ∧ (b = true → s.size = 1) := by
    refine ⟨_, rfl, fun h => ?_⟩
    simp at h
    omega
  clear hin hl hh hz
  obtain ⟨b, q, hb⟩ := key
  have fin : ∀ (k : Nat), s.size ≤ k → (s.data.toList.take k).all Tx.digit = true → Tx.value (s.data.toList.take k) ≤ 9223372036854775807 → Tx.worth s.data.toList = some (Tx.value (s.data.toList.take k)) := by
    intro k hk ha hv
    rw [List.take_of_length_le (by rw [HL.out]; omega)] at ha hv ⊢
    refine Tx.worth_mk ?_ ha hv
    rintro ⟨a1, a2⟩
    rw [HH.out] at a1
    rw [HL.out] at a2
    injection a1 with a1
    exact HZ.out ⟨by rw [a1]; rfl, a2⟩
  have HF := Lib.hid fin
  clear fin
  have h1 : b = true → s.size ≤ 1 := fun h => by rw [hb h]; omega
  clear hb
  cases b
  case' true => have h1 := h1 rfl
  case' false => clear h1
  all_goals
    go_enter Tryd.func49, Tryd.ntmps49
    go_wp2_with fail
    go_loop [4, 5] (fun n i => ∃ k : Nat, k ≤ s.size ∧ i = .int .i64 k ∧ n = .int .i64 (Tx.value (s.data.toList.take k) : Nat) ∧ Hid ((s.data.toList.take k).all Tx.digit = true) ∧ Tx.value (s.data.toList.take k) ≤ 9223372036854775807) (fun _ i => s.size - (intOf i).toNat)
    case atStart => exact ⟨0, Nat.zero_le _, rfl, rfl, Lib.hid rfl, by simp [Tx.value]⟩
    case round =>
      obtain ⟨k, hk, rfl, rfl, HA, hv⟩ := hrel
      by_cases hlt : k < s.size
      · have hmem := mem_get s k hlt
        have hin := List.all_eq_true.1 HI.out _ hmem
        have hb1 := inner_low hin
        have HS : Hid (Tx.value (s.data.toList.take (k + 1)) = 10 * Tx.value (s.data.toList.take k) + (s[k].toNat - 48)) := Lib.hid (by rw [take_snoc' s k hlt, Tx.value_snoc])
        have HT : Hid (s.data.toList.take (k + 1) = s.data.toList.take k ++ [s[k]]) := Lib.hid (take_snoc' s k hlt)
        have HP : Hid (Tx.value (s.data.toList.take (k + 1)) ≤ Tx.value s.data.toList) := Lib.hid (Tx.value_pre _ _)
        have HN : Hid (Tx.digit s[k] = false → Tx.worth s.data.toList = none) := Lib.hid (fun h => worth_char (not_all_of hmem h))
        clear hin hmem
        cases hd : Tx.digit s[k]
        · go_wp2_with fail
          refine (tdigit_any s[k] _).mono ?_
          rintro e w' ⟨rfl, rfl⟩
          go_wp2_with fail
          go_ret2
          exact NumRes.no (HN.out hd)
        · have hb2 := digit_low hd
          have HD := Lib.hid hd
          clear hb1 hd
          by_cases hov : 9223372036854775807 < 10 * Tx.value (s.data.toList.take k) + (s[k].toNat - 48)
          · have HB : Hid (Tx.worth s.data.toList = none) := Lib.hid (worth_big (by have := HP.out; have := HS.out; omega))
            go_wp2_with fail
            refine (tdigit_any s[k] _).mono ?_
            rw [HD.out]
            rintro e w' ⟨rfl, rfl⟩
            go_wp2_with fail
            go_ret2
            exact NumRes.no HB.out
          · go_wp2_with fail
            refine (tdigit_any s[k] _).mono ?_
            rw [HD.out]
            rintro e w' ⟨rfl, rfl⟩
            go_wp2_with fail
            go_round
            case rel =>
              refine ⟨k + 1, by omega, by go_num, ?_, Lib.hid ?_, ?_⟩
              · rw [HS.out]; exact int_congr (by omega)
              · rw [HT.out, List.all_append, HA.out]; simp [HD.out]
              · rw [HS.out]; omega
            case measure => simp [intOf]; omega
      · have HW := Lib.hid (HF.out k (by omega) HA.out hv)
        go_wp2_with fail
        go_ret2
        exact NumRes.yes HW.out
end Go.Proofs.YtenbecjnlgmkeaaDoor

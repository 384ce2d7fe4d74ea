/- Walks of package text and of its reference: bytes. -/
import Derived.Test.YtenbecjnlgmkeaaDoorTb
import Derived.Test.YtenbecjnlgmkeaaDoorTxN
namespace Go.Proofs.YtenbecjnlgmkeaaDoor
set_option linter.unusedSimpArgs false
set_option linter.unusedVariables false
open Go.RowKit Culp

set_option maxHeartbeats 400000 in
theorem tletter_any (c : UInt8) (w : World) : Calls Tryd.prog 44 #[.int .u8 (c.toNat : Int)] w (Gives (.bool (Tx.letter c)) w) := by
  go_enter Tryd.func44, Tryd.ntmps44
  go_wp2
  all_goals
    go_ret
    refine Gives.mk (bool_congr ?_)
    unfold Tx.letter
    rw [Bool.eq_iff_iff]
    simp
    try omega
set_option maxHeartbeats 400000 in
theorem rletter_any (c : UInt8) (w : World) : Calls Tryd.prog 35 #[.int .u8 (c.toNat : Int)] w (Gives (.bool (Tx.letter c)) w) := by
  go_enter Tryd.func35, Tryd.ntmps35
  go_wp2
  all_goals
    go_ret
    refine Gives.mk (bool_congr ?_)
    unfold Tx.letter
    rw [Bool.eq_iff_iff]
    simp
    try omega
set_option maxHeartbeats 400000 in
theorem tdigit_any (c : UInt8) (w : World) : Calls Tryd.prog 48 #[.int .u8 (c.toNat : Int)] w (Gives (.bool (Tx.digit c)) w) := by
  go_enter Tryd.func48, Tryd.ntmps48
  go_wp2
  all_goals
    go_ret
    refine Gives.mk (bool_congr ?_)
    unfold Tx.digit
    rw [Bool.eq_iff_iff]
    simp
    try omega
set_option maxHeartbeats 400000 in
theorem rdigit_any (c : UInt8) (w : World) : Calls Tryd.prog 37 #[.int .u8 (c.toNat : Int)] w (Gives (.bool (Tx.digit c)) w) := by
  go_enter Tryd.func37, Tryd.ntmps37
  go_wp2
  all_goals
    go_ret
    refine Gives.mk (bool_congr ?_)
    unfold Tx.digit
    rw [Bool.eq_iff_iff]
    simp
    try omega
set_option maxHeartbeats 400000 in
theorem inner_any (c : UInt8) (w : World) : Calls Tryd.prog 45 #[.int .u8 (c.toNat : Int)] w (Gives (.bool (Tx.inner c)) w) := by
  go_enter Tryd.func45, Tryd.ntmps45
  go_wp2_with fail
  refine (tletter_any c _).mono ?_
  rintro e w' ⟨rfl, rfl⟩
  have e1 : Tx.inner c = (Tx.letter c || Tx.digit c || decide (c.toNat = 95)) := rfl
  cases h1 : Tx.letter c
  · cases h2 : Tx.digit c
    all_goals
      go_wp2_with fail
      refine (tdigit_any c _).mono ?_
      rintro e w' ⟨rfl, rfl⟩
      go_wp2_with fail
      go_ret
      refine Gives.mk (bool_congr ?_)
      rw [e1, h1, h2, Bool.eq_iff_iff]
      simp
      try omega
  · go_wp2_with fail
    go_ret
    exact Gives.mk (bool_congr (by simp [e1, h1]))
end Go.Proofs.YtenbecjnlgmkeaaDoor

/- What the statement TextTokens leans on: marks behind bytes. -/
import Derived.Test.YtenbecjnlgmkeaaDoorTyJ
namespace Culp.Tx
set_option linter.unusedSimpArgs false
set_option linter.unusedVariables false
/-- The mark at an index behind a list of bytes. -/
def markB (i : Nat) : UInt8 := UInt8.ofNat (279 + 7 * i + 3)
def marksB (n : Nat) : List UInt8 := (List.range 64).map fun k => markB (n + k)
theorem markB_nat (i : Nat) : (markB i).toNat = (279 + 7 * i + 3) % 256 := by
  unfold markB; rw [UInt8.toNat_ofNat']
theorem marksB_at {l : List UInt8} {i : Nat} (h1 : l.length ≤ i) (h2 : i < l.length + 64) : (l ++ marksB l.length)[i]? = some (markB i) := by
  rw [List.getElem?_append_right h1]
  unfold marksB
  rw [List.getElem?_map, List.getElem?_range (by omega)]
  simp only [Option.map_some, Option.some.injEq]
  congr 1
  omega
end Culp.Tx
namespace Go.Proofs.YtenbecjnlgmkeaaDoor
open Go.RowKit Go.Maps Culp

set_option maxRecDepth 100000 in
set_option maxHeartbeats 1600000 in
theorem SpareBytes_any (l : List UInt8) (g : Nat) (w : World) (hc : ∀ i u, (l ++ Tx.marksB l.length)[i]? = some u → w.cell? ⟨g, i, none⟩ = some (byteV u)) (hl : l.length ≤ 100000000000) :
    Calls Tryd.prog 16 #[.slice (some ⟨g, 0, none⟩) l.length (l.length + 64 : Nat)] w (Makes (.bool true) w) := by
  have HC := Lib.hid hc
  clear hc
  go_enter Tryd.func16, Tryd.ntmps16
  go_wp2_with fail
  go_loopw [4] (fun i wr => ∃ k : Nat, l.length ≤ k ∧ k ≤ l.length + 64 ∧ i = .int .i64 k ∧ Hid (Below w.heap.size w wr)) (fun i _ => l.length + 64 - (intOf i).toNat)
  case atStart => exact ⟨l.length, by omega, by omega, rfl, Lib.hid (Below.refl _ _)⟩
  case round =>
    obtain ⟨k, hk0, hk, rfl, HB⟩ := hrel
    by_cases hlt : k < l.length + 64
    · have c0 : wr.cell? ⟨g, k, none⟩ = some (.int .u8 (((279 + 7 * k + 3) % 256 : Nat) : Int)) := by
        rw [cell_later HB.out (HC.out k _ (Tx.marksB_at hk0 hlt))]
        show some (Value.int .u8 ((Tx.markB k).toNat : Int)) = _
        rw [Tx.markB_nat]
      have hkb : k ≤ 1000000000000 := by omega
      go_wp2_with fail
      go_roundw
      case rel => exact ⟨k + 1, by omega, by omega, by go_num, HB⟩
      case measure => simp [intOf]; omega
    · go_wp2_with fail
      go_ret
      exact Makes.mk rfl HB.out
end Go.Proofs.YtenbecjnlgmkeaaDoor

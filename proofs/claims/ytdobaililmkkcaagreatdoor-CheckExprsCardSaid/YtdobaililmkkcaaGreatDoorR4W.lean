
/- Walks of the reference's types as texts (culpritref04), and of culpritref00.Deep. -/
import Derived.Test.YtdobaililmkkcaaGreatDoorTw
namespace Go.Proofs.YtdobaililmkkcaaGreatDoor
set_option linter.unusedSimpArgs false
set_option linter.unusedVariables false
open Go.RowKit Culp

theorem byte_cases (c : UInt8) : c = 105 ∨ c = 98 ∨ c = 116 ∨ c = 63 ∨ c = 108 ∨ c = 120 ∨ c = 62 ∨ c = 44 ∨
    (ari c = none ∧ ((c.toNat : Int) == 105) = false ∧ ((c.toNat : Int) == 98) = false ∧ ((c.toNat : Int) == 116) = false ∧ ((c.toNat : Int) == 63) = false ∧
      ((c.toNat : Int) == 108) = false ∧ ((c.toNat : Int) == 120) = false ∧ ((c.toNat : Int) == 62) = false ∧ ((c.toNat : Int) == 44) = false) := by
  by_cases h1 : c = 105; · exact .inl h1
  by_cases h2 : c = 98; · exact .inr (.inl h2)
  by_cases h3 : c = 116; · exact .inr (.inr (.inl h3))
  by_cases h4 : c = 63; · exact .inr (.inr (.inr (.inl h4)))
  by_cases h5 : c = 108; · exact .inr (.inr (.inr (.inr (.inl h5))))
  by_cases h6 : c = 120; · exact .inr (.inr (.inr (.inr (.inr (.inl h6)))))
  by_cases h7 : c = 62; · exact .inr (.inr (.inr (.inr (.inr (.inr (.inl h7))))))
  by_cases h8 : c = 44; · exact .inr (.inr (.inr (.inr (.inr (.inr (.inr (.inl h8)))))))
  refine .inr (.inr (.inr (.inr (.inr (.inr (.inr (.inr ⟨?_, ?_⟩)))))))
  · simp [ari, h1, h2, h3, h4, h5, h6, h7, h8]
  · have e := fun n => u8_eq_iff c n
    have a1 := e 105; have a2 := e 98; have a3 := e 116; have a4 := e 63; have a5 := e 108; have a6 := e 120; have a7 := e 62; have a8 := e 44
    simp at a1 a2 a3 a4 a5 a6 a7 a8
    refine ⟨?_, ?_, ?_, ?_, ?_, ?_, ?_, ?_⟩ <;> rw [beq_eq_false_iff_ne] <;> simp_all

/-- What Behind answers. -/
def behindI (s : ByteArray) (k : Nat) : Int := match eatAt s k 1 with | some r => ((s.size - r.length : Nat) : Int) | none => -1
theorem behind_some {s : ByteArray} {k j : Nat} (hj : j ≤ s.size) (h : eatAt s k 1 = some (s.data.toList.drop j)) : behindI s k = j := by
  unfold behindI
  rw [h]
  have : s.data.toList.length = s.size := by simp
  simp only [List.length_drop, this]
  omega
theorem behind_none {s : ByteArray} {k : Nat} (h : eatAt s k 1 = none) : behindI s k = -1 := by unfold behindI; rw [h]





end Go.Proofs.YtdobaililmkkcaaGreatDoor

/- The law CoreCasts of culpritlaw10 holds: for every list of nodes the call returns true and leaves its argument as it was. -/
import Derived.Test.YtnmhiddahfnkoaaCsC
import Derived.Test.YtnmhiddahfnkoaaOpen
import Derived.Test.YtnmhiddahfnkoaaLaw
import Derived.Test.YtnmhiddahfnkoaaRows
namespace Go.Proofs.Ytnmhiddahfnkoaa.CoreCastsPf
set_option linter.unusedSimpArgs false
set_option linter.unusedVariables false
open Go.ChangeShapes Go.WideShapes Go.ChangeAt Go.RowKit Culp

theorem own : ownKnob Try.prog.godebug = none := by kernel_rfl
theorem laid : laidOutB Try.prog = true := by kernel_rfl

set_option maxRecDepth 100000 in
theorem lifted (os : Os) (started : os.Started) (H : Type) (enc : TypeId × Value → H) :
    ReturnsInHanded {} Try.checked os 4 .any (Rows.coreCastsSpec.pre6 enc Try.prog Try.f4 Rows.coreCastsRow.domain false) (Rows.coreCastsSpec.post enc Try.prog Try.f4 false true false false) := by
  refine returnsInHanded_of_change_sized (C := Try.checked) own started (by kernel_rfl) Try.func4
    (ChangeSpec.witness6 (enc := enc) (C := Try.checked) false ⟨#[], #[.slice none 0 0], []⟩ 8 (by kernel_rfl) (by kernel_rfl) (by kernel_rfl) (by kernel_rfl)) ?_
  intro W base args ds gs before hval0 hW hcnd hsz _
  have hval : ∀ (j : Nat) t v, Try.f4.params[j]? = some t → args[j]? = some v → Value.okWide Try.prog W .any base t v := hval0
  have hW' := hW
  obtain ⟨p, q, hA0, hV, rfl, hfz, hnd⟩ := hW
  have hA : DataW.TrodAll enc Try.prog W 0 (fun _ => true) true Try.f4.params.toList args.toList ds p := hA0
  rw [Try.params4] at hA hval
  obtain ⟨v0, vs0, d0, ds0, p0, q0, hargs, rfl, rfl, h0, r0⟩ := trodAll_cons hA
  obtain ⟨rfl, rfl, rfl⟩ := trodAll_nil r0
  obtain rfl : args = #[v0] := by cases args; simp_all
  obtain ⟨rfl, rfl⟩ := trodVars_none hV
  obtain ⟨T, hn, hTl, hd, _⟩ := open_nodes (hval 0 22 v0 rfl rfl) h0
  have hT : T.length ≤ 1000000000000000 ∧ ∀ x ∈ T, szOk x := by
    rcases hd with ⟨_, rfl⟩ | ⟨more, rfl⟩
    · exact ⟨by simp, by simp⟩
    · exact sized_nodes (j := 0) hsz rfl rfl
  refine (CoreCasts_any T v0 W hn hT.1 hT.2).mono fun e W' ⟨he, hb⟩ => ?_
  exact ⟨_, he, law_post laid (by kernel_rfl) Try.underlying4 rfl rfl hW' rfl rfl rfl hb⟩

theorem proved : Rows.CoreCastsSaid :=
  OpenClaim.holds_of_wide 4 Try.f4 rfl rfl rfl rfl rfl rfl rfl ⟨rfl, rfl, rfl, rfl, rfl⟩ rfl rfl rfl rfl rfl (by kernel_rfl) Try.func4 (by kernel_rfl)
    (of_decide_eq_true (by kernel_rfl)) (by unfold Func.isWrapper; first | (rw [if_pos (by decide +kernel)]; kernel_rfl) | (rw [if_neg (by decide +kernel)]; exact ⟨rfl, rfl⟩))
    (fun os started H enc _ => lifted os started H enc)
#print axioms proved
end Go.Proofs.Ytnmhiddahfnkoaa.CoreCastsPf

/- The law CoreOne of culpritlaw10 holds: for every two lists of nodes of at most 1048576 values and letters together the call returns true and leaves its arguments as they were. -/
import Derived.Test.YtnmhiddahfnkoaaOneA
import Derived.Test.YtnmhiddahfnkoaaOpen
import Derived.Test.YtnmhiddahfnkoaaLaw
import Derived.Test.YtnmhiddahfnkoaaRows
import Derived.Deep.CondSized
namespace Go.Proofs.Ytnmhiddahfnkoaa.CoreOnePf
set_option linter.unusedSimpArgs false
set_option linter.unusedVariables false
open Go.ChangeShapes Go.WideShapes Go.ChangeAt Go.RowKit Culp

theorem own : ownKnob Try.prog.godebug = none := by kernel_rfl
theorem laid : laidOutB Try.prog = true := by kernel_rfl

set_option maxRecDepth 100000 in
theorem lifted (os : Os) (started : os.Started) (H : Type) (enc : TypeId × Value → H) (F : Stop.Interp) :
    ReturnsInHanded {} Try.checked os 5 .any ((Rows.OpenSpec.upto Rows.coreOneSpec).pre6 enc Try.prog Try.f5 Rows.coreOneUptoRow.domain false) (((Rows.OpenSpec.upto Rows.coreOneSpec).at F).post enc Try.prog Try.f5 false true false false) := by
  refine returnsInHanded_of_cond_sized (C := Try.checked) (s := Rows.OpenSpec.upto Rows.coreOneSpec) (k := Rows.uptoSmall) rfl own started (by kernel_rfl) Try.func5
    (OpenSpec.witness (enc := enc) (C := Try.checked) (s := Rows.OpenSpec.upto Rows.coreOneSpec) (k := Rows.uptoSmall) rfl false ⟨#[], #[.slice none 0 0, .slice none 0 0], []⟩ 8 (by kernel_rfl) (by kernel_rfl) (by kernel_rfl)
      (x := ([.nil, .nil], [], [])) (by kernel_rfl) rfl (by kernel_rfl)) ?_
  intro W base args ds gs before hval0 hW hcnd _ hsz _
  have hval : ∀ (j : Nat) t v, Try.f5.params[j]? = some t → args[j]? = some v → Value.okWide Try.prog W .any base t v := hval0
  have hW' := hW
  obtain ⟨p, q, hA0, hV, rfl, hfz, hnd⟩ := hW
  have hA : DataW.TrodAll enc Try.prog W 0 (fun _ => true) true Try.f5.params.toList args.toList ds p := hA0
  rw [Try.params5] at hA hval
  obtain ⟨v0, vs0, d0, ds0, p0, q0, hargs, rfl, rfl, h0, r0⟩ := trodAll_cons hA
  obtain ⟨v1, vs1, d1, ds1, p1, q1, hargs1, rfl, rfl, h1, r1⟩ := trodAll_cons r0
  obtain ⟨rfl, rfl, rfl⟩ := trodAll_nil r1
  subst hargs1
  obtain rfl : args = #[v0, v1] := by cases args; simp_all
  obtain ⟨rfl, rfl⟩ := trodVars_none hV
  obtain ⟨T, hn, hTl, hd, _⟩ := open_nodes (hval 0 22 v0 rfl rfl) h0
  obtain ⟨U, hm, hUl, hd2, _⟩ := open_nodes (hval 1 22 v1 rfl rfl) h1
  have hT : T.length ≤ 1000000000000000 ∧ ∀ x ∈ T, szOk x := by
    rcases hd with ⟨_, rfl⟩ | ⟨more, rfl⟩
    · exact ⟨by simp, by simp⟩
    · exact sized_nodes (j := 0) hsz rfl rfl
  have hU : U.length ≤ 1000000000000000 ∧ ∀ x ∈ U, szOk x := by
    rcases hd2 with ⟨_, rfl⟩ | ⟨more, rfl⟩
    · exact ⟨by simp, by simp⟩
    · exact sized_nodes (j := 1) hsz rfl rfl
  refine (CoreOne_any T U v0 v1 W hn hm hT.1 hU.1 hT.2 hU.2).mono fun e W' ⟨he, hb⟩ => ?_
  exact ⟨_, he, law_post laid (by kernel_rfl) Try.underlying4 rfl rfl hW' rfl rfl rfl hb⟩

theorem proved : Rows.CoreOneUptoSaid :=
  OpenClaim.holds_of_cond 5 Try.f5 rfl rfl rfl rfl rfl rfl rfl ⟨rfl, rfl, rfl, rfl, rfl⟩ rfl rfl rfl rfl rfl (by kernel_rfl) Try.func5 (by kernel_rfl)
    (of_decide_eq_true (by kernel_rfl)) (by unfold Func.isWrapper; first | (rw [if_pos (by decide +kernel)]; kernel_rfl) | (rw [if_neg (by decide +kernel)]; exact ⟨rfl, rfl⟩))
    (fun os started H enc _ F => lifted os started H enc F)
#print axioms proved
end Go.Proofs.Ytnmhiddahfnkoaa.CoreOnePf

/-
  No cell of these rows narrows 'for every input' (looked for: loops, veiled, ifaces, maps, wideKeys, modest, calm, conditions, laid).
  DERIVED. THE GIVEN ROWS OF THIS SEAT. 3 by the template 'for every input the law returns true; each argument reads behind the call as it read before'; 0 by the template 'total and deterministic' (their statements: YtnmhiddahfnkoaaTotals.lean).
  GIVEN WITH THE SEED: the statements are not yours to turn. If you find one false, say at which input.
  Laid BY PROGRAM, IN A SANDBOX (cutbox-rows.mjs): the forced cells as the released guide's own fill.sh prints them over the translation 23ac932610b35d23… (all of the seat's roots in one cut). By AI agents, Wed Nov 11 2026. No macro, syntax, notation, axiom, sorry.
-/
import Derived.Test.YtnmhiddahfnkoaaChecked
import GoSem.Claim
import GoSem.ClaimJoined
import GoSem.ClaimMapViews
import Derived.JoinedTies
import Derived.KernelRfl
namespace Go.Proofs.Ytnmhiddahfnkoaa
/- THE CELL 'sum', in the pinned program and in every row, IS THE sha256 OF THE DUMP (.gsa) THAT YtnmhiddahfnkoaaProg.lean LOADS. Nothing in Lean hashes anything: it is a label: what it is worth is what the hold of that sum in a sandbox is worth. -/
noncomputable def Try.pinned : Pinned := { name := "ytnmhiddahfnkoaa", sum := "23ac932610b35d230540c193a8abf78046b66c4f7cf3e9acb5cc2d27fbf50302", checked := Try.checked }
namespace Rows
def none {H : Type} : Left H := { results := [], args := [] }

/-- 'culpritlaw10.CoreChecks': WHATEVER THE INPUT: true; the input reads as it did. -/
def coreChecksSpec : ChangeSpec := { name := "coreChecks", fn := fun _ => fun
  | [d] => { results := [.lit (.bool true)], args := [d] }
  | _ => none }
def coreChecksRow : OpenClaim := { program := "ytnmhiddahfnkoaa", sum := "23ac932610b35d230540c193a8abf78046b66c4f7cf3e9acb5cc2d27fbf50302", func := "culprit/culpritlaw10.CoreChecks", spec := "coreChecks", unfollowed := true, recurses := true, apart := false }
def CoreChecksSaid : Prop := coreChecksRow.holds Try.pinned (OpenSpec.ofChange coreChecksSpec)

/-- ITS FALSE NEIGHBOUR: 'it returns false'. Refute it at one input. -/
def coreChecksWrong : ChangeSpec := { name := "coreChecks", fn := fun _ => fun
  | [d] => { results := [.lit (.bool false)], args := [d] }
  | _ => none }
def CoreChecksWrongFalsely : Prop := coreChecksRow.holds Try.pinned (OpenSpec.ofChange coreChecksWrong)

/-- 'culpritlaw10.CoreCasts': WHATEVER THE INPUT: true; the input reads as it did. -/
def coreCastsSpec : ChangeSpec := { name := "coreCasts", fn := fun _ => fun
  | [d] => { results := [.lit (.bool true)], args := [d] }
  | _ => none }
def coreCastsRow : OpenClaim := { program := "ytnmhiddahfnkoaa", sum := "23ac932610b35d230540c193a8abf78046b66c4f7cf3e9acb5cc2d27fbf50302", func := "culprit/culpritlaw10.CoreCasts", spec := "coreCasts", unfollowed := true, recurses := true, apart := false }
def CoreCastsSaid : Prop := coreCastsRow.holds Try.pinned (OpenSpec.ofChange coreCastsSpec)

/-- ITS FALSE NEIGHBOUR: 'it returns false'. Refute it at one input. -/
def coreCastsWrong : ChangeSpec := { name := "coreCasts", fn := fun _ => fun
  | [d] => { results := [.lit (.bool false)], args := [d] }
  | _ => none }
def CoreCastsWrongFalsely : Prop := coreCastsRow.holds Try.pinned (OpenSpec.ofChange coreCastsWrong)

/-- 'culpritlaw10.CoreOne': WHATEVER THE INPUT: true; the input reads as it did. -/
def coreOneSpec : ChangeSpec := { name := "coreOne", fn := fun _ => fun
  | [d1, d2] => { results := [.lit (.bool true)], args := [d1, d2] }
  | _ => none }
def coreOneRow : OpenClaim := { program := "ytnmhiddahfnkoaa", sum := "23ac932610b35d230540c193a8abf78046b66c4f7cf3e9acb5cc2d27fbf50302", func := "culprit/culpritlaw10.CoreOne", spec := "coreOne", unfollowed := true, recurses := true, apart := false }
def CoreOneSaid : Prop := coreOneRow.holds Try.pinned (OpenSpec.ofChange coreOneSpec)

/-- ITS FALSE NEIGHBOUR: 'it returns false'. Refute it at one input. -/
def coreOneWrong : ChangeSpec := { name := "coreOne", fn := fun _ => fun
  | [d1, d2] => { results := [.lit (.bool false)], args := [d1, d2] }
  | _ => none }
def CoreOneWrongFalsely : Prop := coreOneRow.holds Try.pinned (OpenSpec.ofChange coreOneWrong)

/- THE SECOND FORM. 'bulk': how many values and letters a reading holds, each counted each time it is reached (what is shared counts as often as it is met; a slice's spare places count too). A statement '..UptoSaid' is the law's where the arguments, and the package variables that the reading takes, are together of bulk at most 1048576: NARROWER than '..Said'. Prove '..Said' where nothing that the law and all that it calls make is longer than what came in: it says more and counts as full. Else prove '..UptoSaid'. A law counts once. -/
mutual
def uptoBulk {H : Type} : DataW H → Nat
  | .lit (.string bytes) => bytes.length + 1
  | .lit _ => 1
  | .nil => 1
  | .ptr d => uptoBulk d + 1
  | .slice elems spare => uptoBulkAll elems + uptoBulkAll spare + 1
  | .agg parts => uptoBulkAll parts + 1
  | .iface _ d => uptoBulk d + 1
  | .map entries => uptoBulkEntries entries + 1
  | .held _ => 1
def uptoBulkAll {H : Type} : List (DataW H) → Nat
  | [] => 0
  | d :: r => uptoBulk d + uptoBulkAll r
def uptoBulkEntries {H : Type} : List (Lit × DataW H) → Nat
  | [] => 0
  | x :: r => uptoBulkEntry x + uptoBulkEntries r
def uptoBulkEntry {H : Type} : Lit × DataW H → Nat
  | (.string bytes, d) => bytes.length + uptoBulk d + 1
  | (_, d) => uptoBulk d + 1
 end
def uptoSmall : (H : Type) → List (DataW H) → Bool := fun _ ds => decide (uptoBulkAll ds ≤ 1048576)
def OpenSpec.upto (s : _root_.Go.ChangeSpec) : _root_.Go.OpenSpec := { _root_.Go.OpenSpec.ofChange s with cond := some uptoSmall }

/-- 'culpritlaw10.CoreChecks', WHERE WHAT IT READS IS OF BULK AT MOST 1048576: true; the input reads as it did. -/
def coreChecksUptoRow : OpenClaim := { program := "ytnmhiddahfnkoaa", sum := "23ac932610b35d230540c193a8abf78046b66c4f7cf3e9acb5cc2d27fbf50302", func := "culprit/culpritlaw10.CoreChecks", spec := "coreChecks", unfollowed := true, recurses := true, apart := false, narrowed := true }
def CoreChecksUptoSaid : Prop := coreChecksUptoRow.holds Try.pinned (OpenSpec.upto coreChecksSpec)

/-- 'culpritlaw10.CoreCasts', WHERE WHAT IT READS IS OF BULK AT MOST 1048576: true; the input reads as it did. -/
def coreCastsUptoRow : OpenClaim := { program := "ytnmhiddahfnkoaa", sum := "23ac932610b35d230540c193a8abf78046b66c4f7cf3e9acb5cc2d27fbf50302", func := "culprit/culpritlaw10.CoreCasts", spec := "coreCasts", unfollowed := true, recurses := true, apart := false, narrowed := true }
def CoreCastsUptoSaid : Prop := coreCastsUptoRow.holds Try.pinned (OpenSpec.upto coreCastsSpec)

/-- 'culpritlaw10.CoreOne', WHERE WHAT IT READS IS OF BULK AT MOST 1048576: true; the input reads as it did. -/
def coreOneUptoRow : OpenClaim := { program := "ytnmhiddahfnkoaa", sum := "23ac932610b35d230540c193a8abf78046b66c4f7cf3e9acb5cc2d27fbf50302", func := "culprit/culpritlaw10.CoreOne", spec := "coreOne", unfollowed := true, recurses := true, apart := false, narrowed := true }
def CoreOneUptoSaid : Prop := coreOneUptoRow.holds Try.pinned (OpenSpec.upto coreOneSpec)

end Rows
end Go.Proofs.Ytnmhiddahfnkoaa

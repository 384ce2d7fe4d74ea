
/- Walks of trees, the document's: which nodes may be: all kinds. -/
import Derived.Test.YtebameiaeldfiaaGreatDoorTrF
import Derived.Test.YtebameiaeldfiaaGreatDoorTrFa
import Derived.Test.YtebameiaeldfiaaGreatDoorTrFb
import Derived.Test.YtebameiaeldfiaaGreatDoorTrFc
import Derived.Test.YtebameiaeldfiaaGreatDoorTrD
namespace Go.Proofs.YtebameiaeldfiaaGreatDoor
set_option linter.unusedSimpArgs false
set_option linter.unusedVariables false
open Go.RowKit Go.Maps Culp

/-- May a node stand in a source's tree, as the document says. -/
theorem rmay_any (x : Nd) (w : World) (hz : x.s.size ≤ 140737488351232) : Calls Tryz.prog 66 #[x.val] w (Makes (.bool (Tr.may x)) w) := by
  obtain ⟨k, kd, n, s, t, u, l, c⟩ := x
  by_cases h1 : k = 1
  · subst h1; exact rmay_num kd n s t u l c w
  by_cases h2 : k = 2
  · subst h2; exact rmay_str kd n s t u l c w hz
  by_cases h3 : k = 3
  · subst h3; exact rmay_truth kd n s t u l c w
  by_cases h4 : k = 4
  · subst h4; exact rmay_var kd n s t u l c w hz
  by_cases h5 : k = 5
  · subst h5; exact rmay_fn kd n s t u l c w hz
  by_cases h6 : k = 6
  · subst h6; exact rmay_rec kd n s t u l c w hz
  by_cases h8 : k = 8
  · subst h8; exact rmay_let kd n s t u l c w hz
  by_cases h29 : k = 29
  · subst h29; exact rmay_as kd n s t u l c w
  by_cases h21 : k = 21
  · subst h21; exact rmay_list kd n s t u l c w
  exact rmay_other k kd n s t u l c w (beq_no h1) (beq_no h2) (beq_no h3) (beq_no h4) (beq_no h5) (beq_no h6) (beq_no h8) (beq_no h29) (beq_no h21)
end Go.Proofs.YtebameiaeldfiaaGreatDoor

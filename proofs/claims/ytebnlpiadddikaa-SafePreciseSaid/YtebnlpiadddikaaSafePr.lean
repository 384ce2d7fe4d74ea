/- Plain: precision is safety on two sides. -/
import Derived.Test.YtebnlpiadddikaaSafe
import Derived.Test.YtebnlpiadddikaaRel
namespace Culp
set_option linter.unusedSimpArgs false
set_option linter.unusedVariables false
theorem precise_two (s : Ty) : ∀ t : Ty, cons s t = true → prec s t = (sp s t && sm t s) ∧ prec t s = (sp t s && sm s t) := by
  induction s with
  | dyn =>
    intro t _
    cases t <;> simp [prec, sp_succ, sd]
  | int => intro t h; cases t <;> simp [cons] at h <;> simp [prec, sp_succ, sm_succ, sd]
  | bool => intro t h; cases t <;> simp [cons] at h <;> simp [prec, sp_succ, sm_succ, sd]
  | text => intro t h; cases t <;> simp [cons] at h <;> simp [prec, sp_succ, sm_succ, sd]
  | fn a b iha ihb =>
    intro t h
    cases t <;> simp [cons] at h
    case dyn => simp [prec, sp_succ .dyn, sd]
    case fn c d =>
      obtain ⟨h1, h2⟩ := iha c h.1
      obtain ⟨h3, h4⟩ := ihb d h.2
      simp only [prec, sp_fn, sm_fn, h1, h2, h3, h4]
      constructor
      · cases sp a c <;> cases sm c a <;> cases sp b d <;> cases sm d b <;> rfl
      · cases sp c a <;> cases sm a c <;> cases sp d b <;> cases sm b d <;> rfl
  | pair a b iha ihb =>
    intro t h
    cases t <;> simp [cons] at h
    case dyn => simp [prec, sp_succ .dyn, sd]
    case pair c d =>
      obtain ⟨h1, h2⟩ := iha c h.1
      obtain ⟨h3, h4⟩ := ihb d h.2
      simp only [prec, sp_pair, sm_pair, h1, h2, h3, h4]
      constructor
      · cases sp a c <;> cases sm c a <;> cases sp b d <;> cases sm d b <;> rfl
      · cases sp c a <;> cases sm a c <;> cases sp d b <;> cases sm b d <;> rfl
  | list a iha =>
    intro t h
    cases t <;> simp [cons] at h
    case dyn => simp [prec, sp_succ .dyn, sd]
    case list c =>
      obtain ⟨h1, h2⟩ := iha c h
      simp only [prec, sp_list, sm_list, h1, h2, and_self]
  | box a iha =>
    intro t h
    cases t <;> simp [cons] at h
    case dyn => simp [prec, sp_succ .dyn, sd]
    case box c =>
      obtain ⟨h1, h2⟩ := iha c h
      simp only [prec, sp_box, sm_box, h1, h2]
      constructor
      · cases sp a c <;> cases sm c a <;> rfl
      · cases sp c a <;> cases sm a c <;> rfl
end Culp

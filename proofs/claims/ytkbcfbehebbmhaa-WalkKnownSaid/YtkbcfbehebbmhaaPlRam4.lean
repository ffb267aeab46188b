/- Memory: where tags are, as an answer. -/
import Derived.Test.YtkbcfbehebbmhaaVl11e
import Derived.Test.YtkbcfbehebbmhaaPlRamT
set_option linter.unusedSimpArgs false
set_option linter.unusedVariables false
set_option linter.unnecessarySimpa false
namespace Go.Sx
open Go
def mrgCps : ECps MrgS MrgR := fun R x K => match x with
  | .a n tg m d => cond (g_tag n tg m d) (cond (v_emp (v_tagged tg n)) (K (.z n tg m d)) (K (.s n tg m d (v_tagged tg n).length (v_tagged tg n).length (v_tagged tg n)))) none
theorem mrgCps_ok : ECok mrgStep mrgCps := by
  intro R x K r h
  cases x with
  | a n tg m d =>
    obtain ⟨hg, hk⟩ := condK h
    simp only [mrgStep, hg, Bool.and_true, cond_true]
    cases he : v_emp (v_tagged tg n) with
    | true => rw [he] at hk; exact ⟨_, rfl, hk⟩
    | false => rw [he] at hk; exact ⟨_, rfl, hk⟩
end Go.Sx

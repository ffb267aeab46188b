/- A walk, as an answer: all its ways. -/
import Derived.Test.YtkbcfbehebbmhaaVl21a
set_option linter.unusedSimpArgs false
set_option linter.unusedVariables false
set_option linter.unnecessarySimpa false
namespace Go.Sx
open Go
noncomputable def mwkCps : ECps MwkS MwkR := fun R x K => match mwkStep x with
  | some z => K z
  | none => none
theorem mwkCps_ok : ECok mwkStep mwkCps := by
  intro R x K r h
  unfold mwkCps at h
  cases hz : mwkStep x with
  | none => rw [hz] at h; cases h
  | some z => rw [hz] at h; exact ⟨z, rfl, h⟩
end Go.Sx

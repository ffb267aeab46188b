/- Memory: numbers of bytes. -/
import Derived.Test.YtkbcfbehebbmhaaVl11b
import Derived.Test.YtkbcfbehebbmhaaPlRam
set_option linter.unusedSimpArgs false
set_option linter.unusedVariables false
set_option linter.unnecessarySimpa false
namespace Go.Sx
open Go
def mpuCps : ECps MpuS MpuR := fun R x K => match x with
  | .a m d o n v => cond (g_put m d o n) (K (.a m (v_put d o n v))) none
theorem mpuCps_ok : ECok mpuStep mpuCps := by
  intro R x K r h
  cases x with
  | a m d o n v =>
    obtain ⟨hg, hk⟩ := condK h
    refine ⟨_, ?_, hk⟩
    simp only [mpuStep, hg, beq_self_eq_true, Bool.and_true, cond_true]
def mgeCps : ECps MgeS MgeR := fun R x K => match x with
  | .s rw m d o n => cond (g_get m o n) (K (.s rw m d (v_get d o n))) none
  | .z => K (.z 0#64)
theorem mgeCps_ok : ECok mgeStep mgeCps := by
  intro R x K r h
  cases x with
  | s rw m d o n =>
    obtain ⟨hg, hk⟩ := condK h
    refine ⟨_, ?_, hk⟩
    simp only [mgeStep, hg, beq_self_eq_true, Bool.and_true, cond_true]
  | z => exact ⟨_, rfl, h⟩
end Go.Sx

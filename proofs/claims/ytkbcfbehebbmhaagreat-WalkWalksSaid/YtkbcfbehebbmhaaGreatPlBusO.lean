/- Are bytes in a region? -/
import Derived.Test.YtkbcfbehebbmhaaGreatVl15a
set_option linter.unusedSimpArgs false
set_option linter.unusedVariables false
set_option linter.unnecessarySimpa false
namespace Go.Sx
open Go
/-- Are so many bytes from pa on in a region? -/
def v_reg (bg sz pa size : BitVec 64) : Bool := bg.ule pa && ((0#64).sle size && ((pa - bg).ule sz && size.ule (sz - (pa - bg))))
def mboCps : ECps MboS MboR := fun R x K => match x with
  | .r n tg m d t2 bg sz pa size => K (.r n tg m d (pa - bg) (v_reg bg sz pa size))
  | .c c0 c1 c2 t2 bg sz pa size => K (.c c0 c1 c2 (pa - bg) (v_reg bg sz pa size))
  | .p pr p1 p2 en th t2 bg sz pa size => K (.p pr p1 p2 en th (pa - bg) (v_reg bg sz pa size))
  | .u q u1 u2 u3 t2 bg sz pa size => K (.u q u1 u2 u3 (pa - bg) (v_reg bg sz pa size))
  | .w w t2 bg sz pa size => K (.w w (pa - bg) (v_reg bg sz pa size))
theorem mboCps_ok : ECok mboStep mboCps := by
  intro R x K r h
  cases x with
  | r n tg m d t2 bg sz pa size =>
    refine ⟨_, ?_, h⟩
    simp only [mboStep, v_reg, BitVec.setWidth_eq, BitVec.signExtend_eq]
    cases bg.ule pa <;> cases (0#64).sle size <;> cases (pa - bg).ule sz <;> rfl
  | c c0 c1 c2 t2 bg sz pa size =>
    refine ⟨_, ?_, h⟩
    simp only [mboStep, v_reg, BitVec.setWidth_eq, BitVec.signExtend_eq]
    cases bg.ule pa <;> cases (0#64).sle size <;> cases (pa - bg).ule sz <;> rfl
  | p pr p1 p2 en th t2 bg sz pa size =>
    refine ⟨_, ?_, h⟩
    simp only [mboStep, v_reg, BitVec.setWidth_eq, BitVec.signExtend_eq]
    cases bg.ule pa <;> cases (0#64).sle size <;> cases (pa - bg).ule sz <;> rfl
  | u q u1 u2 u3 t2 bg sz pa size =>
    refine ⟨_, ?_, h⟩
    simp only [mboStep, v_reg, BitVec.setWidth_eq, BitVec.signExtend_eq]
    cases bg.ule pa <;> cases (0#64).sle size <;> cases (pa - bg).ule sz <;> rfl
  | w w t2 bg sz pa size =>
    refine ⟨_, ?_, h⟩
    simp only [mboStep, v_reg, BitVec.setWidth_eq, BitVec.signExtend_eq]
    cases bg.ule pa <;> cases (0#64).sle size <;> cases (pa - bg).ule sz <;> rfl
end Go.Sx

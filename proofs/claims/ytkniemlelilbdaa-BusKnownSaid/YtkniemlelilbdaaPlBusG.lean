/- A new bus, whose memory is not reckoned with; loads of nowhere, stores to nowhere. -/
import Derived.Test.YtkniemlelilbdaaVl15n
import Derived.Test.YtkniemlelilbdaaPlRam3
set_option linter.unusedSimpArgs false
set_option linter.unusedVariables false
set_option linter.unnecessarySimpa false
namespace Go.Sx
open Go
theorem zB4_ex : ∃ l : List (List AV), l = zB 4096 := ⟨_, rfl⟩
theorem zT4_ex : ∃ l : List (List AV), l = zT := ⟨_, rfl⟩
noncomputable def v_zB4 : List (List AV) := zB4_ex.choose
noncomputable def v_zT4 : List (List AV) := zT4_ex.choose
def kClint : Blk := bClint 0#64 18446744073709551615#64 0#64
def kPlic : Blk := bPlic (List.replicate 32 [.int .u32 0#32]) 0#32 0#32 [[.int .u32 0#32], [.int .u32 0#32]] [[.int .u32 0#32], [.int .u32 0#32]]
def kUart : Blk := bUart (List.replicate 16 [.int .u8 0#8]) 0#64 0#64 false
def kPow : Blk := bPow false
noncomputable def mbnCps : ECps MbnS MbnR := fun R x K => match x with
  | .a n => cond (n == 4096#64) (K (.a 4096 v_zT4 4096 v_zB4 bus0 kClint kPlic kUart kPow 0#64)) none
theorem mbnCps_ok : ECok mbnStep mbnCps := by
  intro R x K r h
  cases x with
  | a n =>
    obtain ⟨hn, hk⟩ := condK h
    rw [beq_iff_eq] at hn
    subst hn
    unfold v_zB4 v_zT4 at hk
    rw [zB4_ex.choose_spec, zT4_ex.choose_spec] at hk
    refine ⟨_, ?_, hk⟩
    unfold mbnStep
    dsimp only
    rw [show (4096#64).slt 4096#64 = false by decide, show (65536#64).slt 4096#64 = false by decide, show (!(4096#64).srem 4096#64 == 0#64) = false by decide, show (nonneg IntKind.i64 4096#64 && nonneg IntKind.i64 4096#64 && decide ((4096#64).toNat = (4096#64).toNat) && decide (1 * (4096#64).toNat ≤ 140737488355328)) = true by decide]
    rfl
noncomputable def mblCps : ECps MblS MblR := fun R x K => match x with
  | .a n tg m d c0 c1 c2 pr p1 p2 en th q u1 u2 u3 w pa size => cond (v_nowhere n pa size) (K (.a n tg m d bus0 (bClint c0 c1 c2) (bPlic pr p1 p2 en th) (bUart q u1 u2 u3) (bPow w) 0#64 false)) none
theorem mblCps_ok : ECok mblStep mblCps := by
  intro R x K r h
  cases x with
  | a n tg m d c0 c1 c2 pr p1 p2 en th q u1 u2 u3 w pa size =>
    obtain ⟨hn, hk⟩ := condK h
    refine ⟨_, ?_, hk⟩
    unfold mblStep
    dsimp only
    rw [hn]; rfl
noncomputable def mbsCps : ECps MbsS MbsR := fun R x K => match x with
  | .a n tg m d c0 c1 c2 pr p1 p2 en th q u1 u2 u3 w pa size v => cond (v_nowhere n pa size) (K (.a n tg m d bus0 (bClint c0 c1 c2) (bPlic pr p1 p2 en th) (bUart q u1 u2 u3) (bPow w) false)) none
theorem mbsCps_ok : ECok mbsStep mbsCps := by
  intro R x K r h
  cases x with
  | a n tg m d c0 c1 c2 pr p1 p2 en th q u1 u2 u3 w pa size v =>
    obtain ⟨hn, hk⟩ := condK h
    refine ⟨_, ?_, hk⟩
    unfold mbsStep
    dsimp only
    rw [hn]; rfl
end Go.Sx

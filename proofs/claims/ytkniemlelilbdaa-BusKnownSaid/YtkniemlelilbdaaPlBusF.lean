/- The region that bytes are in, as an answer. -/
import Derived.Test.YtkniemlelilbdaaVl15b
set_option linter.unusedSimpArgs false
set_option linter.unusedVariables false
set_option linter.unnecessarySimpa false
namespace Go.Sx
open Go
/-- Are bytes in no region? -/
def v_nowhere (n : Nat) (pa size : BitVec 64) : Bool := !(v_sized size && (v_reg (2147483648#64) (BitVec.signExtend 64 (BitVec.ofNat 64 n)) pa size || (v_reg (33554432#64) (65536#64) pa size || (v_reg (201326592#64) (4194304#64) pa size || (v_reg (268435456#64) (256#64) pa size || (v_reg (1048576#64) (4096#64) pa size))))))
noncomputable def mbfCps : ECps MbfS MbfR := fun R x K => match x with
  | .a n tg m d c0 c1 c2 pr p1 p2 en th q u1 u2 u3 w pa size => cond (v_nowhere n pa size) (K (MbfR.z n tg m d bus0 (bClint c0 c1 c2) (bPlic pr p1 p2 en th) (bUart q u1 u2 u3) (bPow w) 0#64)) ((cond (v_reg (2147483648#64) (BitVec.signExtend 64 (BitVec.ofNat 64 n)) pa size) (K (MbfR.d n tg m d bus0 (bClint c0 c1 c2) (bPlic pr p1 p2 en th) (bUart q u1 u2 u3) (bPow w) 69 34 (bif Nat.blt 1 7 then 1 else 7) (2147483648#64) (BitVec.signExtend 64 (BitVec.ofNat 64 n)) (pa - 2147483648#64))) (cond (v_reg (33554432#64) (65536#64) pa size) (K (MbfR.d n tg m d bus0 (bClint c0 c1 c2) (bPlic pr p1 p2 en th) (bUart q u1 u2 u3) (bPow w) 69 35 (bif Nat.blt 3 7 then 3 else 7) (33554432#64) (65536#64) (pa - 33554432#64))) (cond (v_reg (201326592#64) (4194304#64) pa size) (K (MbfR.d n tg m d bus0 (bClint c0 c1 c2) (bPlic pr p1 p2 en th) (bUart q u1 u2 u3) (bPow w) 69 36 (bif Nat.blt 4 7 then 4 else 7) (201326592#64) (4194304#64) (pa - 201326592#64))) (cond (v_reg (268435456#64) (256#64) pa size) (K (MbfR.d n tg m d bus0 (bClint c0 c1 c2) (bPlic pr p1 p2 en th) (bUart q u1 u2 u3) (bPow w) 69 37 (bif Nat.blt 5 7 then 5 else 7) (268435456#64) (256#64) (pa - 268435456#64))) (cond (v_reg (1048576#64) (4096#64) pa size) (K (MbfR.d n tg m d bus0 (bClint c0 c1 c2) (bPlic pr p1 p2 en th) (bUart q u1 u2 u3) (bPow w) 69 38 (bif Nat.blt 6 7 then 6 else 7) (1048576#64) (4096#64) (pa - 1048576#64))) none))))))
theorem mbfCps_ok : ECok mbfStep mbfCps := by
  intro R x K r h
  cases x with
  | a n tg m d c0 c1 c2 pr p1 p2 en th q u1 u2 u3 w pa size =>
    simp only [mbfCps, v_nowhere, v_sized] at h
    simp only [mbfStep]
    generalize v_reg (2147483648#64) (BitVec.signExtend 64 (BitVec.ofNat 64 n)) pa size = r0 at h ⊢
    generalize v_reg (33554432#64) (65536#64) pa size = r1 at h ⊢
    generalize v_reg (201326592#64) (4194304#64) pa size = r2 at h ⊢
    generalize v_reg (268435456#64) (256#64) pa size = r3 at h ⊢
    generalize v_reg (1048576#64) (4096#64) pa size = r4 at h ⊢
    generalize (size == 1#64) = s1 at h ⊢
    generalize (size == 2#64) = s2 at h ⊢
    generalize (size == 4#64) = s4 at h ⊢
    generalize (size == 8#64) = s8 at h ⊢
    cases s1 <;> cases s2 <;> cases s4 <;> cases s8 <;> cases r0 <;> cases r1 <;> cases r2 <;> cases r3 <;> cases r4 <;> first | exact ⟨_, rfl, h⟩ | cases h
end Go.Sx

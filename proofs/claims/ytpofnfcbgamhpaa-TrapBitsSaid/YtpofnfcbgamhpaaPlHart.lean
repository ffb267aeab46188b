/- A processor's right form. -/
import Derived.Test.YtpofnfcbgamhpaaSxHart
import Derived.Test.YtpofnfcbgamhpaaSxAE
import Derived.Test.YtpofnfcbgamhpaaVa05
set_option linter.unusedSimpArgs false
set_option linter.unusedVariables false
set_option linter.unnecessarySimpa false
namespace Go.Sx
open Go
def rwHt (h : Ht) (p m : BitVec 64) : Ht := ⟨fun i => bif Nat.beq i 0 then (v_r04_Number 0#64) else v_l05_Right (h.c i), fun i => bif Nat.beq i 0 then p else bif Nat.beq i 1 then m else h.e i, h.w⟩
def v_l19_Right (h : Ht) : Ht := rwHt h (cond (!h.e 0 == 0#64) (cond (!h.e 0 == 1#64) 3#64 (h.e 0)) (h.e 0)) (cond (h.e 1 >>> 11 % 4#64 == 2#64) (h.e 1 &&& 18446744073709545471#64) (h.e 1))
def rEn (h : Ht) : En := enOf (v_l19_Right h)
def bEn (h : Ht) : En := { rEn h with pcc := { (rEn h).pcc with ad := (rEn h).pcc.ad &&& 18446744073709551614#64 } }
theorem rightHt_eq (h : Ht) : (cond (!h.e 0 == 0#64)
 (cond (!h.e 0 == 1#64)
  (cond (h.e 1 >>> 11 % 4#64 == 2#64) (some (rwHt h 3#64 (h.e 1 &&& 18446744073709545471#64)).av) (some (rwHt h 3#64 (h.e 1)).av))
  (cond (h.e 1 >>> 11 % 4#64 == 2#64) (some (rwHt h (h.e 0) (h.e 1 &&& 18446744073709545471#64)).av) (some (rwHt h (h.e 0) (h.e 1)).av)))
 (cond (h.e 1 >>> 11 % 4#64 == 2#64) (some (rwHt h (h.e 0) (h.e 1 &&& 18446744073709545471#64)).av) (some (rwHt h (h.e 0) (h.e 1)).av))) = some (v_l19_Right h).av := by
  unfold v_l19_Right
  cases (h.e 0 == 0#64) <;> cases (h.e 0 == 1#64) <;> cases (h.e 1 >>> 11 % 4#64 == 2#64) <;> rfl
end Go.Sx

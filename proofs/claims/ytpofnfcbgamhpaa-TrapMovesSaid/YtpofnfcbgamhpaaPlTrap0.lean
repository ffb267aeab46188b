/- Names for what laws of traps say often. -/
import Derived.Test.YtpofnfcbgamhpaaVa19
import Derived.Test.YtpofnfcbgamhpaaPlHart
set_option linter.unusedSimpArgs false
set_option linter.unusedVariables false
set_option linter.unnecessarySimpa false
namespace Go.Sx
open Go
def tbE (h : Ht) (cause : BitVec 64) (i : Bool) (v : BitVec 64) : En := v_trap_Enter (bEn h) (v_kit_Pick cause 64#64) i v
def tbL (h : Ht) (cause : BitVec 64) (i : Bool) (v : BitVec 64) : En := v_trap_Leave (tbE h cause i v) ((tbE h cause i v).p == 1#64)
def ttE (h : Ht) (cause : BitVec 64) (i : Bool) (v : BitVec 64) : En := v_trap_Enter (rEn h) (v_kit_Pick cause 64#64) i v
def ttF (h : Ht) (cause : BitVec 64) (i : Bool) (v : BitVec 64) : En := v_r19_Enter (rEn h) (v_kit_Pick cause 64#64) i v
/-- All registers are the same as they are. -/
def xEq (h : Ht) (r : Bool) : Bool :=
  eqCp ((v_l19_Right h).c 0) ((v_l19_Right h).c 0) && (eqCp ((v_l19_Right h).c 1) ((v_l19_Right h).c 1) && (eqCp ((v_l19_Right h).c 2) ((v_l19_Right h).c 2) && (eqCp ((v_l19_Right h).c 3) ((v_l19_Right h).c 3) && (eqCp ((v_l19_Right h).c 4) ((v_l19_Right h).c 4) && (eqCp ((v_l19_Right h).c 5) ((v_l19_Right h).c 5) && (eqCp ((v_l19_Right h).c 6) ((v_l19_Right h).c 6) && (eqCp ((v_l19_Right h).c 7) ((v_l19_Right h).c 7) && (eqCp ((v_l19_Right h).c 8) ((v_l19_Right h).c 8) && (eqCp ((v_l19_Right h).c 9) ((v_l19_Right h).c 9) && (eqCp ((v_l19_Right h).c 10) ((v_l19_Right h).c 10) && (eqCp ((v_l19_Right h).c 11) ((v_l19_Right h).c 11) && (eqCp ((v_l19_Right h).c 12) ((v_l19_Right h).c 12) && (eqCp ((v_l19_Right h).c 13) ((v_l19_Right h).c 13) && (eqCp ((v_l19_Right h).c 14) ((v_l19_Right h).c 14) && (eqCp ((v_l19_Right h).c 15) ((v_l19_Right h).c 15) && (eqCp ((v_l19_Right h).c 16) ((v_l19_Right h).c 16) && (eqCp ((v_l19_Right h).c 17) ((v_l19_Right h).c 17) && (eqCp ((v_l19_Right h).c 18) ((v_l19_Right h).c 18) && (eqCp ((v_l19_Right h).c 19) ((v_l19_Right h).c 19) && (eqCp ((v_l19_Right h).c 20) ((v_l19_Right h).c 20) && (eqCp ((v_l19_Right h).c 21) ((v_l19_Right h).c 21) && (eqCp ((v_l19_Right h).c 22) ((v_l19_Right h).c 22) && (eqCp ((v_l19_Right h).c 23) ((v_l19_Right h).c 23) && (eqCp ((v_l19_Right h).c 24) ((v_l19_Right h).c 24) && (eqCp ((v_l19_Right h).c 25) ((v_l19_Right h).c 25) && (eqCp ((v_l19_Right h).c 26) ((v_l19_Right h).c 26) && (eqCp ((v_l19_Right h).c 27) ((v_l19_Right h).c 27) && (eqCp ((v_l19_Right h).c 28) ((v_l19_Right h).c 28) && (eqCp ((v_l19_Right h).c 29) ((v_l19_Right h).c 29) && (eqCp ((v_l19_Right h).c 30) ((v_l19_Right h).c 30) && (eqCp ((v_l19_Right h).c 31) ((v_l19_Right h).c 31) && r)))))))))))))))))))))))))))))))
theorem xEq_eq (h : Ht) (r : Bool) : xEq h r = r := by simp only [xEq, eqCp_self, Bool.true_and]
end Go.Sx

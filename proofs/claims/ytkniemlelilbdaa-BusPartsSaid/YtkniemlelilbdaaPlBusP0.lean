/- BusParts: names for what stands there. -/
import Derived.Test.YtkniemlelilbdaaPlBusO
import Derived.Test.YtkniemlelilbdaaVa04
set_option linter.unusedSimpArgs false
set_option linter.unusedVariables false
set_option linter.unnecessarySimpa false
namespace Go.Sx
open Go
def bpP (at_ : BitVec 64) : BitVec 64 := 2147483648#64 + at_ % 256#64 * 16#64
def bpT (at_ : BitVec 64) : List (List AV) := v_sT 4096 (v_sT 4096 zT (bpP at_ - 2147483648#64) 8#64) (bpP at_ + 8#64 - 2147483648#64) 8#64
def bpD (at_ a b : BitVec 64) : List (List AV) := v_sD 4096 (v_sD 4096 (zB 4096) (bpP at_ - 2147483648#64) (8#64) a) (bpP at_ + 8#64 - 2147483648#64) (8#64) b
end Go.Sx

/- BusCaps: names for what stands there. -/
import Derived.Test.YtkniemlelilbdaaPlBusO
import Derived.Test.YtkniemlelilbdaaVa04
set_option linter.unusedSimpArgs false
set_option linter.unusedVariables false
set_option linter.unnecessarySimpa false
namespace Go.Sx
open Go
def bcP (at_ : BitVec 64) : BitVec 64 := 2147483648#64 + at_ % 255#64 * 16#64
def bcO (at_ : BitVec 64) : BitVec 64 := BitVec.setWidth 64 (bcP at_ - 2147483648#64)
def bcQ (at_ : BitVec 64) : BitVec 64 := BitVec.setWidth 64 (bcP at_ + 16#64 - 2147483648#64)
def bcT (at_ : BitVec 64) (c d : Cp) : List (List AV) := v_tT 4096 (v_tT 4096 zT (bcO at_) (v_l05_Right c).tag) (bcQ at_) (v_l05_Right d).tag
def bcD (at_ : BitVec 64) (c d : Cp) : List (List AV) := v_tD 4096 (v_tD 4096 (zB 4096) (bcO at_) (v_capenc_Pack (v_l05_Right c)).fst (v_capenc_Pack (v_l05_Right c)).snd) (bcQ at_) (v_capenc_Pack (v_l05_Right d)).fst (v_capenc_Pack (v_l05_Right d)).snd
end Go.Sx

/- What laws come to. -/
import Derived.Test.YtkniemlelilbdaaSxX
import Derived.Test.YtkniemlelilbdaaSxLen2
import Derived.Test.YtkniemlelilbdaaVa03
import Derived.Test.YtkniemlelilbdaaPlRamR
import Derived.Test.YtkniemlelilbdaaPlBusP0
set_option linter.unusedSimpArgs false
set_option linter.unusedVariables false
set_option linter.unnecessarySimpa false
namespace Go.Sx
open Go

noncomputable def t_BusParts_x (at_ : BitVec 64) (a : BitVec 64) (b : BitVec 64) : Option AV :=
 (cond (v_reg (2147483648#64) (4096#64) (bpP at_) 8#64) 
 (cond (!v_ok 4096 (bpP at_ - 2147483648#64) 8#64) (some (AV.bool (false))) 
 (cond (v_reg (2147483648#64) (4096#64) (bpP at_ + 8#64) 8#64) 
 (cond (g_ram 4096 (v_sT 4096 zT (bpP at_ - 2147483648#64) 8#64) 4096 (v_sD 4096 (zB 4096) (bpP at_ - 2147483648#64) (8#64) a)) 
 (cond (!v_ok 4096 (bpP at_ + 8#64 - 2147483648#64) 8#64) (some (AV.bool (false))) 
 (cond (v_reg (2147483648#64) (4096#64) (bpP at_ + 0#64) 1#64) 
 (cond (g_ram 4096 (bpT at_) 4096 (bpD at_ a b)) 
 (cond (!v_ok 4096 (bpP at_ + 0#64 - 2147483648#64) 1#64) (some (AV.bool (false))) 
 (cond ((256#64).ule (v_lV 4096 (bpD at_ a b) (bpP at_ + 0#64 - 2147483648#64) 1#64)) (some (AV.bool (false))) 
 (cond (v_reg (2147483648#64) (4096#64) (bpP at_ + 1#64) 1#64) 
 (cond (g_ram 4096 (bpT at_) 4096 (bpD at_ a b)) 
 (cond (!v_ok 4096 (bpP at_ + 1#64 - 2147483648#64) 1#64) (some (AV.bool (false))) 
 (cond ((256#64).ule (v_lV 4096 (bpD at_ a b) (bpP at_ + 1#64 - 2147483648#64) 1#64)) (some (AV.bool (false))) 
 (cond (v_reg (2147483648#64) (4096#64) (bpP at_ + 2#64) 1#64) 
 (cond (g_ram 4096 (bpT at_) 4096 (bpD at_ a b)) 
 (cond (!v_ok 4096 (bpP at_ + 2#64 - 2147483648#64) 1#64) (some (AV.bool (false))) 
 (cond ((256#64).ule (v_lV 4096 (bpD at_ a b) (bpP at_ + 2#64 - 2147483648#64) 1#64)) (some (AV.bool (false))) 
 (cond (v_reg (2147483648#64) (4096#64) (bpP at_ + 3#64) 1#64) 
 (cond (g_ram 4096 (bpT at_) 4096 (bpD at_ a b)) 
 (cond (!v_ok 4096 (bpP at_ + 3#64 - 2147483648#64) 1#64) (some (AV.bool (false))) 
 (cond ((256#64).ule (v_lV 4096 (bpD at_ a b) (bpP at_ + 3#64 - 2147483648#64) 1#64)) (some (AV.bool (false))) 
 (cond (v_reg (2147483648#64) (4096#64) (bpP at_ + 4#64) 1#64) 
 (cond (g_ram 4096 (bpT at_) 4096 (bpD at_ a b)) 
 (cond (!v_ok 4096 (bpP at_ + 4#64 - 2147483648#64) 1#64) (some (AV.bool (false))) 
 (cond ((256#64).ule (v_lV 4096 (bpD at_ a b) (bpP at_ + 4#64 - 2147483648#64) 1#64)) (some (AV.bool (false))) 
 (cond (v_reg (2147483648#64) (4096#64) (bpP at_ + 5#64) 1#64) 
 (cond (g_ram 4096 (bpT at_) 4096 (bpD at_ a b)) 
 (cond (!v_ok 4096 (bpP at_ + 5#64 - 2147483648#64) 1#64) (some (AV.bool (false))) 
 (cond ((256#64).ule (v_lV 4096 (bpD at_ a b) (bpP at_ + 5#64 - 2147483648#64) 1#64)) (some (AV.bool (false))) 
 (cond (v_reg (2147483648#64) (4096#64) (bpP at_ + 6#64) 1#64) 
 (cond (g_ram 4096 (bpT at_) 4096 (bpD at_ a b)) 
 (cond (!v_ok 4096 (bpP at_ + 6#64 - 2147483648#64) 1#64) (some (AV.bool (false))) 
 (cond ((256#64).ule (v_lV 4096 (bpD at_ a b) (bpP at_ + 6#64 - 2147483648#64) 1#64)) (some (AV.bool (false))) 
 (cond (v_reg (2147483648#64) (4096#64) (bpP at_ + 7#64) 1#64) 
 (cond (g_ram 4096 (bpT at_) 4096 (bpD at_ a b)) 
 (cond (!v_ok 4096 (bpP at_ + 7#64 - 2147483648#64) 1#64) (some (AV.bool (false))) 
 (cond ((256#64).ule (v_lV 4096 (bpD at_ a b) (bpP at_ + 7#64 - 2147483648#64) 1#64)) (some (AV.bool (false))) 
 (cond (!0#64 ||| v_lV 4096 (bpD at_ a b) (bpP at_ + 0#64 - 2147483648#64) 1#64 <<< 0 ||| v_lV 4096 (bpD at_ a b) (bpP at_ + 1#64 - 2147483648#64) 1#64 <<< 8 ||| v_lV 4096 (bpD at_ a b) (bpP at_ + 2#64 - 2147483648#64) 1#64 <<< 16 ||| v_lV 4096 (bpD at_ a b) (bpP at_ + 3#64 - 2147483648#64) 1#64 <<< 24 ||| v_lV 4096 (bpD at_ a b) (bpP at_ + 4#64 - 2147483648#64) 1#64 <<< 32 ||| v_lV 4096 (bpD at_ a b) (bpP at_ + 5#64 - 2147483648#64) 1#64 <<< 40 ||| v_lV 4096 (bpD at_ a b) (bpP at_ + 6#64 - 2147483648#64) 1#64 <<< 48 ||| v_lV 4096 (bpD at_ a b) (bpP at_ + 7#64 - 2147483648#64) 1#64 <<< 56 == a) (some (AV.bool (false))) 
 (cond (v_reg (2147483648#64) (4096#64) (bpP at_ + 0#64) 2#64) 
 (cond (g_ram 4096 (bpT at_) 4096 (bpD at_ a b)) 
 (cond (!v_ok 4096 (bpP at_ + 0#64 - 2147483648#64) 2#64) (some (AV.bool (false))) 
 (cond ((65536#64).ule (v_lV 4096 (bpD at_ a b) (bpP at_ + 0#64 - 2147483648#64) 2#64)) (some (AV.bool (false))) 
 (cond (v_reg (2147483648#64) (4096#64) (bpP at_ + 2#64) 2#64) 
 (cond (g_ram 4096 (bpT at_) 4096 (bpD at_ a b)) 
 (cond (!v_ok 4096 (bpP at_ + 2#64 - 2147483648#64) 2#64) (some (AV.bool (false))) 
 (cond ((65536#64).ule (v_lV 4096 (bpD at_ a b) (bpP at_ + 2#64 - 2147483648#64) 2#64)) (some (AV.bool (false))) 
 (cond (v_reg (2147483648#64) (4096#64) (bpP at_ + 4#64) 2#64) 
 (cond (g_ram 4096 (bpT at_) 4096 (bpD at_ a b)) 
 (cond (!v_ok 4096 (bpP at_ + 4#64 - 2147483648#64) 2#64) (some (AV.bool (false))) 
 (cond ((65536#64).ule (v_lV 4096 (bpD at_ a b) (bpP at_ + 4#64 - 2147483648#64) 2#64)) (some (AV.bool (false))) 
 (cond (v_reg (2147483648#64) (4096#64) (bpP at_ + 6#64) 2#64) 
 (cond (g_ram 4096 (bpT at_) 4096 (bpD at_ a b)) 
 (cond (!v_ok 4096 (bpP at_ + 6#64 - 2147483648#64) 2#64) (some (AV.bool (false))) 
 (cond ((65536#64).ule (v_lV 4096 (bpD at_ a b) (bpP at_ + 6#64 - 2147483648#64) 2#64)) (some (AV.bool (false))) 
 (cond (!0#64 ||| v_lV 4096 (bpD at_ a b) (bpP at_ + 0#64 - 2147483648#64) 2#64 <<< 0 ||| v_lV 4096 (bpD at_ a b) (bpP at_ + 2#64 - 2147483648#64) 2#64 <<< 16 ||| v_lV 4096 (bpD at_ a b) (bpP at_ + 4#64 - 2147483648#64) 2#64 <<< 32 ||| v_lV 4096 (bpD at_ a b) (bpP at_ + 6#64 - 2147483648#64) 2#64 <<< 48 == a) (some (AV.bool (false))) 
 (cond (v_reg (2147483648#64) (4096#64) (bpP at_ + 0#64) 4#64) 
 (cond (g_ram 4096 (bpT at_) 4096 (bpD at_ a b)) 
 (cond (!v_ok 4096 (bpP at_ + 0#64 - 2147483648#64) 4#64) (some (AV.bool (false))) 
 (cond ((4294967296#64).ule (v_lV 4096 (bpD at_ a b) (bpP at_ + 0#64 - 2147483648#64) 4#64)) (some (AV.bool (false))) 
 (cond (v_reg (2147483648#64) (4096#64) (bpP at_ + 4#64) 4#64) 
 (cond (g_ram 4096 (bpT at_) 4096 (bpD at_ a b)) 
 (cond (!v_ok 4096 (bpP at_ + 4#64 - 2147483648#64) 4#64) (some (AV.bool (false))) 
 (cond ((4294967296#64).ule (v_lV 4096 (bpD at_ a b) (bpP at_ + 4#64 - 2147483648#64) 4#64)) (some (AV.bool (false))) 
 (cond (!0#64 ||| v_lV 4096 (bpD at_ a b) (bpP at_ + 0#64 - 2147483648#64) 4#64 <<< 0 ||| v_lV 4096 (bpD at_ a b) (bpP at_ + 4#64 - 2147483648#64) 4#64 <<< 32 == a) (some (AV.bool (false))) 
 (cond (v_reg (2147483648#64) (4096#64) (bpP at_ + 0#64) 8#64) 
 (cond (g_ram 4096 (bpT at_) 4096 (bpD at_ a b)) 
 (cond (!v_ok 4096 (bpP at_ + 0#64 - 2147483648#64) 8#64) (some (AV.bool (false))) 
 (cond (!0#64 ||| v_lV 4096 (bpD at_ a b) (bpP at_ + 0#64 - 2147483648#64) 8#64 <<< 0 == a) (some (AV.bool (false))) 
 (cond (!v_reg (2147483648#64) (4096#64) (bpP at_) 16#64) (some (AV.bool (false))) 
 (cond (g_ram 4096 (bpT at_) 4096 (bpD at_ a b)) 
 (cond (!v_okC 4096 (BitVec.setWidth 64 (bpP at_ - 2147483648#64))) (some (AV.bool (false))) 
 (cond (!(v_capenc_Unpack (v_cT 4096 (bpT at_) (BitVec.setWidth 64 (bpP at_ - 2147483648#64))) (v_cX 4096 (bpD at_ a b) (BitVec.setWidth 64 (bpP at_ - 2147483648#64)) 0) (v_cX 4096 (bpD at_ a b) (BitVec.setWidth 64 (bpP at_ - 2147483648#64)) 8)).tag) 
 (cond ((v_capenc_Unpack (v_cT 4096 (bpT at_) (BitVec.setWidth 64 (bpP at_ - 2147483648#64))) (v_cX 4096 (bpD at_ a b) (BitVec.setWidth 64 (bpP at_ - 2147483648#64)) 0) (v_cX 4096 (bpD at_ a b) (BitVec.setWidth 64 (bpP at_ - 2147483648#64)) 8)).ad == a) 
 (cond ((v_capenc_Unpack (v_cT 4096 (bpT at_) (BitVec.setWidth 64 (bpP at_ - 2147483648#64))) (v_cX 4096 (bpD at_ a b) (BitVec.setWidth 64 (bpP at_ - 2147483648#64)) 0) (v_cX 4096 (bpD at_ a b) (BitVec.setWidth 64 (bpP at_ - 2147483648#64)) 8)).tag == (v_capenc_Unpack false a b).tag && ((v_capenc_Unpack (v_cT 4096 (bpT at_) (BitVec.setWidth 64 (bpP at_ - 2147483648#64))) (v_cX 4096 (bpD at_ a b) (BitVec.setWidth 64 (bpP at_ - 2147483648#64)) 0) (v_cX 4096 (bpD at_ a b) (BitVec.setWidth 64 (bpP at_ - 2147483648#64)) 8)).per == (v_capenc_Unpack false a b).per && ((v_capenc_Unpack (v_cT 4096 (bpT at_) (BitVec.setWidth 64 (bpP at_ - 2147483648#64))) (v_cX 4096 (bpD at_ a b) (BitVec.setWidth 64 (bpP at_ - 2147483648#64)) 0) (v_cX 4096 (bpD at_ a b) (BitVec.setWidth 64 (bpP at_ - 2147483648#64)) 8)).ty == (v_capenc_Unpack false a b).ty && ((v_capenc_Unpack (v_cT 4096 (bpT at_) (BitVec.setWidth 64 (bpP at_ - 2147483648#64))) (v_cX 4096 (bpD at_ a b) (BitVec.setWidth 64 (bpP at_ - 2147483648#64)) 0) (v_cX 4096 (bpD at_ a b) (BitVec.setWidth 64 (bpP at_ - 2147483648#64)) 8)).mo == (v_capenc_Unpack false a b).mo && ((v_capenc_Unpack (v_cT 4096 (bpT at_) (BitVec.setWidth 64 (bpP at_ - 2147483648#64))) (v_cX 4096 (bpD at_ a b) (BitVec.setWidth 64 (bpP at_ - 2147483648#64)) 0) (v_cX 4096 (bpD at_ a b) (BitVec.setWidth 64 (bpP at_ - 2147483648#64)) 8)).e == (v_capenc_Unpack false a b).e && ((v_capenc_Unpack (v_cT 4096 (bpT at_) (BitVec.setWidth 64 (bpP at_ - 2147483648#64))) (v_cX 4096 (bpD at_ a b) (BitVec.setWidth 64 (bpP at_ - 2147483648#64)) 0) (v_cX 4096 (bpD at_ a b) (BitVec.setWidth 64 (bpP at_ - 2147483648#64)) 8)).b == (v_capenc_Unpack false a b).b && ((v_capenc_Unpack (v_cT 4096 (bpT at_) (BitVec.setWidth 64 (bpP at_ - 2147483648#64))) (v_cX 4096 (bpD at_ a b) (BitVec.setWidth 64 (bpP at_ - 2147483648#64)) 0) (v_cX 4096 (bpD at_ a b) (BitVec.setWidth 64 (bpP at_ - 2147483648#64)) 8)).t == (v_capenc_Unpack false a b).t && ((v_capenc_Unpack (v_cT 4096 (bpT at_) (BitVec.setWidth 64 (bpP at_ - 2147483648#64))) (v_cX 4096 (bpD at_ a b) (BitVec.setWidth 64 (bpP at_ - 2147483648#64)) 0) (v_cX 4096 (bpD at_ a b) (BitVec.setWidth 64 (bpP at_ - 2147483648#64)) 8)).big == (v_capenc_Unpack false a b).big && ((v_capenc_Unpack (v_cT 4096 (bpT at_) (BitVec.setWidth 64 (bpP at_ - 2147483648#64))) (v_cX 4096 (bpD at_ a b) (BitVec.setWidth 64 (bpP at_ - 2147483648#64)) 0) (v_cX 4096 (bpD at_ a b) (BitVec.setWidth 64 (bpP at_ - 2147483648#64)) 8)).ad == (v_capenc_Unpack false a b).ad && true))))))))) (some (AV.bool (true))) (some (AV.bool (false)))) (some (AV.bool (false)))) (some (AV.bool (false))))) none)))) none) 
 (cond (v_reg (33554432#64) (65536#64) (bpP at_ + 0#64) 8#64) none 
 (cond (v_reg (201326592#64) (4194304#64) (bpP at_ + 0#64) 8#64) none 
 (cond (v_reg (268435456#64) (256#64) (bpP at_ + 0#64) 8#64) none 
 (cond (v_reg (1048576#64) (4096#64) (bpP at_ + 0#64) 8#64) none (some (AV.bool (false))))))))))) none) 
 (cond (v_reg (33554432#64) (65536#64) (bpP at_ + 4#64) 4#64) none 
 (cond (v_reg (201326592#64) (4194304#64) (bpP at_ + 4#64) 4#64) none 
 (cond (v_reg (268435456#64) (256#64) (bpP at_ + 4#64) 4#64) none 
 (cond (v_reg (1048576#64) (4096#64) (bpP at_ + 4#64) 4#64) none (some (AV.bool (false)))))))))) none) 
 (cond (v_reg (33554432#64) (65536#64) (bpP at_ + 0#64) 4#64) none 
 (cond (v_reg (201326592#64) (4194304#64) (bpP at_ + 0#64) 4#64) none 
 (cond (v_reg (268435456#64) (256#64) (bpP at_ + 0#64) 4#64) none 
 (cond (v_reg (1048576#64) (4096#64) (bpP at_ + 0#64) 4#64) none (some (AV.bool (false))))))))))) none) 
 (cond (v_reg (33554432#64) (65536#64) (bpP at_ + 6#64) 2#64) none 
 (cond (v_reg (201326592#64) (4194304#64) (bpP at_ + 6#64) 2#64) none 
 (cond (v_reg (268435456#64) (256#64) (bpP at_ + 6#64) 2#64) none 
 (cond (v_reg (1048576#64) (4096#64) (bpP at_ + 6#64) 2#64) none (some (AV.bool (false)))))))))) none) 
 (cond (v_reg (33554432#64) (65536#64) (bpP at_ + 4#64) 2#64) none 
 (cond (v_reg (201326592#64) (4194304#64) (bpP at_ + 4#64) 2#64) none 
 (cond (v_reg (268435456#64) (256#64) (bpP at_ + 4#64) 2#64) none 
 (cond (v_reg (1048576#64) (4096#64) (bpP at_ + 4#64) 2#64) none (some (AV.bool (false)))))))))) none) 
 (cond (v_reg (33554432#64) (65536#64) (bpP at_ + 2#64) 2#64) none 
 (cond (v_reg (201326592#64) (4194304#64) (bpP at_ + 2#64) 2#64) none 
 (cond (v_reg (268435456#64) (256#64) (bpP at_ + 2#64) 2#64) none 
 (cond (v_reg (1048576#64) (4096#64) (bpP at_ + 2#64) 2#64) none (some (AV.bool (false)))))))))) none) 
 (cond (v_reg (33554432#64) (65536#64) (bpP at_ + 0#64) 2#64) none 
 (cond (v_reg (201326592#64) (4194304#64) (bpP at_ + 0#64) 2#64) none 
 (cond (v_reg (268435456#64) (256#64) (bpP at_ + 0#64) 2#64) none 
 (cond (v_reg (1048576#64) (4096#64) (bpP at_ + 0#64) 2#64) none (some (AV.bool (false))))))))))) none) 
 (cond (v_reg (33554432#64) (65536#64) (bpP at_ + 7#64) 1#64) none 
 (cond (v_reg (201326592#64) (4194304#64) (bpP at_ + 7#64) 1#64) none 
 (cond (v_reg (268435456#64) (256#64) (bpP at_ + 7#64) 1#64) none 
 (cond (v_reg (1048576#64) (4096#64) (bpP at_ + 7#64) 1#64) none (some (AV.bool (false)))))))))) none) 
 (cond (v_reg (33554432#64) (65536#64) (bpP at_ + 6#64) 1#64) none 
 (cond (v_reg (201326592#64) (4194304#64) (bpP at_ + 6#64) 1#64) none 
 (cond (v_reg (268435456#64) (256#64) (bpP at_ + 6#64) 1#64) none 
 (cond (v_reg (1048576#64) (4096#64) (bpP at_ + 6#64) 1#64) none (some (AV.bool (false)))))))))) none) 
 (cond (v_reg (33554432#64) (65536#64) (bpP at_ + 5#64) 1#64) none 
 (cond (v_reg (201326592#64) (4194304#64) (bpP at_ + 5#64) 1#64) none 
 (cond (v_reg (268435456#64) (256#64) (bpP at_ + 5#64) 1#64) none 
 (cond (v_reg (1048576#64) (4096#64) (bpP at_ + 5#64) 1#64) none (some (AV.bool (false)))))))))) none) 
 (cond (v_reg (33554432#64) (65536#64) (bpP at_ + 4#64) 1#64) none 
 (cond (v_reg (201326592#64) (4194304#64) (bpP at_ + 4#64) 1#64) none 
 (cond (v_reg (268435456#64) (256#64) (bpP at_ + 4#64) 1#64) none 
 (cond (v_reg (1048576#64) (4096#64) (bpP at_ + 4#64) 1#64) none (some (AV.bool (false)))))))))) none) 
 (cond (v_reg (33554432#64) (65536#64) (bpP at_ + 3#64) 1#64) none 
 (cond (v_reg (201326592#64) (4194304#64) (bpP at_ + 3#64) 1#64) none 
 (cond (v_reg (268435456#64) (256#64) (bpP at_ + 3#64) 1#64) none 
 (cond (v_reg (1048576#64) (4096#64) (bpP at_ + 3#64) 1#64) none (some (AV.bool (false)))))))))) none) 
 (cond (v_reg (33554432#64) (65536#64) (bpP at_ + 2#64) 1#64) none 
 (cond (v_reg (201326592#64) (4194304#64) (bpP at_ + 2#64) 1#64) none 
 (cond (v_reg (268435456#64) (256#64) (bpP at_ + 2#64) 1#64) none 
 (cond (v_reg (1048576#64) (4096#64) (bpP at_ + 2#64) 1#64) none (some (AV.bool (false)))))))))) none) 
 (cond (v_reg (33554432#64) (65536#64) (bpP at_ + 1#64) 1#64) none 
 (cond (v_reg (201326592#64) (4194304#64) (bpP at_ + 1#64) 1#64) none 
 (cond (v_reg (268435456#64) (256#64) (bpP at_ + 1#64) 1#64) none 
 (cond (v_reg (1048576#64) (4096#64) (bpP at_ + 1#64) 1#64) none (some (AV.bool (false)))))))))) none) 
 (cond (v_reg (33554432#64) (65536#64) (bpP at_ + 0#64) 1#64) none 
 (cond (v_reg (201326592#64) (4194304#64) (bpP at_ + 0#64) 1#64) none 
 (cond (v_reg (268435456#64) (256#64) (bpP at_ + 0#64) 1#64) none 
 (cond (v_reg (1048576#64) (4096#64) (bpP at_ + 0#64) 1#64) none (some (AV.bool (false))))))))) none) 
 (cond (v_reg (33554432#64) (65536#64) (bpP at_ + 8#64) 8#64) none 
 (cond (v_reg (201326592#64) (4194304#64) (bpP at_ + 8#64) 8#64) none 
 (cond (v_reg (268435456#64) (256#64) (bpP at_ + 8#64) 8#64) none 
 (cond (v_reg (1048576#64) (4096#64) (bpP at_ + 8#64) 8#64) none (some (AV.bool (false))))))))) 
 (cond (v_reg (33554432#64) (65536#64) (bpP at_) 8#64) none 
 (cond (v_reg (201326592#64) (4194304#64) (bpP at_) 8#64) none 
 (cond (v_reg (268435456#64) (256#64) (bpP at_) 8#64) none 
 (cond (v_reg (1048576#64) (4096#64) (bpP at_) 8#64) none (some (AV.bool (false))))))))
end Go.Sx

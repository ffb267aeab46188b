/- What laws come to. -/
import Derived.Test.YtkniemlelilbdaaSxX
import Derived.Test.YtkniemlelilbdaaSxLen2
import Derived.Test.YtkniemlelilbdaaVa03
import Derived.Test.YtkniemlelilbdaaPlRamR
import Derived.Test.YtkniemlelilbdaaPlBusC0
set_option linter.unusedSimpArgs false
set_option linter.unusedVariables false
set_option linter.unnecessarySimpa false
namespace Go.Sx
open Go

noncomputable def t_BusCaps_x (c : Cp) (d : Cp) (at_ : BitVec 64) (k : BitVec 64) (v : BitVec 64) : Option AV :=
 (cond (!v_reg (2147483648#64) (4096#64) (bcP at_) 16#64) (some (AV.bool (false))) 
 (cond (!v_okC 4096 (bcO at_)) (some (AV.bool (false))) 
 (cond (!v_reg (2147483648#64) (4096#64) (bcP at_ + 16#64) 16#64) (some (AV.bool (false))) 
 (cond (g_ram 4096 (v_tT 4096 zT (bcO at_) (v_l05_Right c).tag) 4096 (v_tD 4096 (zB 4096) (bcO at_) (v_capenc_Pack (v_l05_Right c)).fst (v_capenc_Pack (v_l05_Right c)).snd)) 
 (cond (!v_okC 4096 (bcQ at_)) (some (AV.bool (false))) 
 (cond (!v_reg (2147483648#64) (4096#64) (bcP at_) 16#64) 
 (cond (!v_reg (2147483648#64) (4096#64) (bcP at_ + 16#64) 16#64) (some (AV.bool (false))) 
 (cond (g_ram 4096 (bcT at_ c d) 4096 (bcD at_ c d)) 
 (cond (!v_okC 4096 (bcQ at_)) (some (AV.bool (false))) (some (AV.bool (false)))) none)) 
 (cond (g_ram 4096 (bcT at_ c d) 4096 (bcD at_ c d)) 
 (cond (!v_okC 4096 (bcO at_)) 
 (cond (!v_reg (2147483648#64) (4096#64) (bcP at_ + 16#64) 16#64) (some (AV.bool (false))) 
 (cond (g_ram 4096 (bcT at_ c d) 4096 (bcD at_ c d)) 
 (cond (!v_okC 4096 (bcQ at_)) (some (AV.bool (false))) (some (AV.bool (false)))) none)) 
 (cond (!v_reg (2147483648#64) (4096#64) (bcP at_ + 16#64) 16#64) (some (AV.bool (false))) 
 (cond (g_ram 4096 (bcT at_ c d) 4096 (bcD at_ c d)) 
 (cond (!v_okC 4096 (bcQ at_)) (some (AV.bool (false))) 
 (cond (!((v_capenc_Unpack (v_cT 4096 (bcT at_ c d) (bcO at_)) (v_cX 4096 (bcD at_ c d) (bcO at_) 0) (v_cX 4096 (bcD at_ c d) (bcO at_) 8)).tag == (v_l05_Right c).tag && ((v_capenc_Unpack (v_cT 4096 (bcT at_ c d) (bcO at_)) (v_cX 4096 (bcD at_ c d) (bcO at_) 0) (v_cX 4096 (bcD at_ c d) (bcO at_) 8)).per == (v_l05_Right c).per && ((v_capenc_Unpack (v_cT 4096 (bcT at_ c d) (bcO at_)) (v_cX 4096 (bcD at_ c d) (bcO at_) 0) (v_cX 4096 (bcD at_ c d) (bcO at_) 8)).ty == (v_l05_Right c).ty && ((v_capenc_Unpack (v_cT 4096 (bcT at_ c d) (bcO at_)) (v_cX 4096 (bcD at_ c d) (bcO at_) 0) (v_cX 4096 (bcD at_ c d) (bcO at_) 8)).mo == (v_l05_Right c).mo && ((v_capenc_Unpack (v_cT 4096 (bcT at_ c d) (bcO at_)) (v_cX 4096 (bcD at_ c d) (bcO at_) 0) (v_cX 4096 (bcD at_ c d) (bcO at_) 8)).e == (v_l05_Right c).e && ((v_capenc_Unpack (v_cT 4096 (bcT at_ c d) (bcO at_)) (v_cX 4096 (bcD at_ c d) (bcO at_) 0) (v_cX 4096 (bcD at_ c d) (bcO at_) 8)).b == (v_l05_Right c).b && ((v_capenc_Unpack (v_cT 4096 (bcT at_ c d) (bcO at_)) (v_cX 4096 (bcD at_ c d) (bcO at_) 0) (v_cX 4096 (bcD at_ c d) (bcO at_) 8)).t == (v_l05_Right c).t && ((v_capenc_Unpack (v_cT 4096 (bcT at_ c d) (bcO at_)) (v_cX 4096 (bcD at_ c d) (bcO at_) 0) (v_cX 4096 (bcD at_ c d) (bcO at_) 8)).big == (v_l05_Right c).big && ((v_capenc_Unpack (v_cT 4096 (bcT at_ c d) (bcO at_)) (v_cX 4096 (bcD at_ c d) (bcO at_) 0) (v_cX 4096 (bcD at_ c d) (bcO at_) 8)).ad == (v_l05_Right c).ad && true)))))))))) (some (AV.bool (false))) 
 (cond (!((v_capenc_Unpack (v_cT 4096 (bcT at_ c d) (bcQ at_)) (v_cX 4096 (bcD at_ c d) (bcQ at_) 0) (v_cX 4096 (bcD at_ c d) (bcQ at_) 8)).tag == (v_l05_Right d).tag && ((v_capenc_Unpack (v_cT 4096 (bcT at_ c d) (bcQ at_)) (v_cX 4096 (bcD at_ c d) (bcQ at_) 0) (v_cX 4096 (bcD at_ c d) (bcQ at_) 8)).per == (v_l05_Right d).per && ((v_capenc_Unpack (v_cT 4096 (bcT at_ c d) (bcQ at_)) (v_cX 4096 (bcD at_ c d) (bcQ at_) 0) (v_cX 4096 (bcD at_ c d) (bcQ at_) 8)).ty == (v_l05_Right d).ty && ((v_capenc_Unpack (v_cT 4096 (bcT at_ c d) (bcQ at_)) (v_cX 4096 (bcD at_ c d) (bcQ at_) 0) (v_cX 4096 (bcD at_ c d) (bcQ at_) 8)).mo == (v_l05_Right d).mo && ((v_capenc_Unpack (v_cT 4096 (bcT at_ c d) (bcQ at_)) (v_cX 4096 (bcD at_ c d) (bcQ at_) 0) (v_cX 4096 (bcD at_ c d) (bcQ at_) 8)).e == (v_l05_Right d).e && ((v_capenc_Unpack (v_cT 4096 (bcT at_ c d) (bcQ at_)) (v_cX 4096 (bcD at_ c d) (bcQ at_) 0) (v_cX 4096 (bcD at_ c d) (bcQ at_) 8)).b == (v_l05_Right d).b && ((v_capenc_Unpack (v_cT 4096 (bcT at_ c d) (bcQ at_)) (v_cX 4096 (bcD at_ c d) (bcQ at_) 0) (v_cX 4096 (bcD at_ c d) (bcQ at_) 8)).t == (v_l05_Right d).t && ((v_capenc_Unpack (v_cT 4096 (bcT at_ c d) (bcQ at_)) (v_cX 4096 (bcD at_ c d) (bcQ at_) 0) (v_cX 4096 (bcD at_ c d) (bcQ at_) 8)).big == (v_l05_Right d).big && ((v_capenc_Unpack (v_cT 4096 (bcT at_ c d) (bcQ at_)) (v_cX 4096 (bcD at_ c d) (bcQ at_) 0) (v_cX 4096 (bcD at_ c d) (bcQ at_) 8)).ad == (v_l05_Right d).ad && true)))))))))) (some (AV.bool (false))) 
 (cond (v_reg (2147483648#64) (4096#64) (bcP at_) 8#64) 
 (cond (g_ram 4096 (bcT at_ c d) 4096 (bcD at_ c d)) 
 (cond (!v_ok 4096 (bcP at_ - 2147483648#64) 8#64) (some (AV.bool (false))) 
 (cond (!v_lV 4096 (bcD at_ c d) (bcP at_ - 2147483648#64) 8#64 == (v_l05_Right c).ad) (some (AV.bool (false))) 
 (cond (v_reg (2147483648#64) (4096#64) (bcP at_ + k % 16#64) 1#64) 
 (cond (g_ram 4096 (bcT at_ c d) 4096 (bcD at_ c d)) 
 (cond (!v_ok 4096 (bcP at_ + k % 16#64 - 2147483648#64) 1#64) (some (AV.bool (false))) 
 (cond (!v_reg (2147483648#64) (4096#64) (bcP at_) 16#64) 
 (cond (!v_reg (2147483648#64) (4096#64) (bcP at_ + 16#64) 16#64) (some (AV.bool (false))) 
 (cond (g_ram 4096 (v_sT 4096 (bcT at_ c d) (bcP at_ + k % 16#64 - 2147483648#64) 1#64) 4096 (v_sD 4096 (bcD at_ c d) (bcP at_ + k % 16#64 - 2147483648#64) (1#64) v)) 
 (cond (!v_okC 4096 (bcQ at_)) (some (AV.bool (false))) (some (AV.bool (false)))) none)) 
 (cond (g_ram 4096 (v_sT 4096 (bcT at_ c d) (bcP at_ + k % 16#64 - 2147483648#64) 1#64) 4096 (v_sD 4096 (bcD at_ c d) (bcP at_ + k % 16#64 - 2147483648#64) (1#64) v)) 
 (cond (!v_okC 4096 (bcO at_)) 
 (cond (!v_reg (2147483648#64) (4096#64) (bcP at_ + 16#64) 16#64) (some (AV.bool (false))) 
 (cond (g_ram 4096 (v_sT 4096 (bcT at_ c d) (bcP at_ + k % 16#64 - 2147483648#64) 1#64) 4096 (v_sD 4096 (bcD at_ c d) (bcP at_ + k % 16#64 - 2147483648#64) (1#64) v)) 
 (cond (!v_okC 4096 (bcQ at_)) (some (AV.bool (false))) (some (AV.bool (false)))) none)) 
 (cond (!v_reg (2147483648#64) (4096#64) (bcP at_ + 16#64) 16#64) 
 (cond (!(v_capenc_Unpack (v_cT 4096 (v_sT 4096 (bcT at_ c d) (bcP at_ + k % 16#64 - 2147483648#64) 1#64) (bcO at_)) (v_cX 4096 (v_sD 4096 (bcD at_ c d) (bcP at_ + k % 16#64 - 2147483648#64) (1#64) v) (bcO at_) 0) (v_cX 4096 (v_sD 4096 (bcD at_ c d) (bcP at_ + k % 16#64 - 2147483648#64) (1#64) v) (bcO at_) 8)).tag) (some (AV.bool (false))) (some (AV.bool (false)))) 
 (cond (g_ram 4096 (v_sT 4096 (bcT at_ c d) (bcP at_ + k % 16#64 - 2147483648#64) 1#64) 4096 (v_sD 4096 (bcD at_ c d) (bcP at_ + k % 16#64 - 2147483648#64) (1#64) v)) 
 (cond (!v_okC 4096 (bcQ at_)) 
 (cond (!(v_capenc_Unpack (v_cT 4096 (v_sT 4096 (bcT at_ c d) (bcP at_ + k % 16#64 - 2147483648#64) 1#64) (bcO at_)) (v_cX 4096 (v_sD 4096 (bcD at_ c d) (bcP at_ + k % 16#64 - 2147483648#64) (1#64) v) (bcO at_) 0) (v_cX 4096 (v_sD 4096 (bcD at_ c d) (bcP at_ + k % 16#64 - 2147483648#64) (1#64) v) (bcO at_) 8)).tag) (some (AV.bool (false))) (some (AV.bool (false)))) 
 (cond (!(v_capenc_Unpack (v_cT 4096 (v_sT 4096 (bcT at_ c d) (bcP at_ + k % 16#64 - 2147483648#64) 1#64) (bcO at_)) (v_cX 4096 (v_sD 4096 (bcD at_ c d) (bcP at_ + k % 16#64 - 2147483648#64) (1#64) v) (bcO at_) 0) (v_cX 4096 (v_sD 4096 (bcD at_ c d) (bcP at_ + k % 16#64 - 2147483648#64) (1#64) v) (bcO at_) 8)).tag) 
 (cond ((v_capenc_Unpack (v_cT 4096 (v_sT 4096 (bcT at_ c d) (bcP at_ + k % 16#64 - 2147483648#64) 1#64) (bcQ at_)) (v_cX 4096 (v_sD 4096 (bcD at_ c d) (bcP at_ + k % 16#64 - 2147483648#64) (1#64) v) (bcQ at_) 0) (v_cX 4096 (v_sD 4096 (bcD at_ c d) (bcP at_ + k % 16#64 - 2147483648#64) (1#64) v) (bcQ at_) 8)).tag == (v_l05_Right d).tag && ((v_capenc_Unpack (v_cT 4096 (v_sT 4096 (bcT at_ c d) (bcP at_ + k % 16#64 - 2147483648#64) 1#64) (bcQ at_)) (v_cX 4096 (v_sD 4096 (bcD at_ c d) (bcP at_ + k % 16#64 - 2147483648#64) (1#64) v) (bcQ at_) 0) (v_cX 4096 (v_sD 4096 (bcD at_ c d) (bcP at_ + k % 16#64 - 2147483648#64) (1#64) v) (bcQ at_) 8)).per == (v_l05_Right d).per && ((v_capenc_Unpack (v_cT 4096 (v_sT 4096 (bcT at_ c d) (bcP at_ + k % 16#64 - 2147483648#64) 1#64) (bcQ at_)) (v_cX 4096 (v_sD 4096 (bcD at_ c d) (bcP at_ + k % 16#64 - 2147483648#64) (1#64) v) (bcQ at_) 0) (v_cX 4096 (v_sD 4096 (bcD at_ c d) (bcP at_ + k % 16#64 - 2147483648#64) (1#64) v) (bcQ at_) 8)).ty == (v_l05_Right d).ty && ((v_capenc_Unpack (v_cT 4096 (v_sT 4096 (bcT at_ c d) (bcP at_ + k % 16#64 - 2147483648#64) 1#64) (bcQ at_)) (v_cX 4096 (v_sD 4096 (bcD at_ c d) (bcP at_ + k % 16#64 - 2147483648#64) (1#64) v) (bcQ at_) 0) (v_cX 4096 (v_sD 4096 (bcD at_ c d) (bcP at_ + k % 16#64 - 2147483648#64) (1#64) v) (bcQ at_) 8)).mo == (v_l05_Right d).mo && ((v_capenc_Unpack (v_cT 4096 (v_sT 4096 (bcT at_ c d) (bcP at_ + k % 16#64 - 2147483648#64) 1#64) (bcQ at_)) (v_cX 4096 (v_sD 4096 (bcD at_ c d) (bcP at_ + k % 16#64 - 2147483648#64) (1#64) v) (bcQ at_) 0) (v_cX 4096 (v_sD 4096 (bcD at_ c d) (bcP at_ + k % 16#64 - 2147483648#64) (1#64) v) (bcQ at_) 8)).e == (v_l05_Right d).e && ((v_capenc_Unpack (v_cT 4096 (v_sT 4096 (bcT at_ c d) (bcP at_ + k % 16#64 - 2147483648#64) 1#64) (bcQ at_)) (v_cX 4096 (v_sD 4096 (bcD at_ c d) (bcP at_ + k % 16#64 - 2147483648#64) (1#64) v) (bcQ at_) 0) (v_cX 4096 (v_sD 4096 (bcD at_ c d) (bcP at_ + k % 16#64 - 2147483648#64) (1#64) v) (bcQ at_) 8)).b == (v_l05_Right d).b && ((v_capenc_Unpack (v_cT 4096 (v_sT 4096 (bcT at_ c d) (bcP at_ + k % 16#64 - 2147483648#64) 1#64) (bcQ at_)) (v_cX 4096 (v_sD 4096 (bcD at_ c d) (bcP at_ + k % 16#64 - 2147483648#64) (1#64) v) (bcQ at_) 0) (v_cX 4096 (v_sD 4096 (bcD at_ c d) (bcP at_ + k % 16#64 - 2147483648#64) (1#64) v) (bcQ at_) 8)).t == (v_l05_Right d).t && ((v_capenc_Unpack (v_cT 4096 (v_sT 4096 (bcT at_ c d) (bcP at_ + k % 16#64 - 2147483648#64) 1#64) (bcQ at_)) (v_cX 4096 (v_sD 4096 (bcD at_ c d) (bcP at_ + k % 16#64 - 2147483648#64) (1#64) v) (bcQ at_) 0) (v_cX 4096 (v_sD 4096 (bcD at_ c d) (bcP at_ + k % 16#64 - 2147483648#64) (1#64) v) (bcQ at_) 8)).big == (v_l05_Right d).big && ((v_capenc_Unpack (v_cT 4096 (v_sT 4096 (bcT at_ c d) (bcP at_ + k % 16#64 - 2147483648#64) 1#64) (bcQ at_)) (v_cX 4096 (v_sD 4096 (bcD at_ c d) (bcP at_ + k % 16#64 - 2147483648#64) (1#64) v) (bcQ at_) 0) (v_cX 4096 (v_sD 4096 (bcD at_ c d) (bcP at_ + k % 16#64 - 2147483648#64) (1#64) v) (bcQ at_) 8)).ad == (v_l05_Right d).ad && true))))))))) (some (AV.bool (true))) (some (AV.bool (false)))) (some (AV.bool (false))))) none))) none))) none) 
 (cond (v_reg (33554432#64) (65536#64) (bcP at_ + k % 16#64) 1#64) none 
 (cond (v_reg (201326592#64) (4194304#64) (bcP at_ + k % 16#64) 1#64) none 
 (cond (v_reg (268435456#64) (256#64) (bcP at_ + k % 16#64) 1#64) none 
 (cond (v_reg (1048576#64) (4096#64) (bcP at_ + k % 16#64) 1#64) none (some (AV.bool (false)))))))))) none) 
 (cond (v_reg (33554432#64) (65536#64) (bcP at_) 8#64) none 
 (cond (v_reg (201326592#64) (4194304#64) (bcP at_) 8#64) none 
 (cond (v_reg (268435456#64) (256#64) (bcP at_) 8#64) none 
 (cond (v_reg (1048576#64) (4096#64) (bcP at_) 8#64) none (some (AV.bool (false))))))))))) none))) none))) none))))
end Go.Sx

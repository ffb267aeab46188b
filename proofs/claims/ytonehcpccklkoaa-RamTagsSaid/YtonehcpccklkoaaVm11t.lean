/- What laws come to. -/
import Derived.Test.YtonehcpccklkoaaSxX
import Derived.Test.YtonehcpccklkoaaSxSR
import Derived.Test.YtonehcpccklkoaaVa03
import Derived.Test.YtonehcpccklkoaaPlRamTA
import Derived.Test.YtonehcpccklkoaaPlRamTB
set_option linter.unusedSimpArgs false
set_option linter.unusedVariables false
set_option linter.unnecessarySimpa false
namespace Go.Sx
open Go

noncomputable def t_RamTags_r (k : Nat) (d : List (List AV)) : Option AV :=
 (cond (g_mta (mta0 k d)) 
(cond (g_mtb (MtbS.z 4096 (v_mta (mta0 k d)).tg 4096 (v_mta (mta0 k d)).d 256 256 (v_mta (mta0 k d)).T 0#64)) 
(cond (v_emp (v_xtagged (v_mta (mta0 k d)).T 256)) 
(cond (g_tag 4096 (v_mta (mta0 k d)).tg 4096 (v_mta (mta0 k d)).d) 
(cond (v_emp (v_tagged (v_mta (mta0 k d)).tg 4096)) (some (AV.bool (true))) 
(cond ((v_tagged (v_mta (mta0 k d)).tg 4096).length.blt 9223372036854775808) 
(cond ((v_tagged (v_mta (mta0 k d)).tg 4096).length.beq 0) (some (AV.bool (true))) (some (AV.bool (false)))) none)) none) 
(cond (g_tag 4096 (v_mta (mta0 k d)).tg 4096 (v_mta (mta0 k d)).d) 
(cond (v_emp (v_tagged (v_mta (mta0 k d)).tg 4096)) 
(cond ((v_xtagged (v_mta (mta0 k d)).T 256).length.blt 9223372036854775808) 
(cond ((v_xtagged (v_mta (mta0 k d)).T 256).length.beq 0) (some (AV.bool (true))) (some (AV.bool (false)))) none) 
(cond (g_ss (v_tagged (v_mta (mta0 k d)).tg 4096).length (v_tagged (v_mta (mta0 k d)).tg 4096).length (v_xtagged (v_mta (mta0 k d)).T 256).length (v_xtagged (v_mta (mta0 k d)).T 256).length) 
(cond (v_same (v_tagged (v_mta (mta0 k d)).tg 4096) (v_xtagged (v_mta (mta0 k d)).T 256) (v_tagged (v_mta (mta0 k d)).tg 4096).length (v_xtagged (v_mta (mta0 k d)).T 256).length) (some (AV.bool (true))) (some (AV.bool (false)))) none)) none)) none) none)

noncomputable def t_RamTags_n  : Option AV :=
 (cond (g_mtb (MtbS.z 4096 zT 4096 (zB 4096) 256 256 (zF 256) 0#64))
 (some (AV.bool (true)))
 none)
end Go.Sx

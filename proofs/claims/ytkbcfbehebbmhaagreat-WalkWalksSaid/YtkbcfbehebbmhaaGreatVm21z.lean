/- What laws come to. -/
import Derived.Test.YtkbcfbehebbmhaaGreatSxX
import Derived.Test.YtkbcfbehebbmhaaGreatSxLen2
import Derived.Test.YtkbcfbehebbmhaaGreatVa03
import Derived.Test.YtkbcfbehebbmhaaGreatPlWkM2
import Derived.Test.YtkbcfbehebbmhaaGreatPlWkB
import Derived.Test.YtkbcfbehebbmhaaGreatPlWkU
import Derived.Test.YtkbcfbehebbmhaaGreatPlWkV
set_option linter.unusedSimpArgs false
set_option linter.unusedVariables false
set_option linter.unnecessarySimpa false
namespace Go.Sx
open Go

noncomputable def t_WalkWalks_rr (k : Nat) (ws : List (List AV)) (kk : Nat) (aq : List (List AV)) : Option AV :=
 (cond (g_lz k k)
 (cond (g_lz k k)
 (cond (g_mww 12288 (v_lyT 12288 v_zT (v_lyR k ws 0)) 12288 (v_lyD 12288 v_zB (v_lyR k ws 0)) 12288 768 12288 (v_lyD 12288 v_zB (v_lyR k ws 0)) 768 (v_lyX 12288 v_zX (v_lyR k ws 0)) kk kk 0#64)
 (cond (g_by 12288 (v_ww 12288 (v_wwR kk aq 0) { tg := v_lyT 12288 v_zT (v_lyR k ws 0), d := v_lyD 12288 v_zB (v_lyR k ws 0), T := v_lyX 12288 v_zX (v_lyR k ws 0) }).tg 12288 (v_ww 12288 (v_wwR kk aq 0) { tg := v_lyT 12288 v_zT (v_lyR k ws 0), d := v_lyD 12288 v_zB (v_lyR k ws 0), T := v_lyX 12288 v_zX (v_lyR k ws 0) }).d 12288 768 12288 (v_ww 12288 (v_wwR kk aq 0) { tg := v_lyT 12288 v_zT (v_lyR k ws 0), d := v_lyD 12288 v_zB (v_lyR k ws 0), T := v_lyX 12288 v_zX (v_lyR k ws 0) }).d 768 (v_ww 12288 (v_wwR kk aq 0) { tg := v_lyT 12288 v_zT (v_lyR k ws 0), d := v_lyD 12288 v_zB (v_lyR k ws 0), T := v_lyX 12288 v_zX (v_lyR k ws 0) }).T 0#64)
 (some (AV.bool (true)))
    none)
   none)
  none)
 none)

noncomputable def t_WalkWalks_rn (k : Nat) (ws : List (List AV)) : Option AV :=
 (cond (g_lz k k)
 (cond (g_lz k k)
 (cond (g_by 12288 (v_lyT 12288 v_zT (v_lyR k ws 0)) 12288 (v_lyD 12288 v_zB (v_lyR k ws 0)) 12288 768 12288 (v_lyD 12288 v_zB (v_lyR k ws 0)) 768 (v_lyX 12288 v_zX (v_lyR k ws 0)) 0#64)
 (some (AV.bool (true)))
   none)
  none)
 none)

noncomputable def t_WalkWalks_nr (kk : Nat) (aq : List (List AV)) : Option AV :=
 (cond (g_mww 12288 v_zT 12288 v_zB 12288 768 12288 v_zB 768 v_zX kk kk 0#64)
 (cond (g_by 12288 (v_ww 12288 (v_wwR kk aq 0) { tg := v_zT, d := v_zB, T := v_zX }).tg 12288 (v_ww 12288 (v_wwR kk aq 0) { tg := v_zT, d := v_zB, T := v_zX }).d 12288 768 12288 (v_ww 12288 (v_wwR kk aq 0) { tg := v_zT, d := v_zB, T := v_zX }).d 768 (v_ww 12288 (v_wwR kk aq 0) { tg := v_zT, d := v_zB, T := v_zX }).T 0#64)
 (some (AV.bool (true)))
  none)
 none)

noncomputable def t_WalkWalks_nn  : Option AV :=
 (cond (g_by 12288 v_zT 12288 v_zB 12288 768 12288 v_zB 768 v_zX 0#64)
 (some (AV.bool (true)))
 none)
end Go.Sx

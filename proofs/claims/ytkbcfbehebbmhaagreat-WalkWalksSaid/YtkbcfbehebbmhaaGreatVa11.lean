/- What functions of plain values answer. -/
import Derived.Test.YtkbcfbehebbmhaaGreatSxAE
import Derived.Test.YtkbcfbehebbmhaaGreatSxLen2
import Derived.Test.YtkbcfbehebbmhaaGreatPlUp
import Derived.Test.YtkbcfbehebbmhaaGreatVa03
set_option linter.unusedSimpArgs false
set_option linter.unusedVariables false
set_option linter.unnecessarySimpa false
namespace Go.Sx

def v_l11_known  : Bool :=
 (true)

def v_r11_sized (n : BitVec 64) : Bool :=
 (cond (n == 1#64)
 (true)
 (cond (n == 2#64)
  (true)
  (cond (n == 4#64)
   (true)
   (n == 8#64))))

end Go.Sx

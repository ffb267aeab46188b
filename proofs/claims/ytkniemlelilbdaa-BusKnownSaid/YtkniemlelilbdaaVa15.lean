/- What functions of plain values answer. -/
import Derived.Test.YtkniemlelilbdaaSxAE
import Derived.Test.YtkniemlelilbdaaSxLen2
import Derived.Test.YtkniemlelilbdaaPlUp
import Derived.Test.YtkniemlelilbdaaVa03
import Derived.Test.YtkniemlelilbdaaVa11
set_option linter.unusedSimpArgs false
set_option linter.unusedVariables false
set_option linter.unnecessarySimpa false
namespace Go.Sx

noncomputable def t_l15_known  : Option AV :=
 (some (AV.bool (true)))

end Go.Sx

/- What functions of plain values answer. -/
import Derived.Test.YtkbcfbehebbmhaaSxAE
import Derived.Test.YtkbcfbehebbmhaaSxLen2
import Derived.Test.YtkbcfbehebbmhaaPlUp
import Derived.Test.YtkbcfbehebbmhaaVa03
import Derived.Test.YtkbcfbehebbmhaaVa11
import Derived.Test.YtkbcfbehebbmhaaVa21
set_option linter.unusedSimpArgs false
set_option linter.unusedVariables false
set_option linter.unnecessarySimpa false
namespace Go.Sx

noncomputable def t_l21_known  : Option AV :=
 (some (AV.bool (true)))

end Go.Sx

/- What functions of plain values answer. -/
import Derived.Test.YtkbcfbehebbmhaaGreatSxAE
import Derived.Test.YtkbcfbehebbmhaaGreatSxLen2
import Derived.Test.YtkbcfbehebbmhaaGreatPlUp
import Derived.Test.YtkbcfbehebbmhaaGreatVa03
import Derived.Test.YtkbcfbehebbmhaaGreatVa11
import Derived.Test.YtkbcfbehebbmhaaGreatVa21
set_option linter.unusedSimpArgs false
set_option linter.unusedVariables false
set_option linter.unnecessarySimpa false
namespace Go.Sx

noncomputable def t_l21_known  : Option AV :=
 (some (AV.bool (true)))

end Go.Sx

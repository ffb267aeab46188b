/- What laws come to. -/
import Derived.Test.YtkniemlelilbdaaSxX
import Derived.Test.YtkniemlelilbdaaSxLen2
import Derived.Test.YtkniemlelilbdaaVa03
import Derived.Test.YtkniemlelilbdaaPlRamR
set_option linter.unusedSimpArgs false
set_option linter.unusedVariables false
set_option linter.unnecessarySimpa false
namespace Go.Sx
open Go

noncomputable def t_BusKnown_x  : Option AV :=
 (some (AV.bool (true)))
end Go.Sx

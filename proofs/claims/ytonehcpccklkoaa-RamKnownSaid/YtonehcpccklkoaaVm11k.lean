/- What laws come to. -/
import Derived.Test.YtonehcpccklkoaaSxX
import Derived.Test.YtonehcpccklkoaaSxSR
import Derived.Test.YtonehcpccklkoaaVa03
import Derived.Test.YtonehcpccklkoaaPlRamR
set_option linter.unusedSimpArgs false
set_option linter.unusedVariables false
set_option linter.unnecessarySimpa false
namespace Go.Sx
open Go

noncomputable def t_RamKnown_x  : Option AV :=
 (some (AV.bool (true)))
end Go.Sx

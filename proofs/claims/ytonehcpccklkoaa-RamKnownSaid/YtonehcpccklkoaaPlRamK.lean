/- RamKnown: the law. -/
import Derived.Test.YtonehcpccklkoaaVm11k
set_option linter.unusedSimpArgs false
set_option linter.unusedVariables false
set_option linter.unnecessarySimpa false
namespace Go.Sx
open Go
theorem ramKnown_x : t_RamKnown_x = some (.bool true) := rfl
end Go.Sx

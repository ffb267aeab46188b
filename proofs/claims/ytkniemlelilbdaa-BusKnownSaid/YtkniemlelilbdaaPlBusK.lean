/- BusKnown: the law. -/
import Derived.Test.YtkniemlelilbdaaVm15n
set_option linter.unusedSimpArgs false
set_option linter.unusedVariables false
set_option linter.unnecessarySimpa false
namespace Go.Sx
open Go
theorem busKnown_x : t_BusKnown_x = some (.bool true) := rfl
end Go.Sx

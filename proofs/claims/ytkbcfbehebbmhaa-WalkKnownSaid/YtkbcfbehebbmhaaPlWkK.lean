/- WalkKnown: the law. -/
import Derived.Test.YtkbcfbehebbmhaaVm21k
set_option linter.unusedSimpArgs false
set_option linter.unusedVariables false
set_option linter.unnecessarySimpa false
namespace Go.Sx
open Go
theorem walkKnown_x : t_WalkKnown_x = some (.bool true) := rfl
end Go.Sx

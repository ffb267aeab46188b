/- What laws come to. -/
import Derived.Test.YtaieimjeffedhaaSxX
import Derived.Test.YtaieimjeffedhaaSxSR
import Derived.Test.YtaieimjeffedhaaVa12
import Derived.Test.YtaieimjeffedhaaPlPlr3
set_option linter.unusedSimpArgs false
set_option linter.unusedVariables false
set_option linter.unnecessarySimpa false
namespace Go.Sx
open Go

noncomputable def t_PlicRuns_r (n : Nat) (d : List (List AV)) : Option AV :=
 (cond ((300#64).slt (BitVec.ofNat 64 n))
 (some (AV.bool (true)))
 (cond (g_pl (PlS.a n n d zr32 0#32 0#32 zr2 zr2 [[AV.int IntKind.i64 0#64, AV.bool false, AV.bool false, AV.bool false, AV.bool false], [AV.int IntKind.i64 0#64, AV.bool false, AV.bool false, AV.bool false, AV.bool false], [AV.int IntKind.i64 0#64, AV.bool false, AV.bool false, AV.bool false, AV.bool false], [AV.int IntKind.i64 0#64, AV.bool false, AV.bool false, AV.bool false, AV.bool false], [AV.int IntKind.i64 0#64, AV.bool false, AV.bool false, AV.bool false, AV.bool false], [AV.int IntKind.i64 0#64, AV.bool false, AV.bool false, AV.bool false, AV.bool false], [AV.int IntKind.i64 0#64, AV.bool false, AV.bool false, AV.bool false, AV.bool false], [AV.int IntKind.i64 0#64, AV.bool false, AV.bool false, AV.bool false, AV.bool false], [AV.int IntKind.i64 0#64, AV.bool false, AV.bool false, AV.bool false, AV.bool false], [AV.int IntKind.i64 0#64, AV.bool false, AV.bool false, AV.bool false, AV.bool false], [AV.int IntKind.i64 0#64, AV.bool false, AV.bool false, AV.bool false, AV.bool false], [AV.int IntKind.i64 0#64, AV.bool false, AV.bool false, AV.bool false, AV.bool false], [AV.int IntKind.i64 0#64, AV.bool false, AV.bool false, AV.bool false, AV.bool false], [AV.int IntKind.i64 0#64, AV.bool false, AV.bool false, AV.bool false, AV.bool false], [AV.int IntKind.i64 0#64, AV.bool false, AV.bool false, AV.bool false, AV.bool false], [AV.int IntKind.i64 0#64, AV.bool false, AV.bool false, AV.bool false, AV.bool false], [AV.int IntKind.i64 0#64, AV.bool false, AV.bool false, AV.bool false, AV.bool false], [AV.int IntKind.i64 0#64, AV.bool false, AV.bool false, AV.bool false, AV.bool false], [AV.int IntKind.i64 0#64, AV.bool false, AV.bool false, AV.bool false, AV.bool false], [AV.int IntKind.i64 0#64, AV.bool false, AV.bool false, AV.bool false, AV.bool false], [AV.int IntKind.i64 0#64, AV.bool false, AV.bool false, AV.bool false, AV.bool false], [AV.int IntKind.i64 0#64, AV.bool false, AV.bool false, AV.bool false, AV.bool false], [AV.int IntKind.i64 0#64, AV.bool false, AV.bool false, AV.bool false, AV.bool false], [AV.int IntKind.i64 0#64, AV.bool false, AV.bool false, AV.bool false, AV.bool false], [AV.int IntKind.i64 0#64, AV.bool false, AV.bool false, AV.bool false, AV.bool false], [AV.int IntKind.i64 0#64, AV.bool false, AV.bool false, AV.bool false, AV.bool false], [AV.int IntKind.i64 0#64, AV.bool false, AV.bool false, AV.bool false, AV.bool false], [AV.int IntKind.i64 0#64, AV.bool false, AV.bool false, AV.bool false, AV.bool false], [AV.int IntKind.i64 0#64, AV.bool false, AV.bool false, AV.bool false, AV.bool false], [AV.int IntKind.i64 0#64, AV.bool false, AV.bool false, AV.bool false, AV.bool false], [AV.int IntKind.i64 0#64, AV.bool false, AV.bool false, AV.bool false, AV.bool false], [AV.int IntKind.i64 0#64, AV.bool false, AV.bool false, AV.bool false, AV.bool false]] [[AV.int IntKind.i64 0#64], [AV.int IntKind.i64 0#64]] 0#64))
 (some (AV.bool (true)))
  none))

noncomputable def t_PlicRuns_n  : Option AV :=
 (some (AV.bool (true)))
end Go.Sx

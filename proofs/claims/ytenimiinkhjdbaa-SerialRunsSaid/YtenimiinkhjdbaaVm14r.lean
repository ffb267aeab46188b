/- What laws come to. -/
import Derived.Test.YtenimiinkhjdbaaSxX
import Derived.Test.YtenimiinkhjdbaaSxSR
import Derived.Test.YtenimiinkhjdbaaVa03
import Derived.Test.YtenimiinkhjdbaaVa14
import Derived.Test.YtenimiinkhjdbaaPlSr4
set_option linter.unusedSimpArgs false
set_option linter.unusedVariables false
set_option linter.unnecessarySimpa false
namespace Go.Sx
open Go

noncomputable def t_SerialRuns_r (n : Nat) (d : List (List AV)) : Option AV :=
 (cond ((400#64).slt (BitVec.ofNat 64 n))
 (some (AV.bool (true)))
 (cond (g_sr (SrS.nn false n n d [[AV.int IntKind.u8 0#8], [AV.int IntKind.u8 0#8], [AV.int IntKind.u8 0#8], [AV.int IntKind.u8 0#8], [AV.int IntKind.u8 0#8], [AV.int IntKind.u8 0#8], [AV.int IntKind.u8 0#8], [AV.int IntKind.u8 0#8], [AV.int IntKind.u8 0#8], [AV.int IntKind.u8 0#8], [AV.int IntKind.u8 0#8], [AV.int IntKind.u8 0#8], [AV.int IntKind.u8 0#8], [AV.int IntKind.u8 0#8], [AV.int IntKind.u8 0#8], [AV.int IntKind.u8 0#8]] (0#64) (0#64) false false (18446744073709551615#64) false false 0#64))
 (cond (v_srN (SrS.nn false n n d [[AV.int IntKind.u8 0#8], [AV.int IntKind.u8 0#8], [AV.int IntKind.u8 0#8], [AV.int IntKind.u8 0#8], [AV.int IntKind.u8 0#8], [AV.int IntKind.u8 0#8], [AV.int IntKind.u8 0#8], [AV.int IntKind.u8 0#8], [AV.int IntKind.u8 0#8], [AV.int IntKind.u8 0#8], [AV.int IntKind.u8 0#8], [AV.int IntKind.u8 0#8], [AV.int IntKind.u8 0#8], [AV.int IntKind.u8 0#8], [AV.int IntKind.u8 0#8], [AV.int IntKind.u8 0#8]] (0#64) (0#64) false false (18446744073709551615#64) false false 0#64) 5)
 (some (AV.bool (true)))
 (cond (v_srN (SrS.nn false n n d [[AV.int IntKind.u8 0#8], [AV.int IntKind.u8 0#8], [AV.int IntKind.u8 0#8], [AV.int IntKind.u8 0#8], [AV.int IntKind.u8 0#8], [AV.int IntKind.u8 0#8], [AV.int IntKind.u8 0#8], [AV.int IntKind.u8 0#8], [AV.int IntKind.u8 0#8], [AV.int IntKind.u8 0#8], [AV.int IntKind.u8 0#8], [AV.int IntKind.u8 0#8], [AV.int IntKind.u8 0#8], [AV.int IntKind.u8 0#8], [AV.int IntKind.u8 0#8], [AV.int IntKind.u8 0#8]] (0#64) (0#64) false false (18446744073709551615#64) false false 0#64) 6)
 (some (AV.bool (true)))
 (some (AV.bool (true)))))
  none))

noncomputable def t_SerialRuns_n  : Option AV :=
 (some (AV.bool (true)))
end Go.Sx

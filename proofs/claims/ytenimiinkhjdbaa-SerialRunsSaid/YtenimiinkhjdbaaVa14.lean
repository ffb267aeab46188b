/- What functions of plain values answer. -/
import Derived.Test.YtenimiinkhjdbaaSxY
import Derived.Test.YtenimiinkhjdbaaSxLen2
import Derived.Test.YtenimiinkhjdbaaPlUp
import Derived.Test.YtenimiinkhjdbaaSxAE
import Derived.Test.YtenimiinkhjdbaaVa03
set_option linter.unusedSimpArgs false
set_option linter.unusedVariables false
set_option linter.unnecessarySimpa false
namespace Go.Sx

def v_serial_there (off : BitVec 64) (size : BitVec 64) : Bool :=
 (cond (size == 1#64)
 (cond ((0#64).sle off)
  (off.sle 7#64)
  (false))
 (false))

def v_serial_one (xis : Bool) : BitVec 64 :=
 (cond (xis)
 (1#64)
 (0#64))

def v_l14_works  : Bool :=
 (true)

end Go.Sx

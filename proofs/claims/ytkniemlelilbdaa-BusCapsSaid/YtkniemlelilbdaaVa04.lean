/- What functions of plain values answer. -/
import Derived.Test.YtkniemlelilbdaaSxAE
import Derived.Test.YtkniemlelilbdaaSxLen2
import Derived.Test.YtkniemlelilbdaaPlUp
import Derived.Test.YtkniemlelilbdaaVa03
import Derived.Test.YtkniemlelilbdaaVa05
import Derived.Test.YtkniemlelilbdaaVa11
set_option linter.unusedSimpArgs false
set_option linter.unusedVariables false
set_option linter.unnecessarySimpa false
namespace Go.Sx

def v_capenc_meta (c : Cp) : BitVec 64 :=
 (cond (c.big)
 (0#64 ||| (BitVec.signExtend 64 (c.b ||| c.e &&& 7#64) &&& 16383#64) <<< 0 ||| (BitVec.signExtend 64 (c.t ||| c.e.sshiftRight 3) &&& 4095#64) <<< 14 ||| 67108864#64 ||| (BitVec.signExtend 64 c.ty &&& 262143#64) <<< 27 ||| (BitVec.signExtend 64 c.mo &&& 1#64) <<< 45 ||| (BitVec.signExtend 64 c.per &&& 65535#64) <<< 46)
 (0#64 ||| (BitVec.signExtend 64 c.b &&& 16383#64) <<< 0 ||| (BitVec.signExtend 64 c.t &&& 4095#64) <<< 14 ||| 0#64 ||| (BitVec.signExtend 64 c.ty &&& 262143#64) <<< 27 ||| (BitVec.signExtend 64 c.mo &&& 1#64) <<< 45 ||| (BitVec.signExtend 64 c.per &&& 65535#64) <<< 46))

def v_capenc_Unpack (tag : Bool) (addr : BitVec 64) (bits : BitVec 64) : Cp :=
 (cond (BitVec.setWidth 64 ((bits ^^^ 35184305078276#64) >>> 26 &&& 1#64) == 1#64)
 (⟨(tag), (BitVec.setWidth 64 ((bits ^^^ 35184305078276#64) >>> 46 &&& 65535#64)), (BitVec.setWidth 64 ((bits ^^^ 35184305078276#64) >>> 27 &&& 262143#64)), (BitVec.setWidth 64 ((bits ^^^ 35184305078276#64) >>> 45 &&& 1#64)), (bif (52#64).slt ((BitVec.setWidth 64 ((bits ^^^ 35184305078276#64) >>> 14 &&& 4095#64) &&& 7#64) <<< 3 ||| BitVec.setWidth 64 ((bits ^^^ 35184305078276#64) >>> 0 &&& 16383#64) &&& 7#64) then 52#64 else (BitVec.setWidth 64 ((bits ^^^ 35184305078276#64) >>> 14 &&& 4095#64) &&& 7#64) <<< 3 ||| BitVec.setWidth 64 ((bits ^^^ 35184305078276#64) >>> 0 &&& 16383#64) &&& 7#64), (BitVec.setWidth 64 ((bits ^^^ 35184305078276#64) >>> 0 &&& 16383#64) &&& 18446744073709551608#64), (BitVec.setWidth 64 ((bits ^^^ 35184305078276#64) >>> 14 &&& 4095#64) &&& 18446744073709551608#64), (BitVec.setWidth 64 ((bits ^^^ 35184305078276#64) >>> 26 &&& 1#64) == 1#64), (addr)⟩ : Cp)
 (⟨(tag), (BitVec.setWidth 64 ((bits ^^^ 35184305078276#64) >>> 46 &&& 65535#64)), (BitVec.setWidth 64 ((bits ^^^ 35184305078276#64) >>> 27 &&& 262143#64)), (BitVec.setWidth 64 ((bits ^^^ 35184305078276#64) >>> 45 &&& 1#64)), (0#64), (BitVec.setWidth 64 ((bits ^^^ 35184305078276#64) >>> 0 &&& 16383#64)), (BitVec.setWidth 64 ((bits ^^^ 35184305078276#64) >>> 14 &&& 4095#64)), (BitVec.setWidth 64 ((bits ^^^ 35184305078276#64) >>> 26 &&& 1#64) == 1#64), (addr)⟩ : Cp))

def v_capenc_Pack (c : Cp) : BitVec 64 × BitVec 64 :=
 ((c.ad), (v_capenc_meta c ^^^ 35184305078276#64))

end Go.Sx

/- What functions of plain values answer. -/
import Derived.Test.YtpofnfcbgamhpaaSxY
import Derived.Test.YtpofnfcbgamhpaaSxLen2
import Derived.Test.YtpofnfcbgamhpaaPlUp
import Derived.Test.YtpofnfcbgamhpaaSxAE
import Derived.Test.YtpofnfcbgamhpaaVa03
import Derived.Test.YtpofnfcbgamhpaaVa05
import Derived.Test.YtpofnfcbgamhpaaPlHart
set_option linter.unusedSimpArgs false
set_option linter.unusedVariables false
set_option linter.unnecessarySimpa false
namespace Go.Sx

def v_trap_lay (v : BitVec 64) (xat : BitVec 64) (width : BitVec 64) (bits : BitVec 64) : BitVec 64 :=
 (v &&& ~~~((1#64 <<< min width.toNat 64 - 1#64) <<< min xat.toNat 64) ||| (bits &&& 1#64 <<< min width.toNat 64 - 1#64) <<< min xat.toNat 64)

def v_trap_open (c : Cp) : Cp :=
 (cond (c.ty == 262142#64)
 (⟨(c.tag), (c.per), (262143#64), (c.mo), (c.e), (c.b), (c.t), (c.big), (c.ad)⟩ : Cp)
 (c))

def v_trap_Enter (ε : En) (cause : BitVec 64) (intr : Bool) (value : BitVec 64) : En :=
 (cond (intr)
 (cond ((ε.p).sle 1#64)
  (cond (ε.mi >>> min cause.toNat 64 &&& 1#64 == 1#64)
   (cond (intr)
    (cond ((ε.stcc).ad &&& 1#64 == 1#64)
     ({ pcc := v_capops_Move (v_trap_open (ε.stcc)) (((ε.stcc).ad &&& 18446744073709551612#64) + 4#64 * BitVec.signExtend 64 cause), sepcc := ε.pcc, mepcc := ε.mepcc, stcc := ε.stcc, mtcc := ε.mtcc, p := 1#64, m := v_trap_lay (v_trap_lay (v_trap_lay (ε.m) (5#64) (1#64) (ε.m >>> 1)) 1#64 1#64 0#64) (8#64) (1#64) (BitVec.signExtend 64 (ε.p)), md := ε.md, mi := ε.mi, mc := ε.mc, sc := BitVec.signExtend 64 cause ||| 9223372036854775808#64, mt := ε.mt, st := value, w := false })
     ({ pcc := v_capops_Move (v_trap_open (ε.stcc)) ((ε.stcc).ad &&& 18446744073709551612#64), sepcc := ε.pcc, mepcc := ε.mepcc, stcc := ε.stcc, mtcc := ε.mtcc, p := 1#64, m := v_trap_lay (v_trap_lay (v_trap_lay (ε.m) (5#64) (1#64) (ε.m >>> 1)) 1#64 1#64 0#64) (8#64) (1#64) (BitVec.signExtend 64 (ε.p)), md := ε.md, mi := ε.mi, mc := ε.mc, sc := BitVec.signExtend 64 cause ||| 9223372036854775808#64, mt := ε.mt, st := value, w := false }))
    ({ pcc := v_capops_Move (v_trap_open (ε.stcc)) ((ε.stcc).ad &&& 18446744073709551612#64), sepcc := ε.pcc, mepcc := ε.mepcc, stcc := ε.stcc, mtcc := ε.mtcc, p := 1#64, m := v_trap_lay (v_trap_lay (v_trap_lay (ε.m) (5#64) (1#64) (ε.m >>> 1)) 1#64 1#64 0#64) (8#64) (1#64) (BitVec.signExtend 64 (ε.p)), md := ε.md, mi := ε.mi, mc := ε.mc, sc := BitVec.signExtend 64 cause ||| 9223372036854775808#64, mt := ε.mt, st := value, w := false }))
   (cond (intr)
    (cond ((ε.mtcc).ad &&& 1#64 == 1#64)
     ({ pcc := v_capops_Move (v_trap_open (ε.mtcc)) (((ε.mtcc).ad &&& 18446744073709551612#64) + 4#64 * BitVec.signExtend 64 cause), sepcc := ε.sepcc, mepcc := ε.pcc, stcc := ε.stcc, mtcc := ε.mtcc, p := 3#64, m := v_trap_lay (v_trap_lay (v_trap_lay (ε.m) (7#64) (1#64) (ε.m >>> 3)) 3#64 1#64 0#64) (11#64) (2#64) (BitVec.signExtend 64 (ε.p)), md := ε.md, mi := ε.mi, mc := BitVec.signExtend 64 cause ||| 9223372036854775808#64, sc := ε.sc, mt := value, st := ε.st, w := false })
     ({ pcc := v_capops_Move (v_trap_open (ε.mtcc)) ((ε.mtcc).ad &&& 18446744073709551612#64), sepcc := ε.sepcc, mepcc := ε.pcc, stcc := ε.stcc, mtcc := ε.mtcc, p := 3#64, m := v_trap_lay (v_trap_lay (v_trap_lay (ε.m) (7#64) (1#64) (ε.m >>> 3)) 3#64 1#64 0#64) (11#64) (2#64) (BitVec.signExtend 64 (ε.p)), md := ε.md, mi := ε.mi, mc := BitVec.signExtend 64 cause ||| 9223372036854775808#64, sc := ε.sc, mt := value, st := ε.st, w := false }))
    ({ pcc := v_capops_Move (v_trap_open (ε.mtcc)) ((ε.mtcc).ad &&& 18446744073709551612#64), sepcc := ε.sepcc, mepcc := ε.pcc, stcc := ε.stcc, mtcc := ε.mtcc, p := 3#64, m := v_trap_lay (v_trap_lay (v_trap_lay (ε.m) (7#64) (1#64) (ε.m >>> 3)) 3#64 1#64 0#64) (11#64) (2#64) (BitVec.signExtend 64 (ε.p)), md := ε.md, mi := ε.mi, mc := BitVec.signExtend 64 cause ||| 9223372036854775808#64, sc := ε.sc, mt := value, st := ε.st, w := false })))
  (cond (intr)
   (cond ((ε.mtcc).ad &&& 1#64 == 1#64)
    ({ pcc := v_capops_Move (v_trap_open (ε.mtcc)) (((ε.mtcc).ad &&& 18446744073709551612#64) + 4#64 * BitVec.signExtend 64 cause), sepcc := ε.sepcc, mepcc := ε.pcc, stcc := ε.stcc, mtcc := ε.mtcc, p := 3#64, m := v_trap_lay (v_trap_lay (v_trap_lay (ε.m) (7#64) (1#64) (ε.m >>> 3)) 3#64 1#64 0#64) (11#64) (2#64) (BitVec.signExtend 64 (ε.p)), md := ε.md, mi := ε.mi, mc := BitVec.signExtend 64 cause ||| 9223372036854775808#64, sc := ε.sc, mt := value, st := ε.st, w := false })
    ({ pcc := v_capops_Move (v_trap_open (ε.mtcc)) ((ε.mtcc).ad &&& 18446744073709551612#64), sepcc := ε.sepcc, mepcc := ε.pcc, stcc := ε.stcc, mtcc := ε.mtcc, p := 3#64, m := v_trap_lay (v_trap_lay (v_trap_lay (ε.m) (7#64) (1#64) (ε.m >>> 3)) 3#64 1#64 0#64) (11#64) (2#64) (BitVec.signExtend 64 (ε.p)), md := ε.md, mi := ε.mi, mc := BitVec.signExtend 64 cause ||| 9223372036854775808#64, sc := ε.sc, mt := value, st := ε.st, w := false }))
   ({ pcc := v_capops_Move (v_trap_open (ε.mtcc)) ((ε.mtcc).ad &&& 18446744073709551612#64), sepcc := ε.sepcc, mepcc := ε.pcc, stcc := ε.stcc, mtcc := ε.mtcc, p := 3#64, m := v_trap_lay (v_trap_lay (v_trap_lay (ε.m) (7#64) (1#64) (ε.m >>> 3)) 3#64 1#64 0#64) (11#64) (2#64) (BitVec.signExtend 64 (ε.p)), md := ε.md, mi := ε.mi, mc := BitVec.signExtend 64 cause ||| 9223372036854775808#64, sc := ε.sc, mt := value, st := ε.st, w := false })))
 (cond ((ε.p).sle 1#64)
  (cond (ε.md >>> min cause.toNat 64 &&& 1#64 == 1#64)
   (cond (intr)
    (cond ((ε.stcc).ad &&& 1#64 == 1#64)
     ({ pcc := v_capops_Move (v_trap_open (ε.stcc)) (((ε.stcc).ad &&& 18446744073709551612#64) + 4#64 * BitVec.signExtend 64 cause), sepcc := ε.pcc, mepcc := ε.mepcc, stcc := ε.stcc, mtcc := ε.mtcc, p := 1#64, m := v_trap_lay (v_trap_lay (v_trap_lay (ε.m) (5#64) (1#64) (ε.m >>> 1)) 1#64 1#64 0#64) (8#64) (1#64) (BitVec.signExtend 64 (ε.p)), md := ε.md, mi := ε.mi, mc := ε.mc, sc := BitVec.signExtend 64 cause, mt := ε.mt, st := value, w := false })
     ({ pcc := v_capops_Move (v_trap_open (ε.stcc)) ((ε.stcc).ad &&& 18446744073709551612#64), sepcc := ε.pcc, mepcc := ε.mepcc, stcc := ε.stcc, mtcc := ε.mtcc, p := 1#64, m := v_trap_lay (v_trap_lay (v_trap_lay (ε.m) (5#64) (1#64) (ε.m >>> 1)) 1#64 1#64 0#64) (8#64) (1#64) (BitVec.signExtend 64 (ε.p)), md := ε.md, mi := ε.mi, mc := ε.mc, sc := BitVec.signExtend 64 cause, mt := ε.mt, st := value, w := false }))
    ({ pcc := v_capops_Move (v_trap_open (ε.stcc)) ((ε.stcc).ad &&& 18446744073709551612#64), sepcc := ε.pcc, mepcc := ε.mepcc, stcc := ε.stcc, mtcc := ε.mtcc, p := 1#64, m := v_trap_lay (v_trap_lay (v_trap_lay (ε.m) (5#64) (1#64) (ε.m >>> 1)) 1#64 1#64 0#64) (8#64) (1#64) (BitVec.signExtend 64 (ε.p)), md := ε.md, mi := ε.mi, mc := ε.mc, sc := BitVec.signExtend 64 cause, mt := ε.mt, st := value, w := false }))
   (cond (intr)
    (cond ((ε.mtcc).ad &&& 1#64 == 1#64)
     ({ pcc := v_capops_Move (v_trap_open (ε.mtcc)) (((ε.mtcc).ad &&& 18446744073709551612#64) + 4#64 * BitVec.signExtend 64 cause), sepcc := ε.sepcc, mepcc := ε.pcc, stcc := ε.stcc, mtcc := ε.mtcc, p := 3#64, m := v_trap_lay (v_trap_lay (v_trap_lay (ε.m) (7#64) (1#64) (ε.m >>> 3)) 3#64 1#64 0#64) (11#64) (2#64) (BitVec.signExtend 64 (ε.p)), md := ε.md, mi := ε.mi, mc := BitVec.signExtend 64 cause, sc := ε.sc, mt := value, st := ε.st, w := false })
     ({ pcc := v_capops_Move (v_trap_open (ε.mtcc)) ((ε.mtcc).ad &&& 18446744073709551612#64), sepcc := ε.sepcc, mepcc := ε.pcc, stcc := ε.stcc, mtcc := ε.mtcc, p := 3#64, m := v_trap_lay (v_trap_lay (v_trap_lay (ε.m) (7#64) (1#64) (ε.m >>> 3)) 3#64 1#64 0#64) (11#64) (2#64) (BitVec.signExtend 64 (ε.p)), md := ε.md, mi := ε.mi, mc := BitVec.signExtend 64 cause, sc := ε.sc, mt := value, st := ε.st, w := false }))
    ({ pcc := v_capops_Move (v_trap_open (ε.mtcc)) ((ε.mtcc).ad &&& 18446744073709551612#64), sepcc := ε.sepcc, mepcc := ε.pcc, stcc := ε.stcc, mtcc := ε.mtcc, p := 3#64, m := v_trap_lay (v_trap_lay (v_trap_lay (ε.m) (7#64) (1#64) (ε.m >>> 3)) 3#64 1#64 0#64) (11#64) (2#64) (BitVec.signExtend 64 (ε.p)), md := ε.md, mi := ε.mi, mc := BitVec.signExtend 64 cause, sc := ε.sc, mt := value, st := ε.st, w := false })))
  (cond (intr)
   (cond ((ε.mtcc).ad &&& 1#64 == 1#64)
    ({ pcc := v_capops_Move (v_trap_open (ε.mtcc)) (((ε.mtcc).ad &&& 18446744073709551612#64) + 4#64 * BitVec.signExtend 64 cause), sepcc := ε.sepcc, mepcc := ε.pcc, stcc := ε.stcc, mtcc := ε.mtcc, p := 3#64, m := v_trap_lay (v_trap_lay (v_trap_lay (ε.m) (7#64) (1#64) (ε.m >>> 3)) 3#64 1#64 0#64) (11#64) (2#64) (BitVec.signExtend 64 (ε.p)), md := ε.md, mi := ε.mi, mc := BitVec.signExtend 64 cause, sc := ε.sc, mt := value, st := ε.st, w := false })
    ({ pcc := v_capops_Move (v_trap_open (ε.mtcc)) ((ε.mtcc).ad &&& 18446744073709551612#64), sepcc := ε.sepcc, mepcc := ε.pcc, stcc := ε.stcc, mtcc := ε.mtcc, p := 3#64, m := v_trap_lay (v_trap_lay (v_trap_lay (ε.m) (7#64) (1#64) (ε.m >>> 3)) 3#64 1#64 0#64) (11#64) (2#64) (BitVec.signExtend 64 (ε.p)), md := ε.md, mi := ε.mi, mc := BitVec.signExtend 64 cause, sc := ε.sc, mt := value, st := ε.st, w := false }))
   ({ pcc := v_capops_Move (v_trap_open (ε.mtcc)) ((ε.mtcc).ad &&& 18446744073709551612#64), sepcc := ε.sepcc, mepcc := ε.pcc, stcc := ε.stcc, mtcc := ε.mtcc, p := 3#64, m := v_trap_lay (v_trap_lay (v_trap_lay (ε.m) (7#64) (1#64) (ε.m >>> 3)) 3#64 1#64 0#64) (11#64) (2#64) (BitVec.signExtend 64 (ε.p)), md := ε.md, mi := ε.mi, mc := BitVec.signExtend 64 cause, sc := ε.sc, mt := value, st := ε.st, w := false }))))
def g_trap_Enter (ε : En) (cause : BitVec 64) (intr : Bool) (value : BitVec 64) : Bool :=
 (cond (intr)
 (cond ((ε.p).sle 1#64)
  (cond (nonneg IntKind.i64 cause)
   (cond (ε.mi >>> min cause.toNat 64 &&& 1#64 == 1#64)
    (cond (intr)
     (cond ((ε.stcc).ad &&& 1#64 == 1#64)
      (cond (g_capops_Move (v_trap_open (ε.stcc)) (((ε.stcc).ad &&& 18446744073709551612#64) + 4#64 * BitVec.signExtend 64 cause))
       true
       false)
      (cond (g_capops_Move (v_trap_open (ε.stcc)) ((ε.stcc).ad &&& 18446744073709551612#64))
       true
       false))
     (cond (g_capops_Move (v_trap_open (ε.stcc)) ((ε.stcc).ad &&& 18446744073709551612#64))
      true
      false))
    (cond (intr)
     (cond ((ε.mtcc).ad &&& 1#64 == 1#64)
      (cond (g_capops_Move (v_trap_open (ε.mtcc)) (((ε.mtcc).ad &&& 18446744073709551612#64) + 4#64 * BitVec.signExtend 64 cause))
       true
       false)
      (cond (g_capops_Move (v_trap_open (ε.mtcc)) ((ε.mtcc).ad &&& 18446744073709551612#64))
       true
       false))
     (cond (g_capops_Move (v_trap_open (ε.mtcc)) ((ε.mtcc).ad &&& 18446744073709551612#64))
      true
      false)))
   false)
  (cond (intr)
   (cond ((ε.mtcc).ad &&& 1#64 == 1#64)
    (cond (g_capops_Move (v_trap_open (ε.mtcc)) (((ε.mtcc).ad &&& 18446744073709551612#64) + 4#64 * BitVec.signExtend 64 cause))
     true
     false)
    (cond (g_capops_Move (v_trap_open (ε.mtcc)) ((ε.mtcc).ad &&& 18446744073709551612#64))
     true
     false))
   (cond (g_capops_Move (v_trap_open (ε.mtcc)) ((ε.mtcc).ad &&& 18446744073709551612#64))
    true
    false)))
 (cond ((ε.p).sle 1#64)
  (cond (nonneg IntKind.i64 cause)
   (cond (ε.md >>> min cause.toNat 64 &&& 1#64 == 1#64)
    (cond (intr)
     (cond ((ε.stcc).ad &&& 1#64 == 1#64)
      (cond (g_capops_Move (v_trap_open (ε.stcc)) (((ε.stcc).ad &&& 18446744073709551612#64) + 4#64 * BitVec.signExtend 64 cause))
       true
       false)
      (cond (g_capops_Move (v_trap_open (ε.stcc)) ((ε.stcc).ad &&& 18446744073709551612#64))
       true
       false))
     (cond (g_capops_Move (v_trap_open (ε.stcc)) ((ε.stcc).ad &&& 18446744073709551612#64))
      true
      false))
    (cond (intr)
     (cond ((ε.mtcc).ad &&& 1#64 == 1#64)
      (cond (g_capops_Move (v_trap_open (ε.mtcc)) (((ε.mtcc).ad &&& 18446744073709551612#64) + 4#64 * BitVec.signExtend 64 cause))
       true
       false)
      (cond (g_capops_Move (v_trap_open (ε.mtcc)) ((ε.mtcc).ad &&& 18446744073709551612#64))
       true
       false))
     (cond (g_capops_Move (v_trap_open (ε.mtcc)) ((ε.mtcc).ad &&& 18446744073709551612#64))
      true
      false)))
   false)
  (cond (intr)
   (cond ((ε.mtcc).ad &&& 1#64 == 1#64)
    (cond (g_capops_Move (v_trap_open (ε.mtcc)) (((ε.mtcc).ad &&& 18446744073709551612#64) + 4#64 * BitVec.signExtend 64 cause))
     true
     false)
    (cond (g_capops_Move (v_trap_open (ε.mtcc)) ((ε.mtcc).ad &&& 18446744073709551612#64))
     true
     false))
   (cond (g_capops_Move (v_trap_open (ε.mtcc)) ((ε.mtcc).ad &&& 18446744073709551612#64))
    true
    false))))

def v_trap_Leave (ε : En) (super : Bool) : En :=
 (cond (super)
 (cond (!BitVec.setWidth 64 (ε.m >>> 8 &&& 1#64) == 3#64)
  ({ pcc := v_capops_Move (v_trap_open (ε.sepcc)) ((ε.sepcc).ad &&& 18446744073709551614#64), sepcc := ε.sepcc, mepcc := ε.mepcc, stcc := ε.stcc, mtcc := ε.mtcc, p := BitVec.setWidth 64 (ε.m >>> 8 &&& 1#64), m := v_trap_lay (v_trap_lay (v_trap_lay (ε.m) (1#64) (1#64) (ε.m >>> 5)) 5#64 1#64 1#64) 8#64 1#64 0#64 &&& 18446744073709420543#64, md := ε.md, mi := ε.mi, mc := ε.mc, sc := ε.sc, mt := ε.mt, st := ε.st, w := ε.w })
  ({ pcc := v_capops_Move (v_trap_open (ε.sepcc)) ((ε.sepcc).ad &&& 18446744073709551614#64), sepcc := ε.sepcc, mepcc := ε.mepcc, stcc := ε.stcc, mtcc := ε.mtcc, p := BitVec.setWidth 64 (ε.m >>> 8 &&& 1#64), m := v_trap_lay (v_trap_lay (v_trap_lay (ε.m) (1#64) (1#64) (ε.m >>> 5)) 5#64 1#64 1#64) 8#64 1#64 0#64, md := ε.md, mi := ε.mi, mc := ε.mc, sc := ε.sc, mt := ε.mt, st := ε.st, w := ε.w }))
 (cond (!BitVec.setWidth 64 (ε.m >>> 11 &&& 3#64) == 3#64)
  ({ pcc := v_capops_Move (v_trap_open (ε.mepcc)) ((ε.mepcc).ad &&& 18446744073709551614#64), sepcc := ε.sepcc, mepcc := ε.mepcc, stcc := ε.stcc, mtcc := ε.mtcc, p := BitVec.setWidth 64 (ε.m >>> 11 &&& 3#64), m := v_trap_lay (v_trap_lay (v_trap_lay (ε.m) (3#64) (1#64) (ε.m >>> 7)) 7#64 1#64 1#64) 11#64 2#64 0#64 &&& 18446744073709420543#64, md := ε.md, mi := ε.mi, mc := ε.mc, sc := ε.sc, mt := ε.mt, st := ε.st, w := ε.w })
  ({ pcc := v_capops_Move (v_trap_open (ε.mepcc)) ((ε.mepcc).ad &&& 18446744073709551614#64), sepcc := ε.sepcc, mepcc := ε.mepcc, stcc := ε.stcc, mtcc := ε.mtcc, p := BitVec.setWidth 64 (ε.m >>> 11 &&& 3#64), m := v_trap_lay (v_trap_lay (v_trap_lay (ε.m) (3#64) (1#64) (ε.m >>> 7)) 7#64 1#64 1#64) 11#64 2#64 0#64, md := ε.md, mi := ε.mi, mc := ε.mc, sc := ε.sc, mt := ε.mt, st := ε.st, w := ε.w })))
def g_trap_Leave (ε : En) (super : Bool) : Bool :=
 (cond (super)
 (cond (!BitVec.setWidth 64 (ε.m >>> 8 &&& 1#64) == 3#64)
  (cond (g_capops_Move (v_trap_open (ε.sepcc)) ((ε.sepcc).ad &&& 18446744073709551614#64))
   true
   false)
  (cond (g_capops_Move (v_trap_open (ε.sepcc)) ((ε.sepcc).ad &&& 18446744073709551614#64))
   true
   false))
 (cond (!BitVec.setWidth 64 (ε.m >>> 11 &&& 3#64) == 3#64)
  (cond (g_capops_Move (v_trap_open (ε.mepcc)) ((ε.mepcc).ad &&& 18446744073709551614#64))
   true
   false)
  (cond (g_capops_Move (v_trap_open (ε.mepcc)) ((ε.mepcc).ad &&& 18446744073709551614#64))
   true
   false)))

def v_r19_Bit (v : BitVec 64) (xi : BitVec 64) : BitVec 64 :=
 (v >>> min (BitVec.signExtend 64 xi).toNat 64 % 2#64)

def v_r17_Illegal (raw : BitVec 32) : Tr :=
 (⟨(true), (2#64), (BitVec.setWidth 64 raw)⟩ : Tr)

def v_r17_System  : Tr :=
 (⟨(true), (28#64), (1048#64)⟩ : Tr)

def v_r19_Put (v : BitVec 64) (xi : BitVec 64) (bit : BitVec 64) : BitVec 64 :=
 (v &&& ~~~(1#64 <<< min (BitVec.signExtend 64 xi).toNat 64) ||| bit <<< min (BitVec.signExtend 64 xi).toNat 64)

def v_r19_Open (c : Cp) : Cp :=
 (cond (c.ty == 262142#64)
 (⟨(c.tag), (c.per), (262143#64), (c.mo), (c.e), (c.b), (c.t), (c.big), (c.ad)⟩ : Cp)
 (c))

def v_r19_Leave (ε : En) (super : Bool) : En :=
 (cond (super)
 ({ pcc := v_r05_Move (v_r19_Open (ε.sepcc)) ((ε.sepcc).ad >>> 1 <<< 1), sepcc := ε.sepcc, mepcc := ε.mepcc, stcc := ε.stcc, mtcc := ε.mtcc, p := BitVec.setWidth 64 (v_r19_Bit (ε.m) 8#64), m := v_r19_Put (v_r19_Put (v_r19_Put (v_r19_Put (ε.m) (1#64) (v_r19_Bit (ε.m) 5#64)) 5#64 1#64) 8#64 0#64) 17#64 0#64, md := ε.md, mi := ε.mi, mc := ε.mc, sc := ε.sc, mt := ε.mt, st := ε.st, w := ε.w })
 (cond (!BitVec.setWidth 64 (v_r19_Bit (ε.m) 11#64 + 2#64 * v_r19_Bit (ε.m) 12#64) == 3#64)
  ({ pcc := v_r05_Move (v_r19_Open (ε.mepcc)) ((ε.mepcc).ad >>> 1 <<< 1), sepcc := ε.sepcc, mepcc := ε.mepcc, stcc := ε.stcc, mtcc := ε.mtcc, p := BitVec.setWidth 64 (v_r19_Bit (ε.m) 11#64 + 2#64 * v_r19_Bit (ε.m) 12#64), m := v_r19_Put (v_r19_Put (v_r19_Put (v_r19_Put (v_r19_Put (ε.m) (3#64) (v_r19_Bit (ε.m) 7#64)) 7#64 1#64) 11#64 0#64) 12#64 0#64) 17#64 0#64, md := ε.md, mi := ε.mi, mc := ε.mc, sc := ε.sc, mt := ε.mt, st := ε.st, w := ε.w })
  ({ pcc := v_r05_Move (v_r19_Open (ε.mepcc)) ((ε.mepcc).ad >>> 1 <<< 1), sepcc := ε.sepcc, mepcc := ε.mepcc, stcc := ε.stcc, mtcc := ε.mtcc, p := BitVec.setWidth 64 (v_r19_Bit (ε.m) 11#64 + 2#64 * v_r19_Bit (ε.m) 12#64), m := v_r19_Put (v_r19_Put (v_r19_Put (v_r19_Put (ε.m) (3#64) (v_r19_Bit (ε.m) 7#64)) 7#64 1#64) 11#64 0#64) 12#64 0#64, md := ε.md, mi := ε.mi, mc := ε.mc, sc := ε.sc, mt := ε.mt, st := ε.st, w := ε.w })))

def v_r19_at (c : Cp) (cause : BitVec 64) (interrupt : Bool) : Cp :=
 (cond (interrupt)
 (cond (c.ad % 2#64 == 1#64)
  ((v_r05_Move (v_r19_Open c) (c.ad >>> 2 <<< 2 + BitVec.signExtend 64 (4#64 * cause))))
  ((v_r05_Move (v_r19_Open c) (c.ad >>> 2 <<< 2))))
 ((v_r05_Move (v_r19_Open c) (c.ad >>> 2 <<< 2))))

def v_r19_Enter (ε : En) (cause : BitVec 64) (intr : Bool) (value : BitVec 64) : En :=
 (cond (intr)
 (cond ((ε.p).sle 1#64)
  (cond (v_r19_Bit (ε.mi) cause == 1#64)
   ({ pcc := v_r19_at (ε.stcc) cause intr, sepcc := ε.pcc, mepcc := ε.mepcc, stcc := ε.stcc, mtcc := ε.mtcc, p := 1#64, m := v_r19_Put (v_r19_Put (v_r19_Put (ε.m) (5#64) (v_r19_Bit (ε.m) 1#64)) 1#64 0#64) (8#64) (BitVec.signExtend 64 (ε.p)), md := ε.md, mi := ε.mi, mc := ε.mc, sc := BitVec.signExtend 64 cause ||| 9223372036854775808#64, mt := ε.mt, st := value, w := false })
   ({ pcc := v_r19_at (ε.mtcc) cause intr, sepcc := ε.sepcc, mepcc := ε.pcc, stcc := ε.stcc, mtcc := ε.mtcc, p := 3#64, m := v_r19_Put (v_r19_Put (v_r19_Put (v_r19_Put (ε.m) (7#64) (v_r19_Bit (ε.m) 3#64)) 3#64 0#64) (11#64) (BitVec.signExtend 64 ((ε.p).srem 2#64))) (12#64) (BitVec.signExtend 64 ((ε.p).sdiv 2#64)), md := ε.md, mi := ε.mi, mc := BitVec.signExtend 64 cause ||| 9223372036854775808#64, sc := ε.sc, mt := value, st := ε.st, w := false }))
  ({ pcc := v_r19_at (ε.mtcc) cause intr, sepcc := ε.sepcc, mepcc := ε.pcc, stcc := ε.stcc, mtcc := ε.mtcc, p := 3#64, m := v_r19_Put (v_r19_Put (v_r19_Put (v_r19_Put (ε.m) (7#64) (v_r19_Bit (ε.m) 3#64)) 3#64 0#64) (11#64) (BitVec.signExtend 64 ((ε.p).srem 2#64))) (12#64) (BitVec.signExtend 64 ((ε.p).sdiv 2#64)), md := ε.md, mi := ε.mi, mc := BitVec.signExtend 64 cause ||| 9223372036854775808#64, sc := ε.sc, mt := value, st := ε.st, w := false }))
 (cond ((ε.p).sle 1#64)
  (cond (v_r19_Bit (ε.md) cause == 1#64)
   ({ pcc := v_r19_at (ε.stcc) cause intr, sepcc := ε.pcc, mepcc := ε.mepcc, stcc := ε.stcc, mtcc := ε.mtcc, p := 1#64, m := v_r19_Put (v_r19_Put (v_r19_Put (ε.m) (5#64) (v_r19_Bit (ε.m) 1#64)) 1#64 0#64) (8#64) (BitVec.signExtend 64 (ε.p)), md := ε.md, mi := ε.mi, mc := ε.mc, sc := BitVec.signExtend 64 cause, mt := ε.mt, st := value, w := false })
   ({ pcc := v_r19_at (ε.mtcc) cause intr, sepcc := ε.sepcc, mepcc := ε.pcc, stcc := ε.stcc, mtcc := ε.mtcc, p := 3#64, m := v_r19_Put (v_r19_Put (v_r19_Put (v_r19_Put (ε.m) (7#64) (v_r19_Bit (ε.m) 3#64)) 3#64 0#64) (11#64) (BitVec.signExtend 64 ((ε.p).srem 2#64))) (12#64) (BitVec.signExtend 64 ((ε.p).sdiv 2#64)), md := ε.md, mi := ε.mi, mc := BitVec.signExtend 64 cause, sc := ε.sc, mt := value, st := ε.st, w := false }))
  ({ pcc := v_r19_at (ε.mtcc) cause intr, sepcc := ε.sepcc, mepcc := ε.pcc, stcc := ε.stcc, mtcc := ε.mtcc, p := 3#64, m := v_r19_Put (v_r19_Put (v_r19_Put (v_r19_Put (ε.m) (7#64) (v_r19_Bit (ε.m) 3#64)) 3#64 0#64) (11#64) (BitVec.signExtend 64 ((ε.p).srem 2#64))) (12#64) (BitVec.signExtend 64 ((ε.p).sdiv 2#64)), md := ε.md, mi := ε.mi, mc := BitVec.signExtend 64 cause, sc := ε.sc, mt := value, st := ε.st, w := false })))

def v_trap_May (ε : En) (super : Bool) (raw : BitVec 32) : Tr :=
 (cond (super)
 (cond ((ε.p).slt 1#64)
  (⟨(true), (2#64), (BitVec.setWidth 64 raw)⟩ : Tr)
  (cond (ε.p == 1#64)
   (cond (!ε.m &&& 4194304#64 == 0#64)
    (⟨(true), (2#64), (BitVec.setWidth 64 raw)⟩ : Tr)
    (cond ((ε.pcc).per &&& 512#64 == 0#64)
     (⟨(true), (28#64), (1048#64)⟩ : Tr)
     (⟨(false), (0#64), (0#64)⟩ : Tr)))
   (cond ((ε.pcc).per &&& 512#64 == 0#64)
    (⟨(true), (28#64), (1048#64)⟩ : Tr)
    (⟨(false), (0#64), (0#64)⟩ : Tr))))
 (cond ((ε.p).slt 3#64)
  (⟨(true), (2#64), (BitVec.setWidth 64 raw)⟩ : Tr)
  (cond ((ε.pcc).per &&& 512#64 == 0#64)
   (⟨(true), (28#64), (1048#64)⟩ : Tr)
   (⟨(false), (0#64), (0#64)⟩ : Tr))))

def v_r19_May (ε : En) (super : Bool) (raw : BitVec 32) : Tr :=
 (cond (!super)
 (cond (!ε.p == 3#64)
  ((v_r17_Illegal raw))
  (cond (super)
   (cond (ε.p == 0#64)
    ((v_r17_Illegal raw))
    (cond (ε.p == 1#64)
     (cond (v_r19_Bit (ε.m) 22#64 == 1#64)
      ((v_r17_Illegal raw))
      (cond ((ε.pcc).per &&& 512#64 == 0#64)
       (⟨(true), (28#64), (1048#64)⟩ : Tr)
       (⟨(false), (0#64), (0#64)⟩ : Tr)))
     (cond ((ε.pcc).per &&& 512#64 == 0#64)
      (⟨(true), (28#64), (1048#64)⟩ : Tr)
      (⟨(false), (0#64), (0#64)⟩ : Tr))))
   (cond ((ε.pcc).per &&& 512#64 == 0#64)
    (⟨(true), (28#64), (1048#64)⟩ : Tr)
    (⟨(false), (0#64), (0#64)⟩ : Tr))))
 (cond (super)
  (cond (ε.p == 0#64)
   ((v_r17_Illegal raw))
   (cond (ε.p == 1#64)
    (cond (v_r19_Bit (ε.m) 22#64 == 1#64)
     ((v_r17_Illegal raw))
     (cond ((ε.pcc).per &&& 512#64 == 0#64)
      (⟨(true), (28#64), (1048#64)⟩ : Tr)
      (⟨(false), (0#64), (0#64)⟩ : Tr)))
    (cond ((ε.pcc).per &&& 512#64 == 0#64)
     (⟨(true), (28#64), (1048#64)⟩ : Tr)
     (⟨(false), (0#64), (0#64)⟩ : Tr))))
  (cond ((ε.pcc).per &&& 512#64 == 0#64)
   (⟨(true), (28#64), (1048#64)⟩ : Tr)
   (⟨(false), (0#64), (0#64)⟩ : Tr))))

end Go.Sx

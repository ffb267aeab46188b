/- What functions of plain values answer. -/
import Derived.Test.YtkbcfbehebbmhaaGreatSxAE
import Derived.Test.YtkbcfbehebbmhaaGreatSxLen2
import Derived.Test.YtkbcfbehebbmhaaGreatPlUp
import Derived.Test.YtkbcfbehebbmhaaGreatVa03
import Derived.Test.YtkbcfbehebbmhaaGreatVa11
import Derived.Test.YtkbcfbehebbmhaaGreatVa21
import Derived.Test.YtkbcfbehebbmhaaGreatVa21w
set_option linter.unusedSimpArgs false
set_option linter.unusedVariables false
set_option linter.unnecessarySimpa false
namespace Go.Sx

def v_r15_sized (n : BitVec 64) : Bool :=
 (cond (n == 1#64)
 (true)
 (cond (n == 2#64)
  (true)
  (cond (n == 4#64)
   (true)
   (n == 8#64))))

def v_r15_behind (pa : BitVec 64) (n : BitVec 64) (begin : BitVec 64) (size : BitVec 64) : BitVec 64 × Bool :=
 (cond (n.slt 0#64)
 ((0#64), (false))
 (cond (pa.ult begin)
  ((0#64), (false))
  (cond (size.ult (pa - begin))
   ((0#64), (false))
   (cond ((size - (pa - begin)).ult (BitVec.signExtend 64 n))
    ((0#64), (false))
    ((BitVec.setWidth 64 (pa - begin)), (true))))))

def v_r21_Canonical (va : BitVec 64) : Bool :=
 (cond (va >>> 38 == 0#64)
 (true)
 (va >>> 38 == 67108863#64))

def v_r20_bit (v : BitVec 64) (n : BitVec 64) : Bool :=
 (v >>> min (BitVec.signExtend 64 n).toNat 64 % 2#64 == 1#64)

def v_r20_Leaf (p : BitVec 64) : Bool :=
 (cond (v_r20_bit p 1#64)
 (true)
 (v_r20_bit p 3#64))

def v_r20_Page (p : BitVec 64) : BitVec 64 :=
 (p / 1024#64 % 17592186044416#64)

def v_r20_May (p : BitVec 64) (kind : BitVec 64) (priv : BitVec 64) (mstatus : BitVec 64) : Bool :=
 (cond (priv == 0#64)
 (cond (!v_r20_bit p 4#64)
  (false)
  (cond (!priv == 0#64)
   (cond (v_r20_bit p 4#64)
    (cond (kind == 1#64)
     (false)
     (cond (!v_r20_bit mstatus 18#64)
      (false)
      (cond (kind == 1#64)
       (v_r20_bit p 3#64)
       (cond (kind == 2#64)
        (cond (v_r20_bit p 1#64)
         (true)
         (cond (v_r20_bit mstatus 19#64)
          (v_r20_bit p 3#64)
          (false)))
        (cond (kind == 3#64)
         (v_r20_bit p 2#64)
         (false))))))
    (cond (kind == 1#64)
     (v_r20_bit p 3#64)
     (cond (kind == 2#64)
      (cond (v_r20_bit p 1#64)
       (true)
       (cond (v_r20_bit mstatus 19#64)
        (v_r20_bit p 3#64)
        (false)))
      (cond (kind == 3#64)
       (v_r20_bit p 2#64)
       (false)))))
   (cond (kind == 1#64)
    (v_r20_bit p 3#64)
    (cond (kind == 2#64)
     (cond (v_r20_bit p 1#64)
      (true)
      (cond (v_r20_bit mstatus 19#64)
       (v_r20_bit p 3#64)
       (false)))
     (cond (kind == 3#64)
      (v_r20_bit p 2#64)
      (false))))))
 (cond (!priv == 0#64)
  (cond (v_r20_bit p 4#64)
   (cond (kind == 1#64)
    (false)
    (cond (!v_r20_bit mstatus 18#64)
     (false)
     (cond (kind == 1#64)
      (v_r20_bit p 3#64)
      (cond (kind == 2#64)
       (cond (v_r20_bit p 1#64)
        (true)
        (cond (v_r20_bit mstatus 19#64)
         (v_r20_bit p 3#64)
         (false)))
       (cond (kind == 3#64)
        (v_r20_bit p 2#64)
        (false))))))
   (cond (kind == 1#64)
    (v_r20_bit p 3#64)
    (cond (kind == 2#64)
     (cond (v_r20_bit p 1#64)
      (true)
      (cond (v_r20_bit mstatus 19#64)
       (v_r20_bit p 3#64)
       (false)))
     (cond (kind == 3#64)
      (v_r20_bit p 2#64)
      (false)))))
  (cond (kind == 1#64)
   (v_r20_bit p 3#64)
   (cond (kind == 2#64)
    (cond (v_r20_bit p 1#64)
     (true)
     (cond (v_r20_bit mstatus 19#64)
      (v_r20_bit p 3#64)
      (false)))
    (cond (kind == 3#64)
     (v_r20_bit p 2#64)
     (false))))))

def v_r20_Mark (p : BitVec 64) (kind : BitVec 64) : BitVec 64 :=
 (cond (!v_r20_bit p 6#64)
 (cond (kind == 3#64)
  (cond (!v_r20_bit (p + 64#64) 7#64)
   (p + 64#64 + 128#64)
   (p + 64#64))
  (p + 64#64))
 (cond (kind == 3#64)
  (cond (!v_r20_bit p 7#64)
   (p + 128#64)
   (p))
  (p)))

end Go.Sx

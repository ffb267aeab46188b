/- What functions of plain values answer. -/
import Derived.Test.YtaieimjeffedhaaSxY
import Derived.Test.YtaieimjeffedhaaSxLen2
import Derived.Test.YtaieimjeffedhaaPlUp
import Derived.Test.YtaieimjeffedhaaSxAE
set_option linter.unusedSimpArgs false
set_option linter.unusedVariables false
set_option linter.unnecessarySimpa false
namespace Go.Sx

def v_plic_which (off : BitVec 64) (size : BitVec 64) : BitVec 64 × BitVec 64 :=
 (cond (!size == 4#64)
 ((0#64), (0#64))
 (cond (off.slt 0#64)
  ((0#64), (0#64))
  (cond (off.slt 128#64)
   (cond (off.srem 4#64 == 0#64)
    ((1#64), (off.sdiv 4#64))
    (cond (off == 4096#64)
     ((2#64), (0#64))
     (cond (off == 8192#64)
      ((3#64), (0#64))
      (cond (off == 2097152#64)
       ((4#64), (0#64))
       (cond (off == 2097156#64)
        ((5#64), (0#64))
        (cond (off == 8320#64)
         ((3#64), (1#64))
         (cond (off == 2101248#64)
          ((4#64), (1#64))
          (cond (off == 2101252#64)
           ((5#64), (1#64))
           ((0#64), (0#64))))))))))
   (cond (off == 4096#64)
    ((2#64), (0#64))
    (cond (off == 8192#64)
     ((3#64), (0#64))
     (cond (off == 2097152#64)
      ((4#64), (0#64))
      (cond (off == 2097156#64)
       ((5#64), (0#64))
       (cond (off == 8320#64)
        ((3#64), (1#64))
        (cond (off == 2101248#64)
         ((4#64), (1#64))
         (cond (off == 2101252#64)
          ((5#64), (1#64))
          ((0#64), (0#64))))))))))))

def v_l12_works  : Bool :=
 (true)

end Go.Sx

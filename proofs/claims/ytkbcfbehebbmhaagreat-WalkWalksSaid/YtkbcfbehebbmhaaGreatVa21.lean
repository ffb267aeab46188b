/- What functions of plain values answer. -/
import Derived.Test.YtkbcfbehebbmhaaGreatSxAE
import Derived.Test.YtkbcfbehebbmhaaGreatSxLen2
import Derived.Test.YtkbcfbehebbmhaaGreatPlUp
import Derived.Test.YtkbcfbehebbmhaaGreatVa03
import Derived.Test.YtkbcfbehebbmhaaGreatVa11
set_option linter.unusedSimpArgs false
set_option linter.unusedVariables false
set_option linter.unnecessarySimpa false
namespace Go.Sx

def v_pte_entry_has (xe : BitVec 64) (bits : BitVec 64) : Bool :=
 (!xe &&& bits == 0#64)

def v_pte_entry_leaf (xe : BitVec 64) : Bool :=
 (v_pte_entry_has xe 10#64)

def v_pte_entry_page (xe : BitVec 64) : BitVec 64 :=
 (xe >>> 10 &&& 17592186044415#64)

def v_pte_Right (p : BitVec 64) (level : BitVec 64) : Bool :=
 (cond (level.slt 0#64)
 (false)
 (cond ((2#64).slt level)
  (false)
  (cond (!v_pte_entry_has p 1#64)
   (false)
   (cond (v_pte_entry_has p 4593671619917905920#64)
    (false)
    (cond (v_pte_entry_has p 4#64)
     (cond (!v_pte_entry_has p 2#64)
      (false)
      (cond (v_pte_entry_leaf p)
       (v_pte_entry_page p &&& 1#64 <<< min (9#64 * level).toNat 64 - 1#64 == 0#64)
       (cond ((0#64).slt level)
        (!v_pte_entry_has p 13835058055282163920#64)
        (false))))
     (cond (v_pte_entry_leaf p)
      (v_pte_entry_page p &&& 1#64 <<< min (9#64 * level).toNat 64 - 1#64 == 0#64)
      (cond ((0#64).slt level)
       (!v_pte_entry_has p 13835058055282163920#64)
       (false))))))))
def g_pte_Right (p : BitVec 64) (level : BitVec 64) : Bool :=
 (cond (level.slt 0#64)
 true
 (cond ((2#64).slt level)
  true
  (cond (!v_pte_entry_has p 1#64)
   true
   (cond (v_pte_entry_has p 4593671619917905920#64)
    true
    (cond (v_pte_entry_has p 4#64)
     (cond (!v_pte_entry_has p 2#64)
      true
      (cond (v_pte_entry_leaf p)
       (cond (nonneg IntKind.i64 (9#64 * level))
        true
        false)
       (cond ((0#64).slt level)
        true
        true)))
     (cond (v_pte_entry_leaf p)
      (cond (nonneg IntKind.i64 (9#64 * level))
       true
       false)
      (cond ((0#64).slt level)
       true
       true)))))))

def v_pte_Leaf (p : BitVec 64) : Bool :=
 (v_pte_entry_leaf p)

def v_pte_entry_whose (xe : BitVec 64) (kind : BitVec 64) (priv : BitVec 64) (mstatus : BitVec 64) : Bool :=
 (cond (priv == 0#64)
 (v_pte_entry_has xe 16#64)
 (cond (v_pte_entry_has xe 16#64)
  (cond (!kind == 1#64)
   (!mstatus &&& 262144#64 == 0#64)
   (false))
  (true)))

def v_pte_May (p : BitVec 64) (kind : BitVec 64) (priv : BitVec 64) (mstatus : BitVec 64) : Bool :=
 (cond (!v_pte_entry_whose p kind priv mstatus)
 (false)
 (cond (kind == 1#64)
  (v_pte_entry_has p 8#64)
  (cond (kind == 2#64)
   (cond (v_pte_entry_has p 2#64)
    (true)
    (cond (!mstatus &&& 524288#64 == 0#64)
     (v_pte_entry_has p 8#64)
     (false)))
   (cond (kind == 3#64)
    (v_pte_entry_has p 4#64)
    (false)))))

def v_pte_Mark (p : BitVec 64) (kind : BitVec 64) : BitVec 64 :=
 (cond (kind == 3#64)
 (p ||| 64#64 ||| 128#64)
 (p ||| 64#64))

end Go.Sx

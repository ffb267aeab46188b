/- What functions of plain values answer. -/
import Derived.Test.YtmlhjbdhpojjkaaSxY
import Derived.Test.YtmlhjbdhpojjkaaSxLen2
import Derived.Test.YtmlhjbdhpojjkaaVa03
set_option linter.unusedSimpArgs false
set_option linter.unusedVariables false
set_option linter.unnecessarySimpa false
namespace Go.Sx

def v_l05_Right (c : Cp) : Cp :=
 (cond ((v_l03_May c).big)
 (⟨((v_l03_May c).tag), (v_kit_Pick (v_l03_May c).per 65536#64), (v_kit_Pick (v_l03_May c).ty 262144#64), (v_kit_Pick (v_l03_May c).mo 2#64), ((v_l03_May c).e), ((v_l03_May c).b &&& 18446744073709551608#64), ((v_l03_May c).t &&& 18446744073709551608#64), ((v_l03_May c).big), ((v_l03_May c).ad)⟩ : Cp)
 (⟨((v_l03_May c).tag), (v_kit_Pick (v_l03_May c).per 65536#64), (v_kit_Pick (v_l03_May c).ty 262144#64), (v_kit_Pick (v_l03_May c).mo 2#64), ((v_l03_May c).e), ((v_l03_May c).b), ((v_l03_May c).t), ((v_l03_May c).big), ((v_l03_May c).ad)⟩ : Cp))

def v_capops_keep (c : Cp) (xis : Bool) : Cp :=
 (cond (c.tag)
 (⟨(xis), (c.per), (c.ty), (c.mo), (c.e), (c.b), (c.t), (c.big), (c.ad)⟩ : Cp)
 (⟨(false), (c.per), (c.ty), (c.mo), (c.e), (c.b), (c.t), (c.big), (c.ad)⟩ : Cp))

def v_capops_Sealed (c : Cp) : Bool :=
 (!c.ty == 262143#64)

def v_capops_Bound (c : Cp) (n : BitVec 64) (exact : Bool) : Cp :=
 (cond (!v_capops_Sealed c)
 (cond ((v_bounds_Of (v_bounds_Lay c n).fst).base == c.ad && ((v_bounds_Of (v_bounds_Lay c n).fst).top == c.ad + n && ((v_bounds_Of (v_bounds_Lay c n).fst).over == (c.ad + n).ult c.ad && true)))
  (cond (v_bounds_Within { base := c.ad, top := c.ad + n, over := (c.ad + n).ult c.ad } (v_bounds_Of (v_bounds_Lay c n).fst))
   ((v_capops_keep (v_bounds_Lay c n).fst (v_bounds_Within (v_bounds_Of (v_bounds_Lay c n).fst) (v_bounds_Of c))))
   ((v_capops_keep (v_bounds_Lay c n).fst false)))
  (cond (!exact)
   (cond (v_bounds_Within { base := c.ad, top := c.ad + n, over := (c.ad + n).ult c.ad } (v_bounds_Of (v_bounds_Lay c n).fst))
    ((v_capops_keep (v_bounds_Lay c n).fst (v_bounds_Within (v_bounds_Of (v_bounds_Lay c n).fst) (v_bounds_Of c))))
    ((v_capops_keep (v_bounds_Lay c n).fst false)))
   ((v_capops_keep (v_bounds_Lay c n).fst false))))
 ((v_capops_keep (v_bounds_Lay c n).fst false)))
def g_capops_Bound (c : Cp) (n : BitVec 64) (exact : Bool) : Bool :=
 (cond (g_bounds_Lay c n)
 (cond (g_bounds_Of (v_bounds_Lay c n).fst)
  (cond (!v_capops_Sealed c)
   (cond ((v_bounds_Of (v_bounds_Lay c n).fst).base == c.ad && ((v_bounds_Of (v_bounds_Lay c n).fst).top == c.ad + n && ((v_bounds_Of (v_bounds_Lay c n).fst).over == (c.ad + n).ult c.ad && true)))
    (cond (v_bounds_Within { base := c.ad, top := c.ad + n, over := (c.ad + n).ult c.ad } (v_bounds_Of (v_bounds_Lay c n).fst))
     (cond (g_bounds_Of c)
      true
      false)
     true)
    (cond (!exact)
     (cond (v_bounds_Within { base := c.ad, top := c.ad + n, over := (c.ad + n).ult c.ad } (v_bounds_Of (v_bounds_Lay c n).fst))
      (cond (g_bounds_Of c)
       true
       false)
      true)
     true))
   true)
  false)
 false)

def v_capenc_Number (n : BitVec 64) : Cp :=
 (⟨(false), (0#64), (262143#64), (0#64), (52#64), (0#64), (0#64), (true), (n)⟩ : Cp)

def v_capenc_Root (mode : BitVec 64) (xat : BitVec 64) : Cp :=
 (cond (mode == 1#64)
 (⟨(true), (65535#64), ((v_capenc_Number xat).ty), (1#64), ((v_capenc_Number xat).e), ((v_capenc_Number xat).b), ((v_capenc_Number xat).t), ((v_capenc_Number xat).big), ((v_capenc_Number xat).ad)⟩ : Cp)
 (⟨(true), (65535#64), ((v_capenc_Number xat).ty), ((v_capenc_Number xat).mo), ((v_capenc_Number xat).e), ((v_capenc_Number xat).b), ((v_capenc_Number xat).t), ((v_capenc_Number xat).big), ((v_capenc_Number xat).ad)⟩ : Cp))

def v_capops_Less (c : Cp) (perms : BitVec 64) : Cp :=
 ((v_capops_keep { tag := c.tag, per := c.per &&& perms, ty := c.ty, mo := c.mo, e := c.e, b := c.b, t := c.t, big := c.big, ad := c.ad } !v_capops_Sealed { tag := c.tag, per := c.per &&& perms, ty := c.ty, mo := c.mo, e := c.e, b := c.b, t := c.t, big := c.big, ad := c.ad }))

def v_capops_Sentry (c : Cp) : Cp :=
 (cond (v_capops_Sealed c)
 ((v_capops_keep c false))
 (cond (c.per &&& 2#64 == 0#64)
  ((v_capops_keep c false))
  (cond (!c.tag)
   ((v_capops_keep c false))
   (⟨(c.tag), (c.per), (262142#64), (c.mo), (c.e), (c.b), (c.t), (c.big), (c.ad)⟩ : Cp))))

def v_capops_seals (xby : Cp) (perm : BitVec 64) : Bool :=
 (cond (xby.tag)
 (cond (!v_capops_Sealed xby)
  (cond (!xby.per &&& perm == 0#64)
   (v_bounds_In (v_bounds_Of xby) xby.ad 1#64)
   (false))
  (false))
 (false))
def g_capops_seals (xby : Cp) (perm : BitVec 64) : Bool :=
 (cond (xby.tag)
 (cond (!v_capops_Sealed xby)
  (cond (!xby.per &&& perm == 0#64)
   (cond (g_bounds_Of xby)
    true
    false)
   true)
  true)
 true)

def v_capops_Seal (c : Cp) (xby : Cp) : Cp :=
 (cond (v_capops_Sealed c)
 ((v_capops_keep c false))
 (cond (!v_capops_seals xby 128#64)
  ((v_capops_keep c false))
  (cond ((262135#64).ult xby.ad)
   ((v_capops_keep c false))
   (cond (!c.tag)
    ((v_capops_keep c false))
    (⟨(c.tag), (c.per), (BitVec.setWidth 64 xby.ad), (c.mo), (c.e), (c.b), (c.t), (c.big), (c.ad)⟩ : Cp)))))
def g_capops_Seal (c : Cp) (xby : Cp) : Bool :=
 (cond (v_capops_Sealed c)
 true
 (cond (g_capops_seals xby 128#64)
  (cond (!v_capops_seals xby 128#64)
   true
   (cond ((262135#64).ult xby.ad)
    true
    (cond (!c.tag)
     true
     true)))
  false))

end Go.Sx

/- What functions of plain values answer. -/
import Derived.Test.YtmlhjbdhpojjkaaSxY
import Derived.Test.YtmlhjbdhpojjkaaSxLen2
import Derived.Test.YtmlhjbdhpojjkaaPlUp
set_option linter.unusedSimpArgs false
set_option linter.unusedVariables false
set_option linter.unnecessarySimpa false
namespace Go.Sx

def v_kit_Pick (k : BitVec 64) (n : BitVec 64) : BitVec 64 :=
 (cond (n.slt 1#64)
 (0#64)
 (cond ((k.srem n).slt 0#64)
  (k.srem n + n)
  (k.srem n)))
def t_kit_Pick (k : BitVec 64) (n : BitVec 64) : Option AV :=
 (cond (n.slt 1#64)
 (some (AV.int (IntKind.i64) (0#64)))
 (cond (n == 0#64)
  none
  (cond ((k.srem n).slt 0#64)
   (some (AV.int (IntKind.i64) (k.srem n + n)))
   (some (AV.int (IntKind.i64) (k.srem n))))))
theorem t_kit_Pick_eq : ∀ (k : BitVec 64) (n : BitVec 64), t_kit_Pick k n = some (.int .i64 (v_kit_Pick k n)) := by
  intro k n
  unfold t_kit_Pick v_kit_Pick
  cases h : n.slt 1#64 with
  | true => rfl
  | false =>
    have : (n == 0#64) = false := by
      rw [beq_eq_false_iff_ne]; rintro rfl; revert h; decide
    rw [this]; simp only [cond_false]; cases (k.srem n).slt 0#64 <;> rfl

def v_l03_May (c : Cp) : Cp :=
 (cond (!c.big)
 (⟨(c.tag), (c.per), (c.ty), (c.mo), (0#64), (v_kit_Pick c.b 16384#64), (v_kit_Pick c.t 4096#64), (c.big), (c.ad)⟩ : Cp)
 (⟨(c.tag), (c.per), (c.ty), (c.mo), (v_kit_Pick c.e 53#64), (v_kit_Pick c.b 16384#64), (v_kit_Pick c.t 4096#64), (c.big), (c.ad)⟩ : Cp))

def v_bounds_truth (xis : Bool) : BitVec 64 :=
 (cond (xis)
 (1#64)
 (0#64))

def v_bounds_top (r : Rg) : W2 :=
 (⟨(BitVec.signExtend 64 (v_bounds_truth r.over)), (r.top)⟩ : W2)

def v_bounds_number_plus (a : W2) (xb : W2) : W2 :=
 (⟨((a.hi + xb.hi + bif (a.lo + xb.lo).ult a.lo then 1#64 else 0#64) &&& 1#64), (a.lo + xb.lo)⟩ : W2)

def v_bounds_number_above (a : W2) (xb : W2) : Bool :=
 (cond (xb.hi.ult a.hi)
 (true)
 (cond (a.hi == xb.hi)
  (xb.lo.ult a.lo)
  (false)))

def v_bounds_In (r : Rg) (xat : BitVec 64) (n : BitVec 64) : Bool :=
 (cond ((0#64).sle n)
 (cond (r.base.ule xat)
  (!v_bounds_number_above (v_bounds_number_plus { hi := 0#64, lo := xat } { hi := 0#64, lo := BitVec.signExtend 64 n }) (v_bounds_top r))
  (false))
 (false))

def v_bounds_signed (v : BitVec 64) : W2 :=
 (⟨(BitVec.signExtend 64 v >>> 63), (BitVec.signExtend 64 v)⟩ : W2)

def v_bounds_number_up (a : W2) (n : BitVec 64) : W2 :=
 (cond (n == 0#64)
 (a)
 (cond ((65#64).sle n)
  (⟨(0#64), (0#64)⟩ : W2)
  (cond (n == 64#64)
   (⟨(a.lo &&& 1#64), (0#64)⟩ : W2)
   (⟨(a.lo >>> min (64#64 - n).toNat 64 &&& 1#64), (a.lo <<< min n.toNat 64)⟩ : W2))))
def g_bounds_number_up (a : W2) (n : BitVec 64) : Bool :=
 (cond (n == 0#64)
 true
 (cond ((65#64).sle n)
  true
  (cond (n == 64#64)
   true
   (cond (nonneg IntKind.i64 (64#64 - n))
    (cond (nonneg IntKind.i64 n)
     true
     false)
    false))))

def v_bounds_Of (c : Cp) : Rg :=
 (cond ((c.e + 14#64).slt 64#64)
 (cond (c.e.slt 51#64)
  (cond ((1#64).ult ((v_bounds_number_plus (v_bounds_number_up (v_bounds_signed (BitVec.setWidth 64 (c.ad >>> min (c.e + 14#64).toNat 64) + (v_bounds_truth ((c.t ||| (c.b.sshiftRight 12 + v_bounds_truth (c.t.slt (c.b &&& 4095#64)) + v_bounds_truth c.big &&& 3#64) <<< 12).slt ((c.b.sshiftRight 11 - 1#64 &&& 7#64) <<< 11)) - v_bounds_truth ((BitVec.setWidth 64 (c.ad >>> min c.e.toNat 64) &&& 16383#64).slt ((c.b.sshiftRight 11 - 1#64 &&& 7#64) <<< 11))))) (c.e + 14#64)) (v_bounds_number_up { hi := 0#64, lo := BitVec.signExtend 64 (c.t ||| (c.b.sshiftRight 12 + v_bounds_truth (c.t.slt (c.b &&& 4095#64)) + v_bounds_truth c.big &&& 3#64) <<< 12) } c.e)).hi <<< 1 + (v_bounds_number_plus (v_bounds_number_up (v_bounds_signed (BitVec.setWidth 64 (c.ad >>> min (c.e + 14#64).toNat 64) + (v_bounds_truth ((c.t ||| (c.b.sshiftRight 12 + v_bounds_truth (c.t.slt (c.b &&& 4095#64)) + v_bounds_truth c.big &&& 3#64) <<< 12).slt ((c.b.sshiftRight 11 - 1#64 &&& 7#64) <<< 11)) - v_bounds_truth ((BitVec.setWidth 64 (c.ad >>> min c.e.toNat 64) &&& 16383#64).slt ((c.b.sshiftRight 11 - 1#64 &&& 7#64) <<< 11))))) (c.e + 14#64)) (v_bounds_number_up { hi := 0#64, lo := BitVec.signExtend 64 (c.t ||| (c.b.sshiftRight 12 + v_bounds_truth (c.t.slt (c.b &&& 4095#64)) + v_bounds_truth c.big &&& 3#64) <<< 12) } c.e)).lo >>> 63 - (v_bounds_number_plus (v_bounds_number_up (v_bounds_signed (BitVec.setWidth 64 (c.ad >>> min (c.e + 14#64).toNat 64) + (v_bounds_truth (c.b.slt ((c.b.sshiftRight 11 - 1#64 &&& 7#64) <<< 11)) - v_bounds_truth ((BitVec.setWidth 64 (c.ad >>> min c.e.toNat 64) &&& 16383#64).slt ((c.b.sshiftRight 11 - 1#64 &&& 7#64) <<< 11))))) (c.e + 14#64)) (v_bounds_number_up { hi := 0#64, lo := BitVec.signExtend 64 c.b } c.e)).lo >>> 63 &&& 3#64))
   (⟨((v_bounds_number_plus (v_bounds_number_up (v_bounds_signed (BitVec.setWidth 64 (c.ad >>> min (c.e + 14#64).toNat 64) + (v_bounds_truth (c.b.slt ((c.b.sshiftRight 11 - 1#64 &&& 7#64) <<< 11)) - v_bounds_truth ((BitVec.setWidth 64 (c.ad >>> min c.e.toNat 64) &&& 16383#64).slt ((c.b.sshiftRight 11 - 1#64 &&& 7#64) <<< 11))))) (c.e + 14#64)) (v_bounds_number_up { hi := 0#64, lo := BitVec.signExtend 64 c.b } c.e)).lo), ((v_bounds_number_plus (v_bounds_number_up (v_bounds_signed (BitVec.setWidth 64 (c.ad >>> min (c.e + 14#64).toNat 64) + (v_bounds_truth ((c.t ||| (c.b.sshiftRight 12 + v_bounds_truth (c.t.slt (c.b &&& 4095#64)) + v_bounds_truth c.big &&& 3#64) <<< 12).slt ((c.b.sshiftRight 11 - 1#64 &&& 7#64) <<< 11)) - v_bounds_truth ((BitVec.setWidth 64 (c.ad >>> min c.e.toNat 64) &&& 16383#64).slt ((c.b.sshiftRight 11 - 1#64 &&& 7#64) <<< 11))))) (c.e + 14#64)) (v_bounds_number_up { hi := 0#64, lo := BitVec.signExtend 64 (c.t ||| (c.b.sshiftRight 12 + v_bounds_truth (c.t.slt (c.b &&& 4095#64)) + v_bounds_truth c.big &&& 3#64) <<< 12) } c.e)).lo), ((v_bounds_number_plus (v_bounds_number_up (v_bounds_signed (BitVec.setWidth 64 (c.ad >>> min (c.e + 14#64).toNat 64) + (v_bounds_truth ((c.t ||| (c.b.sshiftRight 12 + v_bounds_truth (c.t.slt (c.b &&& 4095#64)) + v_bounds_truth c.big &&& 3#64) <<< 12).slt ((c.b.sshiftRight 11 - 1#64 &&& 7#64) <<< 11)) - v_bounds_truth ((BitVec.setWidth 64 (c.ad >>> min c.e.toNat 64) &&& 16383#64).slt ((c.b.sshiftRight 11 - 1#64 &&& 7#64) <<< 11))))) (c.e + 14#64)) (v_bounds_number_up { hi := 0#64, lo := BitVec.signExtend 64 (c.t ||| (c.b.sshiftRight 12 + v_bounds_truth (c.t.slt (c.b &&& 4095#64)) + v_bounds_truth c.big &&& 3#64) <<< 12) } c.e)).hi ^^^ 1#64 == 1#64)⟩ : Rg)
   (⟨((v_bounds_number_plus (v_bounds_number_up (v_bounds_signed (BitVec.setWidth 64 (c.ad >>> min (c.e + 14#64).toNat 64) + (v_bounds_truth (c.b.slt ((c.b.sshiftRight 11 - 1#64 &&& 7#64) <<< 11)) - v_bounds_truth ((BitVec.setWidth 64 (c.ad >>> min c.e.toNat 64) &&& 16383#64).slt ((c.b.sshiftRight 11 - 1#64 &&& 7#64) <<< 11))))) (c.e + 14#64)) (v_bounds_number_up { hi := 0#64, lo := BitVec.signExtend 64 c.b } c.e)).lo), ((v_bounds_number_plus (v_bounds_number_up (v_bounds_signed (BitVec.setWidth 64 (c.ad >>> min (c.e + 14#64).toNat 64) + (v_bounds_truth ((c.t ||| (c.b.sshiftRight 12 + v_bounds_truth (c.t.slt (c.b &&& 4095#64)) + v_bounds_truth c.big &&& 3#64) <<< 12).slt ((c.b.sshiftRight 11 - 1#64 &&& 7#64) <<< 11)) - v_bounds_truth ((BitVec.setWidth 64 (c.ad >>> min c.e.toNat 64) &&& 16383#64).slt ((c.b.sshiftRight 11 - 1#64 &&& 7#64) <<< 11))))) (c.e + 14#64)) (v_bounds_number_up { hi := 0#64, lo := BitVec.signExtend 64 (c.t ||| (c.b.sshiftRight 12 + v_bounds_truth (c.t.slt (c.b &&& 4095#64)) + v_bounds_truth c.big &&& 3#64) <<< 12) } c.e)).lo), ((v_bounds_number_plus (v_bounds_number_up (v_bounds_signed (BitVec.setWidth 64 (c.ad >>> min (c.e + 14#64).toNat 64) + (v_bounds_truth ((c.t ||| (c.b.sshiftRight 12 + v_bounds_truth (c.t.slt (c.b &&& 4095#64)) + v_bounds_truth c.big &&& 3#64) <<< 12).slt ((c.b.sshiftRight 11 - 1#64 &&& 7#64) <<< 11)) - v_bounds_truth ((BitVec.setWidth 64 (c.ad >>> min c.e.toNat 64) &&& 16383#64).slt ((c.b.sshiftRight 11 - 1#64 &&& 7#64) <<< 11))))) (c.e + 14#64)) (v_bounds_number_up { hi := 0#64, lo := BitVec.signExtend 64 (c.t ||| (c.b.sshiftRight 12 + v_bounds_truth (c.t.slt (c.b &&& 4095#64)) + v_bounds_truth c.big &&& 3#64) <<< 12) } c.e)).hi == 1#64)⟩ : Rg))
  (⟨((v_bounds_number_plus (v_bounds_number_up (v_bounds_signed (BitVec.setWidth 64 (c.ad >>> min (c.e + 14#64).toNat 64) + (v_bounds_truth (c.b.slt ((c.b.sshiftRight 11 - 1#64 &&& 7#64) <<< 11)) - v_bounds_truth ((BitVec.setWidth 64 (c.ad >>> min c.e.toNat 64) &&& 16383#64).slt ((c.b.sshiftRight 11 - 1#64 &&& 7#64) <<< 11))))) (c.e + 14#64)) (v_bounds_number_up { hi := 0#64, lo := BitVec.signExtend 64 c.b } c.e)).lo), ((v_bounds_number_plus (v_bounds_number_up (v_bounds_signed (BitVec.setWidth 64 (c.ad >>> min (c.e + 14#64).toNat 64) + (v_bounds_truth ((c.t ||| (c.b.sshiftRight 12 + v_bounds_truth (c.t.slt (c.b &&& 4095#64)) + v_bounds_truth c.big &&& 3#64) <<< 12).slt ((c.b.sshiftRight 11 - 1#64 &&& 7#64) <<< 11)) - v_bounds_truth ((BitVec.setWidth 64 (c.ad >>> min c.e.toNat 64) &&& 16383#64).slt ((c.b.sshiftRight 11 - 1#64 &&& 7#64) <<< 11))))) (c.e + 14#64)) (v_bounds_number_up { hi := 0#64, lo := BitVec.signExtend 64 (c.t ||| (c.b.sshiftRight 12 + v_bounds_truth (c.t.slt (c.b &&& 4095#64)) + v_bounds_truth c.big &&& 3#64) <<< 12) } c.e)).lo), ((v_bounds_number_plus (v_bounds_number_up (v_bounds_signed (BitVec.setWidth 64 (c.ad >>> min (c.e + 14#64).toNat 64) + (v_bounds_truth ((c.t ||| (c.b.sshiftRight 12 + v_bounds_truth (c.t.slt (c.b &&& 4095#64)) + v_bounds_truth c.big &&& 3#64) <<< 12).slt ((c.b.sshiftRight 11 - 1#64 &&& 7#64) <<< 11)) - v_bounds_truth ((BitVec.setWidth 64 (c.ad >>> min c.e.toNat 64) &&& 16383#64).slt ((c.b.sshiftRight 11 - 1#64 &&& 7#64) <<< 11))))) (c.e + 14#64)) (v_bounds_number_up { hi := 0#64, lo := BitVec.signExtend 64 (c.t ||| (c.b.sshiftRight 12 + v_bounds_truth (c.t.slt (c.b &&& 4095#64)) + v_bounds_truth c.big &&& 3#64) <<< 12) } c.e)).hi == 1#64)⟩ : Rg))
 (cond (c.e.slt 51#64)
  (cond ((1#64).ult ((v_bounds_number_plus (v_bounds_number_up (v_bounds_signed (0#64 + (v_bounds_truth ((c.t ||| (c.b.sshiftRight 12 + v_bounds_truth (c.t.slt (c.b &&& 4095#64)) + v_bounds_truth c.big &&& 3#64) <<< 12).slt ((c.b.sshiftRight 11 - 1#64 &&& 7#64) <<< 11)) - v_bounds_truth ((BitVec.setWidth 64 (c.ad >>> min c.e.toNat 64) &&& 16383#64).slt ((c.b.sshiftRight 11 - 1#64 &&& 7#64) <<< 11))))) (c.e + 14#64)) (v_bounds_number_up { hi := 0#64, lo := BitVec.signExtend 64 (c.t ||| (c.b.sshiftRight 12 + v_bounds_truth (c.t.slt (c.b &&& 4095#64)) + v_bounds_truth c.big &&& 3#64) <<< 12) } c.e)).hi <<< 1 + (v_bounds_number_plus (v_bounds_number_up (v_bounds_signed (0#64 + (v_bounds_truth ((c.t ||| (c.b.sshiftRight 12 + v_bounds_truth (c.t.slt (c.b &&& 4095#64)) + v_bounds_truth c.big &&& 3#64) <<< 12).slt ((c.b.sshiftRight 11 - 1#64 &&& 7#64) <<< 11)) - v_bounds_truth ((BitVec.setWidth 64 (c.ad >>> min c.e.toNat 64) &&& 16383#64).slt ((c.b.sshiftRight 11 - 1#64 &&& 7#64) <<< 11))))) (c.e + 14#64)) (v_bounds_number_up { hi := 0#64, lo := BitVec.signExtend 64 (c.t ||| (c.b.sshiftRight 12 + v_bounds_truth (c.t.slt (c.b &&& 4095#64)) + v_bounds_truth c.big &&& 3#64) <<< 12) } c.e)).lo >>> 63 - (v_bounds_number_plus (v_bounds_number_up (v_bounds_signed (0#64 + (v_bounds_truth (c.b.slt ((c.b.sshiftRight 11 - 1#64 &&& 7#64) <<< 11)) - v_bounds_truth ((BitVec.setWidth 64 (c.ad >>> min c.e.toNat 64) &&& 16383#64).slt ((c.b.sshiftRight 11 - 1#64 &&& 7#64) <<< 11))))) (c.e + 14#64)) (v_bounds_number_up { hi := 0#64, lo := BitVec.signExtend 64 c.b } c.e)).lo >>> 63 &&& 3#64))
   (⟨((v_bounds_number_plus (v_bounds_number_up (v_bounds_signed (0#64 + (v_bounds_truth (c.b.slt ((c.b.sshiftRight 11 - 1#64 &&& 7#64) <<< 11)) - v_bounds_truth ((BitVec.setWidth 64 (c.ad >>> min c.e.toNat 64) &&& 16383#64).slt ((c.b.sshiftRight 11 - 1#64 &&& 7#64) <<< 11))))) (c.e + 14#64)) (v_bounds_number_up { hi := 0#64, lo := BitVec.signExtend 64 c.b } c.e)).lo), ((v_bounds_number_plus (v_bounds_number_up (v_bounds_signed (0#64 + (v_bounds_truth ((c.t ||| (c.b.sshiftRight 12 + v_bounds_truth (c.t.slt (c.b &&& 4095#64)) + v_bounds_truth c.big &&& 3#64) <<< 12).slt ((c.b.sshiftRight 11 - 1#64 &&& 7#64) <<< 11)) - v_bounds_truth ((BitVec.setWidth 64 (c.ad >>> min c.e.toNat 64) &&& 16383#64).slt ((c.b.sshiftRight 11 - 1#64 &&& 7#64) <<< 11))))) (c.e + 14#64)) (v_bounds_number_up { hi := 0#64, lo := BitVec.signExtend 64 (c.t ||| (c.b.sshiftRight 12 + v_bounds_truth (c.t.slt (c.b &&& 4095#64)) + v_bounds_truth c.big &&& 3#64) <<< 12) } c.e)).lo), ((v_bounds_number_plus (v_bounds_number_up (v_bounds_signed (0#64 + (v_bounds_truth ((c.t ||| (c.b.sshiftRight 12 + v_bounds_truth (c.t.slt (c.b &&& 4095#64)) + v_bounds_truth c.big &&& 3#64) <<< 12).slt ((c.b.sshiftRight 11 - 1#64 &&& 7#64) <<< 11)) - v_bounds_truth ((BitVec.setWidth 64 (c.ad >>> min c.e.toNat 64) &&& 16383#64).slt ((c.b.sshiftRight 11 - 1#64 &&& 7#64) <<< 11))))) (c.e + 14#64)) (v_bounds_number_up { hi := 0#64, lo := BitVec.signExtend 64 (c.t ||| (c.b.sshiftRight 12 + v_bounds_truth (c.t.slt (c.b &&& 4095#64)) + v_bounds_truth c.big &&& 3#64) <<< 12) } c.e)).hi ^^^ 1#64 == 1#64)⟩ : Rg)
   (⟨((v_bounds_number_plus (v_bounds_number_up (v_bounds_signed (0#64 + (v_bounds_truth (c.b.slt ((c.b.sshiftRight 11 - 1#64 &&& 7#64) <<< 11)) - v_bounds_truth ((BitVec.setWidth 64 (c.ad >>> min c.e.toNat 64) &&& 16383#64).slt ((c.b.sshiftRight 11 - 1#64 &&& 7#64) <<< 11))))) (c.e + 14#64)) (v_bounds_number_up { hi := 0#64, lo := BitVec.signExtend 64 c.b } c.e)).lo), ((v_bounds_number_plus (v_bounds_number_up (v_bounds_signed (0#64 + (v_bounds_truth ((c.t ||| (c.b.sshiftRight 12 + v_bounds_truth (c.t.slt (c.b &&& 4095#64)) + v_bounds_truth c.big &&& 3#64) <<< 12).slt ((c.b.sshiftRight 11 - 1#64 &&& 7#64) <<< 11)) - v_bounds_truth ((BitVec.setWidth 64 (c.ad >>> min c.e.toNat 64) &&& 16383#64).slt ((c.b.sshiftRight 11 - 1#64 &&& 7#64) <<< 11))))) (c.e + 14#64)) (v_bounds_number_up { hi := 0#64, lo := BitVec.signExtend 64 (c.t ||| (c.b.sshiftRight 12 + v_bounds_truth (c.t.slt (c.b &&& 4095#64)) + v_bounds_truth c.big &&& 3#64) <<< 12) } c.e)).lo), ((v_bounds_number_plus (v_bounds_number_up (v_bounds_signed (0#64 + (v_bounds_truth ((c.t ||| (c.b.sshiftRight 12 + v_bounds_truth (c.t.slt (c.b &&& 4095#64)) + v_bounds_truth c.big &&& 3#64) <<< 12).slt ((c.b.sshiftRight 11 - 1#64 &&& 7#64) <<< 11)) - v_bounds_truth ((BitVec.setWidth 64 (c.ad >>> min c.e.toNat 64) &&& 16383#64).slt ((c.b.sshiftRight 11 - 1#64 &&& 7#64) <<< 11))))) (c.e + 14#64)) (v_bounds_number_up { hi := 0#64, lo := BitVec.signExtend 64 (c.t ||| (c.b.sshiftRight 12 + v_bounds_truth (c.t.slt (c.b &&& 4095#64)) + v_bounds_truth c.big &&& 3#64) <<< 12) } c.e)).hi == 1#64)⟩ : Rg))
  (⟨((v_bounds_number_plus (v_bounds_number_up (v_bounds_signed (0#64 + (v_bounds_truth (c.b.slt ((c.b.sshiftRight 11 - 1#64 &&& 7#64) <<< 11)) - v_bounds_truth ((BitVec.setWidth 64 (c.ad >>> min c.e.toNat 64) &&& 16383#64).slt ((c.b.sshiftRight 11 - 1#64 &&& 7#64) <<< 11))))) (c.e + 14#64)) (v_bounds_number_up { hi := 0#64, lo := BitVec.signExtend 64 c.b } c.e)).lo), ((v_bounds_number_plus (v_bounds_number_up (v_bounds_signed (0#64 + (v_bounds_truth ((c.t ||| (c.b.sshiftRight 12 + v_bounds_truth (c.t.slt (c.b &&& 4095#64)) + v_bounds_truth c.big &&& 3#64) <<< 12).slt ((c.b.sshiftRight 11 - 1#64 &&& 7#64) <<< 11)) - v_bounds_truth ((BitVec.setWidth 64 (c.ad >>> min c.e.toNat 64) &&& 16383#64).slt ((c.b.sshiftRight 11 - 1#64 &&& 7#64) <<< 11))))) (c.e + 14#64)) (v_bounds_number_up { hi := 0#64, lo := BitVec.signExtend 64 (c.t ||| (c.b.sshiftRight 12 + v_bounds_truth (c.t.slt (c.b &&& 4095#64)) + v_bounds_truth c.big &&& 3#64) <<< 12) } c.e)).lo), ((v_bounds_number_plus (v_bounds_number_up (v_bounds_signed (0#64 + (v_bounds_truth ((c.t ||| (c.b.sshiftRight 12 + v_bounds_truth (c.t.slt (c.b &&& 4095#64)) + v_bounds_truth c.big &&& 3#64) <<< 12).slt ((c.b.sshiftRight 11 - 1#64 &&& 7#64) <<< 11)) - v_bounds_truth ((BitVec.setWidth 64 (c.ad >>> min c.e.toNat 64) &&& 16383#64).slt ((c.b.sshiftRight 11 - 1#64 &&& 7#64) <<< 11))))) (c.e + 14#64)) (v_bounds_number_up { hi := 0#64, lo := BitVec.signExtend 64 (c.t ||| (c.b.sshiftRight 12 + v_bounds_truth (c.t.slt (c.b &&& 4095#64)) + v_bounds_truth c.big &&& 3#64) <<< 12) } c.e)).hi == 1#64)⟩ : Rg)))
def g_bounds_Of (c : Cp) : Bool :=
 (cond (nonneg IntKind.i64 c.e)
 (cond ((c.e + 14#64).slt 64#64)
  (cond (nonneg IntKind.i64 (c.e + 14#64))
   (cond (g_bounds_number_up (v_bounds_signed (BitVec.setWidth 64 (c.ad >>> min (c.e + 14#64).toNat 64) + (v_bounds_truth (c.b.slt ((c.b.sshiftRight 11 - 1#64 &&& 7#64) <<< 11)) - v_bounds_truth ((BitVec.setWidth 64 (c.ad >>> min c.e.toNat 64) &&& 16383#64).slt ((c.b.sshiftRight 11 - 1#64 &&& 7#64) <<< 11))))) (c.e + 14#64))
    (cond (g_bounds_number_up { hi := 0#64, lo := BitVec.signExtend 64 c.b } c.e)
     (cond (g_bounds_number_up (v_bounds_signed (BitVec.setWidth 64 (c.ad >>> min (c.e + 14#64).toNat 64) + (v_bounds_truth ((c.t ||| (c.b.sshiftRight 12 + v_bounds_truth (c.t.slt (c.b &&& 4095#64)) + v_bounds_truth c.big &&& 3#64) <<< 12).slt ((c.b.sshiftRight 11 - 1#64 &&& 7#64) <<< 11)) - v_bounds_truth ((BitVec.setWidth 64 (c.ad >>> min c.e.toNat 64) &&& 16383#64).slt ((c.b.sshiftRight 11 - 1#64 &&& 7#64) <<< 11))))) (c.e + 14#64))
      (cond (g_bounds_number_up { hi := 0#64, lo := BitVec.signExtend 64 (c.t ||| (c.b.sshiftRight 12 + v_bounds_truth (c.t.slt (c.b &&& 4095#64)) + v_bounds_truth c.big &&& 3#64) <<< 12) } c.e)
       (cond (c.e.slt 51#64)
        (cond ((1#64).ult ((v_bounds_number_plus (v_bounds_number_up (v_bounds_signed (BitVec.setWidth 64 (c.ad >>> min (c.e + 14#64).toNat 64) + (v_bounds_truth ((c.t ||| (c.b.sshiftRight 12 + v_bounds_truth (c.t.slt (c.b &&& 4095#64)) + v_bounds_truth c.big &&& 3#64) <<< 12).slt ((c.b.sshiftRight 11 - 1#64 &&& 7#64) <<< 11)) - v_bounds_truth ((BitVec.setWidth 64 (c.ad >>> min c.e.toNat 64) &&& 16383#64).slt ((c.b.sshiftRight 11 - 1#64 &&& 7#64) <<< 11))))) (c.e + 14#64)) (v_bounds_number_up { hi := 0#64, lo := BitVec.signExtend 64 (c.t ||| (c.b.sshiftRight 12 + v_bounds_truth (c.t.slt (c.b &&& 4095#64)) + v_bounds_truth c.big &&& 3#64) <<< 12) } c.e)).hi <<< 1 + (v_bounds_number_plus (v_bounds_number_up (v_bounds_signed (BitVec.setWidth 64 (c.ad >>> min (c.e + 14#64).toNat 64) + (v_bounds_truth ((c.t ||| (c.b.sshiftRight 12 + v_bounds_truth (c.t.slt (c.b &&& 4095#64)) + v_bounds_truth c.big &&& 3#64) <<< 12).slt ((c.b.sshiftRight 11 - 1#64 &&& 7#64) <<< 11)) - v_bounds_truth ((BitVec.setWidth 64 (c.ad >>> min c.e.toNat 64) &&& 16383#64).slt ((c.b.sshiftRight 11 - 1#64 &&& 7#64) <<< 11))))) (c.e + 14#64)) (v_bounds_number_up { hi := 0#64, lo := BitVec.signExtend 64 (c.t ||| (c.b.sshiftRight 12 + v_bounds_truth (c.t.slt (c.b &&& 4095#64)) + v_bounds_truth c.big &&& 3#64) <<< 12) } c.e)).lo >>> 63 - (v_bounds_number_plus (v_bounds_number_up (v_bounds_signed (BitVec.setWidth 64 (c.ad >>> min (c.e + 14#64).toNat 64) + (v_bounds_truth (c.b.slt ((c.b.sshiftRight 11 - 1#64 &&& 7#64) <<< 11)) - v_bounds_truth ((BitVec.setWidth 64 (c.ad >>> min c.e.toNat 64) &&& 16383#64).slt ((c.b.sshiftRight 11 - 1#64 &&& 7#64) <<< 11))))) (c.e + 14#64)) (v_bounds_number_up { hi := 0#64, lo := BitVec.signExtend 64 c.b } c.e)).lo >>> 63 &&& 3#64))
         true
         true)
        true)
       false)
      false)
     false)
    false)
   false)
  (cond (g_bounds_number_up (v_bounds_signed (0#64 + (v_bounds_truth (c.b.slt ((c.b.sshiftRight 11 - 1#64 &&& 7#64) <<< 11)) - v_bounds_truth ((BitVec.setWidth 64 (c.ad >>> min c.e.toNat 64) &&& 16383#64).slt ((c.b.sshiftRight 11 - 1#64 &&& 7#64) <<< 11))))) (c.e + 14#64))
   (cond (g_bounds_number_up { hi := 0#64, lo := BitVec.signExtend 64 c.b } c.e)
    (cond (g_bounds_number_up (v_bounds_signed (0#64 + (v_bounds_truth ((c.t ||| (c.b.sshiftRight 12 + v_bounds_truth (c.t.slt (c.b &&& 4095#64)) + v_bounds_truth c.big &&& 3#64) <<< 12).slt ((c.b.sshiftRight 11 - 1#64 &&& 7#64) <<< 11)) - v_bounds_truth ((BitVec.setWidth 64 (c.ad >>> min c.e.toNat 64) &&& 16383#64).slt ((c.b.sshiftRight 11 - 1#64 &&& 7#64) <<< 11))))) (c.e + 14#64))
     (cond (g_bounds_number_up { hi := 0#64, lo := BitVec.signExtend 64 (c.t ||| (c.b.sshiftRight 12 + v_bounds_truth (c.t.slt (c.b &&& 4095#64)) + v_bounds_truth c.big &&& 3#64) <<< 12) } c.e)
      (cond (c.e.slt 51#64)
       (cond ((1#64).ult ((v_bounds_number_plus (v_bounds_number_up (v_bounds_signed (0#64 + (v_bounds_truth ((c.t ||| (c.b.sshiftRight 12 + v_bounds_truth (c.t.slt (c.b &&& 4095#64)) + v_bounds_truth c.big &&& 3#64) <<< 12).slt ((c.b.sshiftRight 11 - 1#64 &&& 7#64) <<< 11)) - v_bounds_truth ((BitVec.setWidth 64 (c.ad >>> min c.e.toNat 64) &&& 16383#64).slt ((c.b.sshiftRight 11 - 1#64 &&& 7#64) <<< 11))))) (c.e + 14#64)) (v_bounds_number_up { hi := 0#64, lo := BitVec.signExtend 64 (c.t ||| (c.b.sshiftRight 12 + v_bounds_truth (c.t.slt (c.b &&& 4095#64)) + v_bounds_truth c.big &&& 3#64) <<< 12) } c.e)).hi <<< 1 + (v_bounds_number_plus (v_bounds_number_up (v_bounds_signed (0#64 + (v_bounds_truth ((c.t ||| (c.b.sshiftRight 12 + v_bounds_truth (c.t.slt (c.b &&& 4095#64)) + v_bounds_truth c.big &&& 3#64) <<< 12).slt ((c.b.sshiftRight 11 - 1#64 &&& 7#64) <<< 11)) - v_bounds_truth ((BitVec.setWidth 64 (c.ad >>> min c.e.toNat 64) &&& 16383#64).slt ((c.b.sshiftRight 11 - 1#64 &&& 7#64) <<< 11))))) (c.e + 14#64)) (v_bounds_number_up { hi := 0#64, lo := BitVec.signExtend 64 (c.t ||| (c.b.sshiftRight 12 + v_bounds_truth (c.t.slt (c.b &&& 4095#64)) + v_bounds_truth c.big &&& 3#64) <<< 12) } c.e)).lo >>> 63 - (v_bounds_number_plus (v_bounds_number_up (v_bounds_signed (0#64 + (v_bounds_truth (c.b.slt ((c.b.sshiftRight 11 - 1#64 &&& 7#64) <<< 11)) - v_bounds_truth ((BitVec.setWidth 64 (c.ad >>> min c.e.toNat 64) &&& 16383#64).slt ((c.b.sshiftRight 11 - 1#64 &&& 7#64) <<< 11))))) (c.e + 14#64)) (v_bounds_number_up { hi := 0#64, lo := BitVec.signExtend 64 c.b } c.e)).lo >>> 63 &&& 3#64))
        true
        true)
       true)
      false)
     false)
    false)
   false))
 false)

def v_bounds_number_down (a : W2) (n : BitVec 64) : W2 × Bool :=
 (cond (n == 0#64)
 ((a), (false))
 ((⟨(0#64), (a.lo >>> min n.toNat 64 ||| a.hi <<< min (64#64 - n).toNat 64)⟩ : W2), (!a.lo <<< min (64#64 - n).toNat 64 == 0#64)))
def g_bounds_number_down (a : W2) (n : BitVec 64) : Bool :=
 (cond (n == 0#64)
 true
 (cond (nonneg IntKind.i64 n)
  (cond (nonneg IntKind.i64 (64#64 - n))
   (cond (nonneg IntKind.i64 (64#64 - n))
    true
    false)
   false)
  false))

def v_bounds_mantissas (xfrom : W2) (xto : W2) (xe : BitVec 64) : BitVec 64 × BitVec 64 × Bool × Bool :=
 ((BitVec.setWidth 64 ((v_bounds_number_down xfrom (xe + 3#64)).fst.lo &&& 2047#64)), (BitVec.setWidth 64 ((v_bounds_number_down xto (xe + 3#64)).fst.lo &&& 2047#64) + v_bounds_truth (v_bounds_number_down xto (xe + 3#64)).snd &&& 2047#64), ((v_bounds_number_down xfrom (xe + 3#64)).snd), ((v_bounds_number_down xto (xe + 3#64)).snd))
def g_bounds_mantissas (xfrom : W2) (xto : W2) (xe : BitVec 64) : Bool :=
 (cond (g_bounds_number_down xfrom (xe + 3#64))
 (cond (g_bounds_number_down xto (xe + 3#64))
  true
  false)
 false)

def v_bounds_Lay (c : Cp) (n : BitVec 64) : Cp × Bool :=
 (cond ((0#64).slt (bif (0#64).slt (v_bits_Len64 n - 13#64) then v_bits_Len64 n - 13#64 else 0#64))
 (cond (!(v_bounds_mantissas { hi := 0#64, lo := c.ad } (v_bounds_number_plus { hi := 0#64, lo := c.ad } { hi := 0#64, lo := n }) (bif (0#64).slt (v_bits_Len64 n - 13#64) then v_bits_Len64 n - 13#64 else 0#64)).snd.fst - (v_bounds_mantissas { hi := 0#64, lo := c.ad } (v_bounds_number_plus { hi := 0#64, lo := c.ad } { hi := 0#64, lo := n }) (bif (0#64).slt (v_bits_Len64 n - 13#64) then v_bits_Len64 n - 13#64 else 0#64)).fst &&& 1024#64 == 0#64)
  (cond (!(v_bounds_mantissas { hi := 0#64, lo := c.ad } (v_bounds_number_plus { hi := 0#64, lo := c.ad } { hi := 0#64, lo := n }) ((bif (0#64).slt (v_bits_Len64 n - 13#64) then v_bits_Len64 n - 13#64 else 0#64) + 1#64)).snd.snd.fst)
   ((⟨(c.tag), (c.per), (c.ty), (c.mo), ((bif (0#64).slt (v_bits_Len64 n - 13#64) then v_bits_Len64 n - 13#64 else 0#64) + 1#64), ((v_bounds_mantissas { hi := 0#64, lo := c.ad } (v_bounds_number_plus { hi := 0#64, lo := c.ad } { hi := 0#64, lo := n }) ((bif (0#64).slt (v_bits_Len64 n - 13#64) then v_bits_Len64 n - 13#64 else 0#64) + 1#64)).fst <<< 3), ((v_bounds_mantissas { hi := 0#64, lo := c.ad } (v_bounds_number_plus { hi := 0#64, lo := c.ad } { hi := 0#64, lo := n }) ((bif (0#64).slt (v_bits_Len64 n - 13#64) then v_bits_Len64 n - 13#64 else 0#64) + 1#64)).snd.fst <<< 3 &&& 4095#64), (true), (c.ad)⟩ : Cp), (!(v_bounds_mantissas { hi := 0#64, lo := c.ad } (v_bounds_number_plus { hi := 0#64, lo := c.ad } { hi := 0#64, lo := n }) ((bif (0#64).slt (v_bits_Len64 n - 13#64) then v_bits_Len64 n - 13#64 else 0#64) + 1#64)).snd.snd.snd))
   ((⟨(c.tag), (c.per), (c.ty), (c.mo), ((bif (0#64).slt (v_bits_Len64 n - 13#64) then v_bits_Len64 n - 13#64 else 0#64) + 1#64), ((v_bounds_mantissas { hi := 0#64, lo := c.ad } (v_bounds_number_plus { hi := 0#64, lo := c.ad } { hi := 0#64, lo := n }) ((bif (0#64).slt (v_bits_Len64 n - 13#64) then v_bits_Len64 n - 13#64 else 0#64) + 1#64)).fst <<< 3), ((v_bounds_mantissas { hi := 0#64, lo := c.ad } (v_bounds_number_plus { hi := 0#64, lo := c.ad } { hi := 0#64, lo := n }) ((bif (0#64).slt (v_bits_Len64 n - 13#64) then v_bits_Len64 n - 13#64 else 0#64) + 1#64)).snd.fst <<< 3 &&& 4095#64), (true), (c.ad)⟩ : Cp), (false)))
  (cond (!(v_bounds_mantissas { hi := 0#64, lo := c.ad } (v_bounds_number_plus { hi := 0#64, lo := c.ad } { hi := 0#64, lo := n }) (bif (0#64).slt (v_bits_Len64 n - 13#64) then v_bits_Len64 n - 13#64 else 0#64)).snd.snd.fst)
   ((⟨(c.tag), (c.per), (c.ty), (c.mo), (bif (0#64).slt (v_bits_Len64 n - 13#64) then v_bits_Len64 n - 13#64 else 0#64), ((v_bounds_mantissas { hi := 0#64, lo := c.ad } (v_bounds_number_plus { hi := 0#64, lo := c.ad } { hi := 0#64, lo := n }) (bif (0#64).slt (v_bits_Len64 n - 13#64) then v_bits_Len64 n - 13#64 else 0#64)).fst <<< 3), ((v_bounds_mantissas { hi := 0#64, lo := c.ad } (v_bounds_number_plus { hi := 0#64, lo := c.ad } { hi := 0#64, lo := n }) (bif (0#64).slt (v_bits_Len64 n - 13#64) then v_bits_Len64 n - 13#64 else 0#64)).snd.fst <<< 3 &&& 4095#64), (true), (c.ad)⟩ : Cp), (!(v_bounds_mantissas { hi := 0#64, lo := c.ad } (v_bounds_number_plus { hi := 0#64, lo := c.ad } { hi := 0#64, lo := n }) (bif (0#64).slt (v_bits_Len64 n - 13#64) then v_bits_Len64 n - 13#64 else 0#64)).snd.snd.snd))
   ((⟨(c.tag), (c.per), (c.ty), (c.mo), (bif (0#64).slt (v_bits_Len64 n - 13#64) then v_bits_Len64 n - 13#64 else 0#64), ((v_bounds_mantissas { hi := 0#64, lo := c.ad } (v_bounds_number_plus { hi := 0#64, lo := c.ad } { hi := 0#64, lo := n }) (bif (0#64).slt (v_bits_Len64 n - 13#64) then v_bits_Len64 n - 13#64 else 0#64)).fst <<< 3), ((v_bounds_mantissas { hi := 0#64, lo := c.ad } (v_bounds_number_plus { hi := 0#64, lo := c.ad } { hi := 0#64, lo := n }) (bif (0#64).slt (v_bits_Len64 n - 13#64) then v_bits_Len64 n - 13#64 else 0#64)).snd.fst <<< 3 &&& 4095#64), (true), (c.ad)⟩ : Cp), (false))))
 (cond (!n >>> 12 &&& 1#64 == 1#64)
  ((⟨(c.tag), (c.per), (c.ty), (c.mo), (0#64), (BitVec.setWidth 64 (c.ad &&& 16383#64)), (BitVec.setWidth 64 ((v_bounds_number_plus { hi := 0#64, lo := c.ad } { hi := 0#64, lo := n }).lo &&& 4095#64)), (n >>> 12 &&& 1#64 == 1#64), (c.ad)⟩ : Cp), (true))
  (cond (!(v_bounds_mantissas { hi := 0#64, lo := c.ad } (v_bounds_number_plus { hi := 0#64, lo := c.ad } { hi := 0#64, lo := n }) (bif (0#64).slt (v_bits_Len64 n - 13#64) then v_bits_Len64 n - 13#64 else 0#64)).snd.fst - (v_bounds_mantissas { hi := 0#64, lo := c.ad } (v_bounds_number_plus { hi := 0#64, lo := c.ad } { hi := 0#64, lo := n }) (bif (0#64).slt (v_bits_Len64 n - 13#64) then v_bits_Len64 n - 13#64 else 0#64)).fst &&& 1024#64 == 0#64)
   (cond (!(v_bounds_mantissas { hi := 0#64, lo := c.ad } (v_bounds_number_plus { hi := 0#64, lo := c.ad } { hi := 0#64, lo := n }) ((bif (0#64).slt (v_bits_Len64 n - 13#64) then v_bits_Len64 n - 13#64 else 0#64) + 1#64)).snd.snd.fst)
    ((⟨(c.tag), (c.per), (c.ty), (c.mo), ((bif (0#64).slt (v_bits_Len64 n - 13#64) then v_bits_Len64 n - 13#64 else 0#64) + 1#64), ((v_bounds_mantissas { hi := 0#64, lo := c.ad } (v_bounds_number_plus { hi := 0#64, lo := c.ad } { hi := 0#64, lo := n }) ((bif (0#64).slt (v_bits_Len64 n - 13#64) then v_bits_Len64 n - 13#64 else 0#64) + 1#64)).fst <<< 3), ((v_bounds_mantissas { hi := 0#64, lo := c.ad } (v_bounds_number_plus { hi := 0#64, lo := c.ad } { hi := 0#64, lo := n }) ((bif (0#64).slt (v_bits_Len64 n - 13#64) then v_bits_Len64 n - 13#64 else 0#64) + 1#64)).snd.fst <<< 3 &&& 4095#64), (n >>> 12 &&& 1#64 == 1#64), (c.ad)⟩ : Cp), (!(v_bounds_mantissas { hi := 0#64, lo := c.ad } (v_bounds_number_plus { hi := 0#64, lo := c.ad } { hi := 0#64, lo := n }) ((bif (0#64).slt (v_bits_Len64 n - 13#64) then v_bits_Len64 n - 13#64 else 0#64) + 1#64)).snd.snd.snd))
    ((⟨(c.tag), (c.per), (c.ty), (c.mo), ((bif (0#64).slt (v_bits_Len64 n - 13#64) then v_bits_Len64 n - 13#64 else 0#64) + 1#64), ((v_bounds_mantissas { hi := 0#64, lo := c.ad } (v_bounds_number_plus { hi := 0#64, lo := c.ad } { hi := 0#64, lo := n }) ((bif (0#64).slt (v_bits_Len64 n - 13#64) then v_bits_Len64 n - 13#64 else 0#64) + 1#64)).fst <<< 3), ((v_bounds_mantissas { hi := 0#64, lo := c.ad } (v_bounds_number_plus { hi := 0#64, lo := c.ad } { hi := 0#64, lo := n }) ((bif (0#64).slt (v_bits_Len64 n - 13#64) then v_bits_Len64 n - 13#64 else 0#64) + 1#64)).snd.fst <<< 3 &&& 4095#64), (n >>> 12 &&& 1#64 == 1#64), (c.ad)⟩ : Cp), (false)))
   (cond (!(v_bounds_mantissas { hi := 0#64, lo := c.ad } (v_bounds_number_plus { hi := 0#64, lo := c.ad } { hi := 0#64, lo := n }) (bif (0#64).slt (v_bits_Len64 n - 13#64) then v_bits_Len64 n - 13#64 else 0#64)).snd.snd.fst)
    ((⟨(c.tag), (c.per), (c.ty), (c.mo), (bif (0#64).slt (v_bits_Len64 n - 13#64) then v_bits_Len64 n - 13#64 else 0#64), ((v_bounds_mantissas { hi := 0#64, lo := c.ad } (v_bounds_number_plus { hi := 0#64, lo := c.ad } { hi := 0#64, lo := n }) (bif (0#64).slt (v_bits_Len64 n - 13#64) then v_bits_Len64 n - 13#64 else 0#64)).fst <<< 3), ((v_bounds_mantissas { hi := 0#64, lo := c.ad } (v_bounds_number_plus { hi := 0#64, lo := c.ad } { hi := 0#64, lo := n }) (bif (0#64).slt (v_bits_Len64 n - 13#64) then v_bits_Len64 n - 13#64 else 0#64)).snd.fst <<< 3 &&& 4095#64), (n >>> 12 &&& 1#64 == 1#64), (c.ad)⟩ : Cp), (!(v_bounds_mantissas { hi := 0#64, lo := c.ad } (v_bounds_number_plus { hi := 0#64, lo := c.ad } { hi := 0#64, lo := n }) (bif (0#64).slt (v_bits_Len64 n - 13#64) then v_bits_Len64 n - 13#64 else 0#64)).snd.snd.snd))
    ((⟨(c.tag), (c.per), (c.ty), (c.mo), (bif (0#64).slt (v_bits_Len64 n - 13#64) then v_bits_Len64 n - 13#64 else 0#64), ((v_bounds_mantissas { hi := 0#64, lo := c.ad } (v_bounds_number_plus { hi := 0#64, lo := c.ad } { hi := 0#64, lo := n }) (bif (0#64).slt (v_bits_Len64 n - 13#64) then v_bits_Len64 n - 13#64 else 0#64)).fst <<< 3), ((v_bounds_mantissas { hi := 0#64, lo := c.ad } (v_bounds_number_plus { hi := 0#64, lo := c.ad } { hi := 0#64, lo := n }) (bif (0#64).slt (v_bits_Len64 n - 13#64) then v_bits_Len64 n - 13#64 else 0#64)).snd.fst <<< 3 &&& 4095#64), (n >>> 12 &&& 1#64 == 1#64), (c.ad)⟩ : Cp), (false))))))
def g_bounds_Lay (c : Cp) (n : BitVec 64) : Bool :=
 (cond ((0#64).slt (bif (0#64).slt (v_bits_Len64 n - 13#64) then v_bits_Len64 n - 13#64 else 0#64))
 (cond (g_bounds_mantissas { hi := 0#64, lo := c.ad } (v_bounds_number_plus { hi := 0#64, lo := c.ad } { hi := 0#64, lo := n }) (bif (0#64).slt (v_bits_Len64 n - 13#64) then v_bits_Len64 n - 13#64 else 0#64))
  (cond (!(v_bounds_mantissas { hi := 0#64, lo := c.ad } (v_bounds_number_plus { hi := 0#64, lo := c.ad } { hi := 0#64, lo := n }) (bif (0#64).slt (v_bits_Len64 n - 13#64) then v_bits_Len64 n - 13#64 else 0#64)).snd.fst - (v_bounds_mantissas { hi := 0#64, lo := c.ad } (v_bounds_number_plus { hi := 0#64, lo := c.ad } { hi := 0#64, lo := n }) (bif (0#64).slt (v_bits_Len64 n - 13#64) then v_bits_Len64 n - 13#64 else 0#64)).fst &&& 1024#64 == 0#64)
   (cond (g_bounds_mantissas { hi := 0#64, lo := c.ad } (v_bounds_number_plus { hi := 0#64, lo := c.ad } { hi := 0#64, lo := n }) ((bif (0#64).slt (v_bits_Len64 n - 13#64) then v_bits_Len64 n - 13#64 else 0#64) + 1#64))
    (cond (!(v_bounds_mantissas { hi := 0#64, lo := c.ad } (v_bounds_number_plus { hi := 0#64, lo := c.ad } { hi := 0#64, lo := n }) ((bif (0#64).slt (v_bits_Len64 n - 13#64) then v_bits_Len64 n - 13#64 else 0#64) + 1#64)).snd.snd.fst)
     true
     true)
    false)
   (cond (!(v_bounds_mantissas { hi := 0#64, lo := c.ad } (v_bounds_number_plus { hi := 0#64, lo := c.ad } { hi := 0#64, lo := n }) (bif (0#64).slt (v_bits_Len64 n - 13#64) then v_bits_Len64 n - 13#64 else 0#64)).snd.snd.fst)
    true
    true))
  false)
 (cond (!n >>> 12 &&& 1#64 == 1#64)
  true
  (cond (g_bounds_mantissas { hi := 0#64, lo := c.ad } (v_bounds_number_plus { hi := 0#64, lo := c.ad } { hi := 0#64, lo := n }) (bif (0#64).slt (v_bits_Len64 n - 13#64) then v_bits_Len64 n - 13#64 else 0#64))
   (cond (!(v_bounds_mantissas { hi := 0#64, lo := c.ad } (v_bounds_number_plus { hi := 0#64, lo := c.ad } { hi := 0#64, lo := n }) (bif (0#64).slt (v_bits_Len64 n - 13#64) then v_bits_Len64 n - 13#64 else 0#64)).snd.fst - (v_bounds_mantissas { hi := 0#64, lo := c.ad } (v_bounds_number_plus { hi := 0#64, lo := c.ad } { hi := 0#64, lo := n }) (bif (0#64).slt (v_bits_Len64 n - 13#64) then v_bits_Len64 n - 13#64 else 0#64)).fst &&& 1024#64 == 0#64)
    (cond (g_bounds_mantissas { hi := 0#64, lo := c.ad } (v_bounds_number_plus { hi := 0#64, lo := c.ad } { hi := 0#64, lo := n }) ((bif (0#64).slt (v_bits_Len64 n - 13#64) then v_bits_Len64 n - 13#64 else 0#64) + 1#64))
     (cond (!(v_bounds_mantissas { hi := 0#64, lo := c.ad } (v_bounds_number_plus { hi := 0#64, lo := c.ad } { hi := 0#64, lo := n }) ((bif (0#64).slt (v_bits_Len64 n - 13#64) then v_bits_Len64 n - 13#64 else 0#64) + 1#64)).snd.snd.fst)
      true
      true)
     false)
    (cond (!(v_bounds_mantissas { hi := 0#64, lo := c.ad } (v_bounds_number_plus { hi := 0#64, lo := c.ad } { hi := 0#64, lo := n }) (bif (0#64).slt (v_bits_Len64 n - 13#64) then v_bits_Len64 n - 13#64 else 0#64)).snd.snd.fst)
     true
     true))
   false)))

def v_bounds_Within (a : Rg) (xb : Rg) : Bool :=
 (cond (xb.base.ule a.base)
 (!v_bounds_number_above (v_bounds_top a) (v_bounds_top xb))
 (false))

def v_bounds_Fits (c : Cp) (xat : BitVec 64) : Bool :=
 ((v_bounds_Of { tag := c.tag, per := c.per, ty := c.ty, mo := c.mo, e := c.e, b := c.b, t := c.t, big := c.big, ad := xat }).base == (v_bounds_Of c).base && ((v_bounds_Of { tag := c.tag, per := c.per, ty := c.ty, mo := c.mo, e := c.e, b := c.b, t := c.t, big := c.big, ad := xat }).top == (v_bounds_Of c).top && ((v_bounds_Of { tag := c.tag, per := c.per, ty := c.ty, mo := c.mo, e := c.e, b := c.b, t := c.t, big := c.big, ad := xat }).over == (v_bounds_Of c).over && true)))
def g_bounds_Fits (c : Cp) (xat : BitVec 64) : Bool :=
 (cond (g_bounds_Of c)
 (cond (g_bounds_Of { tag := c.tag, per := c.per, ty := c.ty, mo := c.mo, e := c.e, b := c.b, t := c.t, big := c.big, ad := xat })
  true
  false)
 false)

def v_bounds_Len (r : Rg) : BitVec 64 :=
 (cond (!v_bounds_number_above (v_bounds_top r) { hi := 0#64, lo := r.base })
 (0#64)
 (cond (r.over)
  (cond (r.base.ule r.top)
   (18446744073709551615#64)
   (r.top - r.base))
  (r.top - r.base)))

def v_bounds_Mask (n : BitVec 64) : BitVec 64 :=
 (cond (!(v_bounds_Lay { tag := false, per := BitVec.ofInt IntKind.i64.bits 0, ty := BitVec.ofInt IntKind.i64.bits 0, mo := BitVec.ofInt IntKind.i64.bits 0, e := BitVec.ofInt IntKind.i64.bits 0, b := BitVec.ofInt IntKind.i64.bits 0, t := BitVec.ofInt IntKind.i64.bits 0, big := false, ad := BitVec.ofInt IntKind.u64.bits 0 } n).fst.big)
 (18446744073709551615#64)
 (18446744073709551615#64 <<< min ((v_bounds_Lay { tag := false, per := BitVec.ofInt IntKind.i64.bits 0, ty := BitVec.ofInt IntKind.i64.bits 0, mo := BitVec.ofInt IntKind.i64.bits 0, e := BitVec.ofInt IntKind.i64.bits 0, b := BitVec.ofInt IntKind.i64.bits 0, t := BitVec.ofInt IntKind.i64.bits 0, big := false, ad := BitVec.ofInt IntKind.u64.bits 0 } n).fst.e + 3#64).toNat 64))
def g_bounds_Mask (n : BitVec 64) : Bool :=
 (cond (g_bounds_Lay { tag := false, per := BitVec.ofInt IntKind.i64.bits 0, ty := BitVec.ofInt IntKind.i64.bits 0, mo := BitVec.ofInt IntKind.i64.bits 0, e := BitVec.ofInt IntKind.i64.bits 0, b := BitVec.ofInt IntKind.i64.bits 0, t := BitVec.ofInt IntKind.i64.bits 0, big := false, ad := BitVec.ofInt IntKind.u64.bits 0 } n)
 (cond (!(v_bounds_Lay { tag := false, per := BitVec.ofInt IntKind.i64.bits 0, ty := BitVec.ofInt IntKind.i64.bits 0, mo := BitVec.ofInt IntKind.i64.bits 0, e := BitVec.ofInt IntKind.i64.bits 0, b := BitVec.ofInt IntKind.i64.bits 0, t := BitVec.ofInt IntKind.i64.bits 0, big := false, ad := BitVec.ofInt IntKind.u64.bits 0 } n).fst.big)
  true
  (cond (nonneg IntKind.i64 ((v_bounds_Lay { tag := false, per := BitVec.ofInt IntKind.i64.bits 0, ty := BitVec.ofInt IntKind.i64.bits 0, mo := BitVec.ofInt IntKind.i64.bits 0, e := BitVec.ofInt IntKind.i64.bits 0, b := BitVec.ofInt IntKind.i64.bits 0, t := BitVec.ofInt IntKind.i64.bits 0, big := false, ad := BitVec.ofInt IntKind.u64.bits 0 } n).fst.e + 3#64))
   true
   false))
 false)

def v_bounds_Round (n : BitVec 64) : BitVec 64 :=
 (n + ~~~v_bounds_Mask n &&& v_bounds_Mask n)
def g_bounds_Round (n : BitVec 64) : Bool :=
 (cond (g_bounds_Mask n)
 true
 false)

def v_r03_notAbove (a : W2) (xb : W2) : Bool :=
 (cond (a.hi.ult xb.hi)
 (true)
 (cond (a.hi == xb.hi)
  (a.lo.ule xb.lo)
  (false)))

def v_r03_one (xis : Bool) : BitVec 64 :=
 (cond (xis)
 (1#64)
 (0#64))

def v_r03_top (r : Rg) : W2 :=
 (⟨(BitVec.signExtend 64 (v_r03_one r.over)), (r.top)⟩ : W2)

def v_r03_In (r : Rg) (xat : BitVec 64) (n : BitVec 64) : Bool :=
 (cond (n.slt 0#64)
 (false)
 (cond (xat.ult r.base)
  (false)
  (v_r03_notAbove { hi := BitVec.signExtend 64 (v_r03_one ((xat + BitVec.signExtend 64 n).ult xat)), lo := xat + BitVec.signExtend 64 n } (v_r03_top r))))

def v_r03_part (a : BitVec 64) (step : BitVec 64) : BitVec 64 × Bool :=
 (cond (step.slt 0#64)
 ((a - 1#64), (a == 0#64))
 ((a + BitVec.signExtend 64 step), (false)))

def v_r03_add (a : W2) (xb : W2) : W2 :=
 (cond ((a.lo + xb.lo).ult a.lo)
 (⟨((a.hi + xb.hi + 1#64) % 2#64), (a.lo + xb.lo)⟩ : W2)
 (⟨((a.hi + xb.hi) % 2#64), (a.lo + xb.lo)⟩ : W2))

def v_r03_up (v : BitVec 64) (below : Bool) (n : BitVec 64) : W2 :=
 (cond (below)
 (⟨((v_up_loop { n := n, i := 0#64, za := 0#64, zb := 0#64, uh := 1#64, ul := v }).uh), ((v_up_loop { n := n, i := 0#64, za := 0#64, zb := 0#64, uh := 1#64, ul := v }).ul)⟩ : W2)
 (⟨((v_up_loop { n := n, i := 0#64, za := 0#64, zb := 0#64, uh := 0#64, ul := v }).uh), ((v_up_loop { n := n, i := 0#64, za := 0#64, zb := 0#64, uh := 0#64, ul := v }).ul)⟩ : W2))

def v_r03_Of (c : Cp) : Rg :=
 (cond ((c.e + 14#64).slt 64#64)
 (cond (c.e.slt 51#64)
  (cond ((1#64).ult ((2#64 * (v_r03_add (v_r03_up (v_r03_part (c.ad >>> min (BitVec.signExtend 64 (c.e + 14#64)).toNat 64) (v_r03_one ((c.t + (c.b.sdiv 4096#64 + v_r03_one (c.t.slt (c.b.srem 4096#64)) + v_r03_one c.big).srem 4#64 * 4096#64).slt ((c.b.sdiv 2048#64 + 7#64).srem 8#64 * 2048#64)) - v_r03_one ((BitVec.setWidth 64 (c.ad >>> min (BitVec.signExtend 64 c.e).toNat 64 % 16384#64)).slt ((c.b.sdiv 2048#64 + 7#64).srem 8#64 * 2048#64)))).fst (v_r03_part (c.ad >>> min (BitVec.signExtend 64 (c.e + 14#64)).toNat 64) (v_r03_one ((c.t + (c.b.sdiv 4096#64 + v_r03_one (c.t.slt (c.b.srem 4096#64)) + v_r03_one c.big).srem 4#64 * 4096#64).slt ((c.b.sdiv 2048#64 + 7#64).srem 8#64 * 2048#64)) - v_r03_one ((BitVec.setWidth 64 (c.ad >>> min (BitVec.signExtend 64 c.e).toNat 64 % 16384#64)).slt ((c.b.sdiv 2048#64 + 7#64).srem 8#64 * 2048#64)))).snd (c.e + 14#64)) (v_r03_up (BitVec.signExtend 64 (c.t + (c.b.sdiv 4096#64 + v_r03_one (c.t.slt (c.b.srem 4096#64)) + v_r03_one c.big).srem 4#64 * 4096#64)) false c.e)).hi + (v_r03_add (v_r03_up (v_r03_part (c.ad >>> min (BitVec.signExtend 64 (c.e + 14#64)).toNat 64) (v_r03_one ((c.t + (c.b.sdiv 4096#64 + v_r03_one (c.t.slt (c.b.srem 4096#64)) + v_r03_one c.big).srem 4#64 * 4096#64).slt ((c.b.sdiv 2048#64 + 7#64).srem 8#64 * 2048#64)) - v_r03_one ((BitVec.setWidth 64 (c.ad >>> min (BitVec.signExtend 64 c.e).toNat 64 % 16384#64)).slt ((c.b.sdiv 2048#64 + 7#64).srem 8#64 * 2048#64)))).fst (v_r03_part (c.ad >>> min (BitVec.signExtend 64 (c.e + 14#64)).toNat 64) (v_r03_one ((c.t + (c.b.sdiv 4096#64 + v_r03_one (c.t.slt (c.b.srem 4096#64)) + v_r03_one c.big).srem 4#64 * 4096#64).slt ((c.b.sdiv 2048#64 + 7#64).srem 8#64 * 2048#64)) - v_r03_one ((BitVec.setWidth 64 (c.ad >>> min (BitVec.signExtend 64 c.e).toNat 64 % 16384#64)).slt ((c.b.sdiv 2048#64 + 7#64).srem 8#64 * 2048#64)))).snd (c.e + 14#64)) (v_r03_up (BitVec.signExtend 64 (c.t + (c.b.sdiv 4096#64 + v_r03_one (c.t.slt (c.b.srem 4096#64)) + v_r03_one c.big).srem 4#64 * 4096#64)) false c.e)).lo >>> 63 + 4#64 - (v_r03_add (v_r03_up (v_r03_part (c.ad >>> min (BitVec.signExtend 64 (c.e + 14#64)).toNat 64) (v_r03_one (c.b.slt ((c.b.sdiv 2048#64 + 7#64).srem 8#64 * 2048#64)) - v_r03_one ((BitVec.setWidth 64 (c.ad >>> min (BitVec.signExtend 64 c.e).toNat 64 % 16384#64)).slt ((c.b.sdiv 2048#64 + 7#64).srem 8#64 * 2048#64)))).fst (v_r03_part (c.ad >>> min (BitVec.signExtend 64 (c.e + 14#64)).toNat 64) (v_r03_one (c.b.slt ((c.b.sdiv 2048#64 + 7#64).srem 8#64 * 2048#64)) - v_r03_one ((BitVec.setWidth 64 (c.ad >>> min (BitVec.signExtend 64 c.e).toNat 64 % 16384#64)).slt ((c.b.sdiv 2048#64 + 7#64).srem 8#64 * 2048#64)))).snd (c.e + 14#64)) (v_r03_up (BitVec.signExtend 64 c.b) false c.e)).lo >>> 63) % 4#64))
   (⟨((v_r03_add (v_r03_up (v_r03_part (c.ad >>> min (BitVec.signExtend 64 (c.e + 14#64)).toNat 64) (v_r03_one (c.b.slt ((c.b.sdiv 2048#64 + 7#64).srem 8#64 * 2048#64)) - v_r03_one ((BitVec.setWidth 64 (c.ad >>> min (BitVec.signExtend 64 c.e).toNat 64 % 16384#64)).slt ((c.b.sdiv 2048#64 + 7#64).srem 8#64 * 2048#64)))).fst (v_r03_part (c.ad >>> min (BitVec.signExtend 64 (c.e + 14#64)).toNat 64) (v_r03_one (c.b.slt ((c.b.sdiv 2048#64 + 7#64).srem 8#64 * 2048#64)) - v_r03_one ((BitVec.setWidth 64 (c.ad >>> min (BitVec.signExtend 64 c.e).toNat 64 % 16384#64)).slt ((c.b.sdiv 2048#64 + 7#64).srem 8#64 * 2048#64)))).snd (c.e + 14#64)) (v_r03_up (BitVec.signExtend 64 c.b) false c.e)).lo), ((v_r03_add (v_r03_up (v_r03_part (c.ad >>> min (BitVec.signExtend 64 (c.e + 14#64)).toNat 64) (v_r03_one ((c.t + (c.b.sdiv 4096#64 + v_r03_one (c.t.slt (c.b.srem 4096#64)) + v_r03_one c.big).srem 4#64 * 4096#64).slt ((c.b.sdiv 2048#64 + 7#64).srem 8#64 * 2048#64)) - v_r03_one ((BitVec.setWidth 64 (c.ad >>> min (BitVec.signExtend 64 c.e).toNat 64 % 16384#64)).slt ((c.b.sdiv 2048#64 + 7#64).srem 8#64 * 2048#64)))).fst (v_r03_part (c.ad >>> min (BitVec.signExtend 64 (c.e + 14#64)).toNat 64) (v_r03_one ((c.t + (c.b.sdiv 4096#64 + v_r03_one (c.t.slt (c.b.srem 4096#64)) + v_r03_one c.big).srem 4#64 * 4096#64).slt ((c.b.sdiv 2048#64 + 7#64).srem 8#64 * 2048#64)) - v_r03_one ((BitVec.setWidth 64 (c.ad >>> min (BitVec.signExtend 64 c.e).toNat 64 % 16384#64)).slt ((c.b.sdiv 2048#64 + 7#64).srem 8#64 * 2048#64)))).snd (c.e + 14#64)) (v_r03_up (BitVec.signExtend 64 (c.t + (c.b.sdiv 4096#64 + v_r03_one (c.t.slt (c.b.srem 4096#64)) + v_r03_one c.big).srem 4#64 * 4096#64)) false c.e)).lo), (1#64 - (v_r03_add (v_r03_up (v_r03_part (c.ad >>> min (BitVec.signExtend 64 (c.e + 14#64)).toNat 64) (v_r03_one ((c.t + (c.b.sdiv 4096#64 + v_r03_one (c.t.slt (c.b.srem 4096#64)) + v_r03_one c.big).srem 4#64 * 4096#64).slt ((c.b.sdiv 2048#64 + 7#64).srem 8#64 * 2048#64)) - v_r03_one ((BitVec.setWidth 64 (c.ad >>> min (BitVec.signExtend 64 c.e).toNat 64 % 16384#64)).slt ((c.b.sdiv 2048#64 + 7#64).srem 8#64 * 2048#64)))).fst (v_r03_part (c.ad >>> min (BitVec.signExtend 64 (c.e + 14#64)).toNat 64) (v_r03_one ((c.t + (c.b.sdiv 4096#64 + v_r03_one (c.t.slt (c.b.srem 4096#64)) + v_r03_one c.big).srem 4#64 * 4096#64).slt ((c.b.sdiv 2048#64 + 7#64).srem 8#64 * 2048#64)) - v_r03_one ((BitVec.setWidth 64 (c.ad >>> min (BitVec.signExtend 64 c.e).toNat 64 % 16384#64)).slt ((c.b.sdiv 2048#64 + 7#64).srem 8#64 * 2048#64)))).snd (c.e + 14#64)) (v_r03_up (BitVec.signExtend 64 (c.t + (c.b.sdiv 4096#64 + v_r03_one (c.t.slt (c.b.srem 4096#64)) + v_r03_one c.big).srem 4#64 * 4096#64)) false c.e)).hi == 1#64)⟩ : Rg)
   (⟨((v_r03_add (v_r03_up (v_r03_part (c.ad >>> min (BitVec.signExtend 64 (c.e + 14#64)).toNat 64) (v_r03_one (c.b.slt ((c.b.sdiv 2048#64 + 7#64).srem 8#64 * 2048#64)) - v_r03_one ((BitVec.setWidth 64 (c.ad >>> min (BitVec.signExtend 64 c.e).toNat 64 % 16384#64)).slt ((c.b.sdiv 2048#64 + 7#64).srem 8#64 * 2048#64)))).fst (v_r03_part (c.ad >>> min (BitVec.signExtend 64 (c.e + 14#64)).toNat 64) (v_r03_one (c.b.slt ((c.b.sdiv 2048#64 + 7#64).srem 8#64 * 2048#64)) - v_r03_one ((BitVec.setWidth 64 (c.ad >>> min (BitVec.signExtend 64 c.e).toNat 64 % 16384#64)).slt ((c.b.sdiv 2048#64 + 7#64).srem 8#64 * 2048#64)))).snd (c.e + 14#64)) (v_r03_up (BitVec.signExtend 64 c.b) false c.e)).lo), ((v_r03_add (v_r03_up (v_r03_part (c.ad >>> min (BitVec.signExtend 64 (c.e + 14#64)).toNat 64) (v_r03_one ((c.t + (c.b.sdiv 4096#64 + v_r03_one (c.t.slt (c.b.srem 4096#64)) + v_r03_one c.big).srem 4#64 * 4096#64).slt ((c.b.sdiv 2048#64 + 7#64).srem 8#64 * 2048#64)) - v_r03_one ((BitVec.setWidth 64 (c.ad >>> min (BitVec.signExtend 64 c.e).toNat 64 % 16384#64)).slt ((c.b.sdiv 2048#64 + 7#64).srem 8#64 * 2048#64)))).fst (v_r03_part (c.ad >>> min (BitVec.signExtend 64 (c.e + 14#64)).toNat 64) (v_r03_one ((c.t + (c.b.sdiv 4096#64 + v_r03_one (c.t.slt (c.b.srem 4096#64)) + v_r03_one c.big).srem 4#64 * 4096#64).slt ((c.b.sdiv 2048#64 + 7#64).srem 8#64 * 2048#64)) - v_r03_one ((BitVec.setWidth 64 (c.ad >>> min (BitVec.signExtend 64 c.e).toNat 64 % 16384#64)).slt ((c.b.sdiv 2048#64 + 7#64).srem 8#64 * 2048#64)))).snd (c.e + 14#64)) (v_r03_up (BitVec.signExtend 64 (c.t + (c.b.sdiv 4096#64 + v_r03_one (c.t.slt (c.b.srem 4096#64)) + v_r03_one c.big).srem 4#64 * 4096#64)) false c.e)).lo), ((v_r03_add (v_r03_up (v_r03_part (c.ad >>> min (BitVec.signExtend 64 (c.e + 14#64)).toNat 64) (v_r03_one ((c.t + (c.b.sdiv 4096#64 + v_r03_one (c.t.slt (c.b.srem 4096#64)) + v_r03_one c.big).srem 4#64 * 4096#64).slt ((c.b.sdiv 2048#64 + 7#64).srem 8#64 * 2048#64)) - v_r03_one ((BitVec.setWidth 64 (c.ad >>> min (BitVec.signExtend 64 c.e).toNat 64 % 16384#64)).slt ((c.b.sdiv 2048#64 + 7#64).srem 8#64 * 2048#64)))).fst (v_r03_part (c.ad >>> min (BitVec.signExtend 64 (c.e + 14#64)).toNat 64) (v_r03_one ((c.t + (c.b.sdiv 4096#64 + v_r03_one (c.t.slt (c.b.srem 4096#64)) + v_r03_one c.big).srem 4#64 * 4096#64).slt ((c.b.sdiv 2048#64 + 7#64).srem 8#64 * 2048#64)) - v_r03_one ((BitVec.setWidth 64 (c.ad >>> min (BitVec.signExtend 64 c.e).toNat 64 % 16384#64)).slt ((c.b.sdiv 2048#64 + 7#64).srem 8#64 * 2048#64)))).snd (c.e + 14#64)) (v_r03_up (BitVec.signExtend 64 (c.t + (c.b.sdiv 4096#64 + v_r03_one (c.t.slt (c.b.srem 4096#64)) + v_r03_one c.big).srem 4#64 * 4096#64)) false c.e)).hi == 1#64)⟩ : Rg))
  (⟨((v_r03_add (v_r03_up (v_r03_part (c.ad >>> min (BitVec.signExtend 64 (c.e + 14#64)).toNat 64) (v_r03_one (c.b.slt ((c.b.sdiv 2048#64 + 7#64).srem 8#64 * 2048#64)) - v_r03_one ((BitVec.setWidth 64 (c.ad >>> min (BitVec.signExtend 64 c.e).toNat 64 % 16384#64)).slt ((c.b.sdiv 2048#64 + 7#64).srem 8#64 * 2048#64)))).fst (v_r03_part (c.ad >>> min (BitVec.signExtend 64 (c.e + 14#64)).toNat 64) (v_r03_one (c.b.slt ((c.b.sdiv 2048#64 + 7#64).srem 8#64 * 2048#64)) - v_r03_one ((BitVec.setWidth 64 (c.ad >>> min (BitVec.signExtend 64 c.e).toNat 64 % 16384#64)).slt ((c.b.sdiv 2048#64 + 7#64).srem 8#64 * 2048#64)))).snd (c.e + 14#64)) (v_r03_up (BitVec.signExtend 64 c.b) false c.e)).lo), ((v_r03_add (v_r03_up (v_r03_part (c.ad >>> min (BitVec.signExtend 64 (c.e + 14#64)).toNat 64) (v_r03_one ((c.t + (c.b.sdiv 4096#64 + v_r03_one (c.t.slt (c.b.srem 4096#64)) + v_r03_one c.big).srem 4#64 * 4096#64).slt ((c.b.sdiv 2048#64 + 7#64).srem 8#64 * 2048#64)) - v_r03_one ((BitVec.setWidth 64 (c.ad >>> min (BitVec.signExtend 64 c.e).toNat 64 % 16384#64)).slt ((c.b.sdiv 2048#64 + 7#64).srem 8#64 * 2048#64)))).fst (v_r03_part (c.ad >>> min (BitVec.signExtend 64 (c.e + 14#64)).toNat 64) (v_r03_one ((c.t + (c.b.sdiv 4096#64 + v_r03_one (c.t.slt (c.b.srem 4096#64)) + v_r03_one c.big).srem 4#64 * 4096#64).slt ((c.b.sdiv 2048#64 + 7#64).srem 8#64 * 2048#64)) - v_r03_one ((BitVec.setWidth 64 (c.ad >>> min (BitVec.signExtend 64 c.e).toNat 64 % 16384#64)).slt ((c.b.sdiv 2048#64 + 7#64).srem 8#64 * 2048#64)))).snd (c.e + 14#64)) (v_r03_up (BitVec.signExtend 64 (c.t + (c.b.sdiv 4096#64 + v_r03_one (c.t.slt (c.b.srem 4096#64)) + v_r03_one c.big).srem 4#64 * 4096#64)) false c.e)).lo), ((v_r03_add (v_r03_up (v_r03_part (c.ad >>> min (BitVec.signExtend 64 (c.e + 14#64)).toNat 64) (v_r03_one ((c.t + (c.b.sdiv 4096#64 + v_r03_one (c.t.slt (c.b.srem 4096#64)) + v_r03_one c.big).srem 4#64 * 4096#64).slt ((c.b.sdiv 2048#64 + 7#64).srem 8#64 * 2048#64)) - v_r03_one ((BitVec.setWidth 64 (c.ad >>> min (BitVec.signExtend 64 c.e).toNat 64 % 16384#64)).slt ((c.b.sdiv 2048#64 + 7#64).srem 8#64 * 2048#64)))).fst (v_r03_part (c.ad >>> min (BitVec.signExtend 64 (c.e + 14#64)).toNat 64) (v_r03_one ((c.t + (c.b.sdiv 4096#64 + v_r03_one (c.t.slt (c.b.srem 4096#64)) + v_r03_one c.big).srem 4#64 * 4096#64).slt ((c.b.sdiv 2048#64 + 7#64).srem 8#64 * 2048#64)) - v_r03_one ((BitVec.setWidth 64 (c.ad >>> min (BitVec.signExtend 64 c.e).toNat 64 % 16384#64)).slt ((c.b.sdiv 2048#64 + 7#64).srem 8#64 * 2048#64)))).snd (c.e + 14#64)) (v_r03_up (BitVec.signExtend 64 (c.t + (c.b.sdiv 4096#64 + v_r03_one (c.t.slt (c.b.srem 4096#64)) + v_r03_one c.big).srem 4#64 * 4096#64)) false c.e)).hi == 1#64)⟩ : Rg))
 (cond (c.e.slt 51#64)
  (cond ((1#64).ult ((2#64 * (v_r03_add (v_r03_up (v_r03_part (0#64) (v_r03_one ((c.t + (c.b.sdiv 4096#64 + v_r03_one (c.t.slt (c.b.srem 4096#64)) + v_r03_one c.big).srem 4#64 * 4096#64).slt ((c.b.sdiv 2048#64 + 7#64).srem 8#64 * 2048#64)) - v_r03_one ((BitVec.setWidth 64 (c.ad >>> min (BitVec.signExtend 64 c.e).toNat 64 % 16384#64)).slt ((c.b.sdiv 2048#64 + 7#64).srem 8#64 * 2048#64)))).fst (v_r03_part (0#64) (v_r03_one ((c.t + (c.b.sdiv 4096#64 + v_r03_one (c.t.slt (c.b.srem 4096#64)) + v_r03_one c.big).srem 4#64 * 4096#64).slt ((c.b.sdiv 2048#64 + 7#64).srem 8#64 * 2048#64)) - v_r03_one ((BitVec.setWidth 64 (c.ad >>> min (BitVec.signExtend 64 c.e).toNat 64 % 16384#64)).slt ((c.b.sdiv 2048#64 + 7#64).srem 8#64 * 2048#64)))).snd (c.e + 14#64)) (v_r03_up (BitVec.signExtend 64 (c.t + (c.b.sdiv 4096#64 + v_r03_one (c.t.slt (c.b.srem 4096#64)) + v_r03_one c.big).srem 4#64 * 4096#64)) false c.e)).hi + (v_r03_add (v_r03_up (v_r03_part (0#64) (v_r03_one ((c.t + (c.b.sdiv 4096#64 + v_r03_one (c.t.slt (c.b.srem 4096#64)) + v_r03_one c.big).srem 4#64 * 4096#64).slt ((c.b.sdiv 2048#64 + 7#64).srem 8#64 * 2048#64)) - v_r03_one ((BitVec.setWidth 64 (c.ad >>> min (BitVec.signExtend 64 c.e).toNat 64 % 16384#64)).slt ((c.b.sdiv 2048#64 + 7#64).srem 8#64 * 2048#64)))).fst (v_r03_part (0#64) (v_r03_one ((c.t + (c.b.sdiv 4096#64 + v_r03_one (c.t.slt (c.b.srem 4096#64)) + v_r03_one c.big).srem 4#64 * 4096#64).slt ((c.b.sdiv 2048#64 + 7#64).srem 8#64 * 2048#64)) - v_r03_one ((BitVec.setWidth 64 (c.ad >>> min (BitVec.signExtend 64 c.e).toNat 64 % 16384#64)).slt ((c.b.sdiv 2048#64 + 7#64).srem 8#64 * 2048#64)))).snd (c.e + 14#64)) (v_r03_up (BitVec.signExtend 64 (c.t + (c.b.sdiv 4096#64 + v_r03_one (c.t.slt (c.b.srem 4096#64)) + v_r03_one c.big).srem 4#64 * 4096#64)) false c.e)).lo >>> 63 + 4#64 - (v_r03_add (v_r03_up (v_r03_part (0#64) (v_r03_one (c.b.slt ((c.b.sdiv 2048#64 + 7#64).srem 8#64 * 2048#64)) - v_r03_one ((BitVec.setWidth 64 (c.ad >>> min (BitVec.signExtend 64 c.e).toNat 64 % 16384#64)).slt ((c.b.sdiv 2048#64 + 7#64).srem 8#64 * 2048#64)))).fst (v_r03_part (0#64) (v_r03_one (c.b.slt ((c.b.sdiv 2048#64 + 7#64).srem 8#64 * 2048#64)) - v_r03_one ((BitVec.setWidth 64 (c.ad >>> min (BitVec.signExtend 64 c.e).toNat 64 % 16384#64)).slt ((c.b.sdiv 2048#64 + 7#64).srem 8#64 * 2048#64)))).snd (c.e + 14#64)) (v_r03_up (BitVec.signExtend 64 c.b) false c.e)).lo >>> 63) % 4#64))
   (⟨((v_r03_add (v_r03_up (v_r03_part (0#64) (v_r03_one (c.b.slt ((c.b.sdiv 2048#64 + 7#64).srem 8#64 * 2048#64)) - v_r03_one ((BitVec.setWidth 64 (c.ad >>> min (BitVec.signExtend 64 c.e).toNat 64 % 16384#64)).slt ((c.b.sdiv 2048#64 + 7#64).srem 8#64 * 2048#64)))).fst (v_r03_part (0#64) (v_r03_one (c.b.slt ((c.b.sdiv 2048#64 + 7#64).srem 8#64 * 2048#64)) - v_r03_one ((BitVec.setWidth 64 (c.ad >>> min (BitVec.signExtend 64 c.e).toNat 64 % 16384#64)).slt ((c.b.sdiv 2048#64 + 7#64).srem 8#64 * 2048#64)))).snd (c.e + 14#64)) (v_r03_up (BitVec.signExtend 64 c.b) false c.e)).lo), ((v_r03_add (v_r03_up (v_r03_part (0#64) (v_r03_one ((c.t + (c.b.sdiv 4096#64 + v_r03_one (c.t.slt (c.b.srem 4096#64)) + v_r03_one c.big).srem 4#64 * 4096#64).slt ((c.b.sdiv 2048#64 + 7#64).srem 8#64 * 2048#64)) - v_r03_one ((BitVec.setWidth 64 (c.ad >>> min (BitVec.signExtend 64 c.e).toNat 64 % 16384#64)).slt ((c.b.sdiv 2048#64 + 7#64).srem 8#64 * 2048#64)))).fst (v_r03_part (0#64) (v_r03_one ((c.t + (c.b.sdiv 4096#64 + v_r03_one (c.t.slt (c.b.srem 4096#64)) + v_r03_one c.big).srem 4#64 * 4096#64).slt ((c.b.sdiv 2048#64 + 7#64).srem 8#64 * 2048#64)) - v_r03_one ((BitVec.setWidth 64 (c.ad >>> min (BitVec.signExtend 64 c.e).toNat 64 % 16384#64)).slt ((c.b.sdiv 2048#64 + 7#64).srem 8#64 * 2048#64)))).snd (c.e + 14#64)) (v_r03_up (BitVec.signExtend 64 (c.t + (c.b.sdiv 4096#64 + v_r03_one (c.t.slt (c.b.srem 4096#64)) + v_r03_one c.big).srem 4#64 * 4096#64)) false c.e)).lo), (1#64 - (v_r03_add (v_r03_up (v_r03_part (0#64) (v_r03_one ((c.t + (c.b.sdiv 4096#64 + v_r03_one (c.t.slt (c.b.srem 4096#64)) + v_r03_one c.big).srem 4#64 * 4096#64).slt ((c.b.sdiv 2048#64 + 7#64).srem 8#64 * 2048#64)) - v_r03_one ((BitVec.setWidth 64 (c.ad >>> min (BitVec.signExtend 64 c.e).toNat 64 % 16384#64)).slt ((c.b.sdiv 2048#64 + 7#64).srem 8#64 * 2048#64)))).fst (v_r03_part (0#64) (v_r03_one ((c.t + (c.b.sdiv 4096#64 + v_r03_one (c.t.slt (c.b.srem 4096#64)) + v_r03_one c.big).srem 4#64 * 4096#64).slt ((c.b.sdiv 2048#64 + 7#64).srem 8#64 * 2048#64)) - v_r03_one ((BitVec.setWidth 64 (c.ad >>> min (BitVec.signExtend 64 c.e).toNat 64 % 16384#64)).slt ((c.b.sdiv 2048#64 + 7#64).srem 8#64 * 2048#64)))).snd (c.e + 14#64)) (v_r03_up (BitVec.signExtend 64 (c.t + (c.b.sdiv 4096#64 + v_r03_one (c.t.slt (c.b.srem 4096#64)) + v_r03_one c.big).srem 4#64 * 4096#64)) false c.e)).hi == 1#64)⟩ : Rg)
   (⟨((v_r03_add (v_r03_up (v_r03_part (0#64) (v_r03_one (c.b.slt ((c.b.sdiv 2048#64 + 7#64).srem 8#64 * 2048#64)) - v_r03_one ((BitVec.setWidth 64 (c.ad >>> min (BitVec.signExtend 64 c.e).toNat 64 % 16384#64)).slt ((c.b.sdiv 2048#64 + 7#64).srem 8#64 * 2048#64)))).fst (v_r03_part (0#64) (v_r03_one (c.b.slt ((c.b.sdiv 2048#64 + 7#64).srem 8#64 * 2048#64)) - v_r03_one ((BitVec.setWidth 64 (c.ad >>> min (BitVec.signExtend 64 c.e).toNat 64 % 16384#64)).slt ((c.b.sdiv 2048#64 + 7#64).srem 8#64 * 2048#64)))).snd (c.e + 14#64)) (v_r03_up (BitVec.signExtend 64 c.b) false c.e)).lo), ((v_r03_add (v_r03_up (v_r03_part (0#64) (v_r03_one ((c.t + (c.b.sdiv 4096#64 + v_r03_one (c.t.slt (c.b.srem 4096#64)) + v_r03_one c.big).srem 4#64 * 4096#64).slt ((c.b.sdiv 2048#64 + 7#64).srem 8#64 * 2048#64)) - v_r03_one ((BitVec.setWidth 64 (c.ad >>> min (BitVec.signExtend 64 c.e).toNat 64 % 16384#64)).slt ((c.b.sdiv 2048#64 + 7#64).srem 8#64 * 2048#64)))).fst (v_r03_part (0#64) (v_r03_one ((c.t + (c.b.sdiv 4096#64 + v_r03_one (c.t.slt (c.b.srem 4096#64)) + v_r03_one c.big).srem 4#64 * 4096#64).slt ((c.b.sdiv 2048#64 + 7#64).srem 8#64 * 2048#64)) - v_r03_one ((BitVec.setWidth 64 (c.ad >>> min (BitVec.signExtend 64 c.e).toNat 64 % 16384#64)).slt ((c.b.sdiv 2048#64 + 7#64).srem 8#64 * 2048#64)))).snd (c.e + 14#64)) (v_r03_up (BitVec.signExtend 64 (c.t + (c.b.sdiv 4096#64 + v_r03_one (c.t.slt (c.b.srem 4096#64)) + v_r03_one c.big).srem 4#64 * 4096#64)) false c.e)).lo), ((v_r03_add (v_r03_up (v_r03_part (0#64) (v_r03_one ((c.t + (c.b.sdiv 4096#64 + v_r03_one (c.t.slt (c.b.srem 4096#64)) + v_r03_one c.big).srem 4#64 * 4096#64).slt ((c.b.sdiv 2048#64 + 7#64).srem 8#64 * 2048#64)) - v_r03_one ((BitVec.setWidth 64 (c.ad >>> min (BitVec.signExtend 64 c.e).toNat 64 % 16384#64)).slt ((c.b.sdiv 2048#64 + 7#64).srem 8#64 * 2048#64)))).fst (v_r03_part (0#64) (v_r03_one ((c.t + (c.b.sdiv 4096#64 + v_r03_one (c.t.slt (c.b.srem 4096#64)) + v_r03_one c.big).srem 4#64 * 4096#64).slt ((c.b.sdiv 2048#64 + 7#64).srem 8#64 * 2048#64)) - v_r03_one ((BitVec.setWidth 64 (c.ad >>> min (BitVec.signExtend 64 c.e).toNat 64 % 16384#64)).slt ((c.b.sdiv 2048#64 + 7#64).srem 8#64 * 2048#64)))).snd (c.e + 14#64)) (v_r03_up (BitVec.signExtend 64 (c.t + (c.b.sdiv 4096#64 + v_r03_one (c.t.slt (c.b.srem 4096#64)) + v_r03_one c.big).srem 4#64 * 4096#64)) false c.e)).hi == 1#64)⟩ : Rg))
  (⟨((v_r03_add (v_r03_up (v_r03_part (0#64) (v_r03_one (c.b.slt ((c.b.sdiv 2048#64 + 7#64).srem 8#64 * 2048#64)) - v_r03_one ((BitVec.setWidth 64 (c.ad >>> min (BitVec.signExtend 64 c.e).toNat 64 % 16384#64)).slt ((c.b.sdiv 2048#64 + 7#64).srem 8#64 * 2048#64)))).fst (v_r03_part (0#64) (v_r03_one (c.b.slt ((c.b.sdiv 2048#64 + 7#64).srem 8#64 * 2048#64)) - v_r03_one ((BitVec.setWidth 64 (c.ad >>> min (BitVec.signExtend 64 c.e).toNat 64 % 16384#64)).slt ((c.b.sdiv 2048#64 + 7#64).srem 8#64 * 2048#64)))).snd (c.e + 14#64)) (v_r03_up (BitVec.signExtend 64 c.b) false c.e)).lo), ((v_r03_add (v_r03_up (v_r03_part (0#64) (v_r03_one ((c.t + (c.b.sdiv 4096#64 + v_r03_one (c.t.slt (c.b.srem 4096#64)) + v_r03_one c.big).srem 4#64 * 4096#64).slt ((c.b.sdiv 2048#64 + 7#64).srem 8#64 * 2048#64)) - v_r03_one ((BitVec.setWidth 64 (c.ad >>> min (BitVec.signExtend 64 c.e).toNat 64 % 16384#64)).slt ((c.b.sdiv 2048#64 + 7#64).srem 8#64 * 2048#64)))).fst (v_r03_part (0#64) (v_r03_one ((c.t + (c.b.sdiv 4096#64 + v_r03_one (c.t.slt (c.b.srem 4096#64)) + v_r03_one c.big).srem 4#64 * 4096#64).slt ((c.b.sdiv 2048#64 + 7#64).srem 8#64 * 2048#64)) - v_r03_one ((BitVec.setWidth 64 (c.ad >>> min (BitVec.signExtend 64 c.e).toNat 64 % 16384#64)).slt ((c.b.sdiv 2048#64 + 7#64).srem 8#64 * 2048#64)))).snd (c.e + 14#64)) (v_r03_up (BitVec.signExtend 64 (c.t + (c.b.sdiv 4096#64 + v_r03_one (c.t.slt (c.b.srem 4096#64)) + v_r03_one c.big).srem 4#64 * 4096#64)) false c.e)).lo), ((v_r03_add (v_r03_up (v_r03_part (0#64) (v_r03_one ((c.t + (c.b.sdiv 4096#64 + v_r03_one (c.t.slt (c.b.srem 4096#64)) + v_r03_one c.big).srem 4#64 * 4096#64).slt ((c.b.sdiv 2048#64 + 7#64).srem 8#64 * 2048#64)) - v_r03_one ((BitVec.setWidth 64 (c.ad >>> min (BitVec.signExtend 64 c.e).toNat 64 % 16384#64)).slt ((c.b.sdiv 2048#64 + 7#64).srem 8#64 * 2048#64)))).fst (v_r03_part (0#64) (v_r03_one ((c.t + (c.b.sdiv 4096#64 + v_r03_one (c.t.slt (c.b.srem 4096#64)) + v_r03_one c.big).srem 4#64 * 4096#64).slt ((c.b.sdiv 2048#64 + 7#64).srem 8#64 * 2048#64)) - v_r03_one ((BitVec.setWidth 64 (c.ad >>> min (BitVec.signExtend 64 c.e).toNat 64 % 16384#64)).slt ((c.b.sdiv 2048#64 + 7#64).srem 8#64 * 2048#64)))).snd (c.e + 14#64)) (v_r03_up (BitVec.signExtend 64 (c.t + (c.b.sdiv 4096#64 + v_r03_one (c.t.slt (c.b.srem 4096#64)) + v_r03_one c.big).srem 4#64 * 4096#64)) false c.e)).hi == 1#64)⟩ : Rg)))

def v_r03_Within (a : Rg) (xb : Rg) : Bool :=
 (cond (xb.base.ule a.base)
 (v_r03_notAbove (v_r03_top a) (v_r03_top xb))
 (false))

def v_r03_Fits (c : Cp) (xat : BitVec 64) : Bool :=
 ((v_r03_Of c).base == (v_r03_Of { tag := c.tag, per := c.per, ty := c.ty, mo := c.mo, e := c.e, b := c.b, t := c.t, big := c.big, ad := xat }).base && ((v_r03_Of c).top == (v_r03_Of { tag := c.tag, per := c.per, ty := c.ty, mo := c.mo, e := c.e, b := c.b, t := c.t, big := c.big, ad := xat }).top && ((v_r03_Of c).over == (v_r03_Of { tag := c.tag, per := c.per, ty := c.ty, mo := c.mo, e := c.e, b := c.b, t := c.t, big := c.big, ad := xat }).over && true)))

end Go.Sx

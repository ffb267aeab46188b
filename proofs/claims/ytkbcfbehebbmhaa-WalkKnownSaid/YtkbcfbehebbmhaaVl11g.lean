/- What loops do, round by round. -/
import Derived.Test.YtkbcfbehebbmhaaSxX
import Derived.Test.YtkbcfbehebbmhaaSxLen2
import Derived.Test.YtkbcfbehebbmhaaSxEC
import Derived.Test.YtkbcfbehebbmhaaVa03
import Derived.Test.YtkbcfbehebbmhaaVa11
import Derived.Test.YtkbcfbehebbmhaaPlRamX
set_option linter.unusedSimpArgs false
set_option linter.unusedVariables false
set_option linter.unnecessarySimpa false
namespace Go.Sx
open Go

/-! ### the document: a load -/
inductive MxlS where
  | a (n : Nat) (t : Nat) (m : Nat) (d : List (List AV)) (mt : Nat) (T : List (List AV)) (off : BitVec 64) (size : BitVec 64)
inductive MxlR where
  | a (x : BitVec 64) (r : Bool) (n2 : Nat) (t2 : Nat) (m2 : Nat) (d2 : List (List AV)) (mt2 : Nat) (T2 : List (List AV))
def mxlA : MxlS → List AV
  | .a _ _ _ _ _ _ off size => [.ptr ⟨0, 0, 0, 0, 0⟩, .int .i64 off, .int .i64 size]
def mxlH : MxlS → Heap
  | .a n t m d mt T _ _ => [(0, ⟨true, [.cell (.slice ⟨1, 0, 0, 1, 0⟩ 1 n), .cell (.slice ⟨2, 0, 0, 1, 0⟩ 1 t)]⟩), (1, ⟨true, [.arr [.int .u8] m d]⟩), (2, ⟨true, [.arr [.bool] mt T]⟩)]
def mxlDec (args : List AV) (H : Heap) : Option MxlS := match args, H with
  | [.ptr ⟨0, 0, 0, 0, 0⟩, .int .i64 off, .int .i64 size], [(0, ⟨true, [.cell (.slice ⟨1, 0, 0, 1, 0⟩ 1 n), .cell (.slice ⟨2, 0, 0, 1, 0⟩ 1 t)]⟩), (1, ⟨true, [.arr [.int .u8] m d]⟩), (2, ⟨true, [.arr [.bool] mt T]⟩)] => some (.a n t m d mt T off size)
  | _, _ => none
theorem mxlDec_ok (args : List AV) (H : Heap) (x : MxlS) (h : mxlDec args H = some x) : args = mxlA x ∧ H = mxlH x := by
  unfold mxlDec at h
  split at h
  all_goals first
    | (cases h; done)
    | (cases h; exact ⟨rfl, rfl⟩)
def mxlU : MxlR → AV × Eff × Nat
  | .a x r n2 t2 m2 d2 mt2 T2 => (.tup [.int .u64 x, .bool r], [(2, some ⟨true, [.arr [.bool] mt2 T2]⟩), (1, some ⟨true, [.arr [.int .u8] m2 d2]⟩), (0, some ⟨true, [.cell (.slice ⟨1, 0, 0, 1, 0⟩ 1 n2), .cell (.slice ⟨2, 0, 0, 1, 0⟩ 1 t2)]⟩)], 3)
def mxlDecR (v : AV) (e : Eff) (k : Nat) : Option MxlR := match v, e, k with
  | .tup [.int .u64 x, .bool r], [(2, some ⟨true, [.arr [.bool] mt2 T2]⟩), (1, some ⟨true, [.arr [.int .u8] m2 d2]⟩), (0, some ⟨true, [.cell (.slice ⟨1, 0, 0, 1, 0⟩ 1 n2), .cell (.slice ⟨2, 0, 0, 1, 0⟩ 1 t2)]⟩)], 3 => some (.a x r n2 t2 m2 d2 mt2 T2)
  | _, _, _ => none
theorem mxlDecR_ok (v : AV) (e : Eff) (k : Nat) (z : MxlR) (h : mxlDecR v e k = some z) : (v, e, k) = mxlU z := by
  unfold mxlDecR at h
  split at h
  all_goals first
    | (cases h; done)
    | (cases h; rfl)
noncomputable def mxlStep : MxlS → Option MxlR
 | .a n t m d mt T off size =>
 (cond (!v_r11_sized size)
 (some (MxlR.a (0#64) false n t m d mt T))
 (cond ((0#64).sle off)
 (cond (!off.sle (BitVec.ofNat 64 n - size))
 (some (MxlR.a (0#64) false n t m d mt T))
 (cond (g_xa n m off (size - 1#64 + 1#64) && true)
 (some (MxlR.a (v_xget d off.toNat (size - 1#64 + 1#64).toNat) true n t m d mt T))
    none))
 (some (MxlR.a (0#64) false n t m d mt T))))

/-! ### the document: a store -/
inductive MxsS where
  | a (n : Nat) (t : Nat) (m : Nat) (d : List (List AV)) (mt : Nat) (T : List (List AV)) (off : BitVec 64) (size : BitVec 64) (v : BitVec 64)
inductive MxsR where
  | a (r : Bool) (n2 : Nat) (t2 : Nat) (m2 : Nat) (d2 : List (List AV)) (mt2 : Nat) (T2 : List (List AV))
def mxsA : MxsS → List AV
  | .a _ _ _ _ _ _ off size v => [.ptr ⟨0, 0, 0, 0, 0⟩, .int .i64 off, .int .i64 size, .int .u64 v]
def mxsH : MxsS → Heap
  | .a n t m d mt T _ _ _ => [(0, ⟨true, [.cell (.slice ⟨1, 0, 0, 1, 0⟩ 1 n), .cell (.slice ⟨2, 0, 0, 1, 0⟩ 1 t)]⟩), (1, ⟨true, [.arr [.int .u8] m d]⟩), (2, ⟨true, [.arr [.bool] mt T]⟩)]
def mxsDec (args : List AV) (H : Heap) : Option MxsS := match args, H with
  | [.ptr ⟨0, 0, 0, 0, 0⟩, .int .i64 off, .int .i64 size, .int .u64 v], [(0, ⟨true, [.cell (.slice ⟨1, 0, 0, 1, 0⟩ 1 n), .cell (.slice ⟨2, 0, 0, 1, 0⟩ 1 t)]⟩), (1, ⟨true, [.arr [.int .u8] m d]⟩), (2, ⟨true, [.arr [.bool] mt T]⟩)] => some (.a n t m d mt T off size v)
  | _, _ => none
theorem mxsDec_ok (args : List AV) (H : Heap) (x : MxsS) (h : mxsDec args H = some x) : args = mxsA x ∧ H = mxsH x := by
  unfold mxsDec at h
  split at h
  all_goals first
    | (cases h; done)
    | (cases h; exact ⟨rfl, rfl⟩)
def mxsU : MxsR → AV × Eff × Nat
  | .a r n2 t2 m2 d2 mt2 T2 => (.bool r, [(2, some ⟨true, [.arr [.bool] mt2 T2]⟩), (1, some ⟨true, [.arr [.int .u8] m2 d2]⟩), (0, some ⟨true, [.cell (.slice ⟨1, 0, 0, 1, 0⟩ 1 n2), .cell (.slice ⟨2, 0, 0, 1, 0⟩ 1 t2)]⟩)], 3)
def mxsDecR (v : AV) (e : Eff) (k : Nat) : Option MxsR := match v, e, k with
  | .bool r, [(2, some ⟨true, [.arr [.bool] mt2 T2]⟩), (1, some ⟨true, [.arr [.int .u8] m2 d2]⟩), (0, some ⟨true, [.cell (.slice ⟨1, 0, 0, 1, 0⟩ 1 n2), .cell (.slice ⟨2, 0, 0, 1, 0⟩ 1 t2)]⟩)], 3 => some (.a r n2 t2 m2 d2 mt2 T2)
  | _, _, _ => none
theorem mxsDecR_ok (v : AV) (e : Eff) (k : Nat) (z : MxsR) (h : mxsDecR v e k = some z) : (v, e, k) = mxsU z := by
  unfold mxsDecR at h
  split at h
  all_goals first
    | (cases h; done)
    | (cases h; rfl)
noncomputable def mxsStep : MxsS → Option MxsR
 | .a n t m d mt T off size v =>
 (cond (!v_r11_sized size)
 (some (MxsR.a false n t m d mt T))
 (cond ((0#64).sle off)
 (cond (!off.sle (BitVec.ofNat 64 n - size))
 (some (MxsR.a false n t m d mt T))
 (cond (g_xb n t m d mt T off size && true)
 (some (MxsR.a true n t m (v_put d off.toNat size.toNat v) mt (v_xclr T off.toNat size.toNat)))
    none))
 (some (MxsR.a false n t m d mt T))))
end Go.Sx

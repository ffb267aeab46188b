/- What loops do, round by round. -/
import Derived.Test.YtkbcfbehebbmhaaSxX
import Derived.Test.YtkbcfbehebbmhaaSxLen2
import Derived.Test.YtkbcfbehebbmhaaSxEC
import Derived.Test.YtkbcfbehebbmhaaVa03
import Derived.Test.YtkbcfbehebbmhaaPlRamY
set_option linter.unusedSimpArgs false
set_option linter.unusedVariables false
set_option linter.unnecessarySimpa false
namespace Go.Sx
open Go

/-! ### the document: a granule -/
inductive MxcS where
  | a (n : Nat) (t : Nat) (m : Nat) (d : List (List AV)) (mt : Nat) (T : List (List AV)) (off : BitVec 64)
inductive MxcR where
  | a (tt : Bool) (x : BitVec 64) (y : BitVec 64) (r : Bool) (n2 : Nat) (t2 : Nat) (m2 : Nat) (d2 : List (List AV)) (mt2 : Nat) (T2 : List (List AV))
def mxcA : MxcS → List AV
  | .a _ _ _ _ _ _ off => [.ptr ⟨0, 0, 0, 0, 0⟩, .int .i64 off]
def mxcH : MxcS → Heap
  | .a n t m d mt T _ => [(0, ⟨true, [.cell (.slice ⟨1, 0, 0, 1, 0⟩ 1 n), .cell (.slice ⟨2, 0, 0, 1, 0⟩ 1 t)]⟩), (1, ⟨true, [.arr [.int .u8] m d]⟩), (2, ⟨true, [.arr [.bool] mt T]⟩)]
def mxcDec (args : List AV) (H : Heap) : Option MxcS := match args, H with
  | [.ptr ⟨0, 0, 0, 0, 0⟩, .int .i64 off], [(0, ⟨true, [.cell (.slice ⟨1, 0, 0, 1, 0⟩ 1 n), .cell (.slice ⟨2, 0, 0, 1, 0⟩ 1 t)]⟩), (1, ⟨true, [.arr [.int .u8] m d]⟩), (2, ⟨true, [.arr [.bool] mt T]⟩)] => some (.a n t m d mt T off)
  | _, _ => none
theorem mxcDec_ok (args : List AV) (H : Heap) (x : MxcS) (h : mxcDec args H = some x) : args = mxcA x ∧ H = mxcH x := by
  unfold mxcDec at h
  split at h
  all_goals first
    | (cases h; done)
    | (cases h; exact ⟨rfl, rfl⟩)
def mxcU : MxcR → AV × Eff × Nat
  | .a tt x y r n2 t2 m2 d2 mt2 T2 => (.tup [.bool tt, .int .u64 x, .int .u64 y, .bool r], [(2, some ⟨true, [.arr [.bool] mt2 T2]⟩), (1, some ⟨true, [.arr [.int .u8] m2 d2]⟩), (0, some ⟨true, [.cell (.slice ⟨1, 0, 0, 1, 0⟩ 1 n2), .cell (.slice ⟨2, 0, 0, 1, 0⟩ 1 t2)]⟩)], 3)
def mxcDecR (v : AV) (e : Eff) (k : Nat) : Option MxcR := match v, e, k with
  | .tup [.bool tt, .int .u64 x, .int .u64 y, .bool r], [(2, some ⟨true, [.arr [.bool] mt2 T2]⟩), (1, some ⟨true, [.arr [.int .u8] m2 d2]⟩), (0, some ⟨true, [.cell (.slice ⟨1, 0, 0, 1, 0⟩ 1 n2), .cell (.slice ⟨2, 0, 0, 1, 0⟩ 1 t2)]⟩)], 3 => some (.a tt x y r n2 t2 m2 d2 mt2 T2)
  | _, _, _ => none
theorem mxcDecR_ok (v : AV) (e : Eff) (k : Nat) (z : MxcR) (h : mxcDecR v e k = some z) : (v, e, k) = mxcU z := by
  unfold mxcDecR at h
  split at h
  all_goals first
    | (cases h; done)
    | (cases h; rfl)
noncomputable def mxcStep : MxcS → Option MxcR
 | .a n t m d mt T off =>
 (cond ((0#64).sle off)
 (cond (!off.sle (BitVec.ofNat 64 n - 16#64))
 (some (MxcR.a false (0#64) (0#64) false n t m d mt T))
 (cond (!off.srem 16#64 == 0#64)
 (some (MxcR.a false (0#64) (0#64) false n t m d mt T))
 (cond (g_xram n t m d mt T)
 (cond (g_xram n t m d mt T)
 (cond (nonneg IntKind.i64 (off.sdiv 16#64) && decide ((off.sdiv 16#64).toNat < t))
 (cond (decide (0 + (off.sdiv 16#64).toNat < mt))
 (some (MxcR.a ((T.getD (0 + (off.sdiv 16#64).toNat) []).headD AV.any).asBool (v_xlV n d off 8#64) (v_xlV n d (off + 8#64) 8#64) true n t m d mt T))
       none)
      none)
     none)
    none)))
 (some (MxcR.a false (0#64) (0#64) false n t m d mt T)))

/-! ### the document: a granule laid -/
inductive MxtS where
  | a (n : Nat) (t : Nat) (m : Nat) (d : List (List AV)) (mt : Nat) (T : List (List AV)) (off : BitVec 64) (tt : Bool) (x : BitVec 64) (y : BitVec 64)
inductive MxtR where
  | a (r : Bool) (n2 : Nat) (t2 : Nat) (m2 : Nat) (d2 : List (List AV)) (mt2 : Nat) (T2 : List (List AV))
def mxtA : MxtS → List AV
  | .a _ _ _ _ _ _ off tt x y => [.ptr ⟨0, 0, 0, 0, 0⟩, .int .i64 off, .bool tt, .int .u64 x, .int .u64 y]
def mxtH : MxtS → Heap
  | .a n t m d mt T _ _ _ _ => [(0, ⟨true, [.cell (.slice ⟨1, 0, 0, 1, 0⟩ 1 n), .cell (.slice ⟨2, 0, 0, 1, 0⟩ 1 t)]⟩), (1, ⟨true, [.arr [.int .u8] m d]⟩), (2, ⟨true, [.arr [.bool] mt T]⟩)]
def mxtDec (args : List AV) (H : Heap) : Option MxtS := match args, H with
  | [.ptr ⟨0, 0, 0, 0, 0⟩, .int .i64 off, .bool tt, .int .u64 x, .int .u64 y], [(0, ⟨true, [.cell (.slice ⟨1, 0, 0, 1, 0⟩ 1 n), .cell (.slice ⟨2, 0, 0, 1, 0⟩ 1 t)]⟩), (1, ⟨true, [.arr [.int .u8] m d]⟩), (2, ⟨true, [.arr [.bool] mt T]⟩)] => some (.a n t m d mt T off tt x y)
  | _, _ => none
theorem mxtDec_ok (args : List AV) (H : Heap) (x : MxtS) (h : mxtDec args H = some x) : args = mxtA x ∧ H = mxtH x := by
  unfold mxtDec at h
  split at h
  all_goals first
    | (cases h; done)
    | (cases h; exact ⟨rfl, rfl⟩)
def mxtU : MxtR → AV × Eff × Nat
  | .a r n2 t2 m2 d2 mt2 T2 => (.bool r, [(2, some ⟨true, [.arr [.bool] mt2 T2]⟩), (1, some ⟨true, [.arr [.int .u8] m2 d2]⟩), (0, some ⟨true, [.cell (.slice ⟨1, 0, 0, 1, 0⟩ 1 n2), .cell (.slice ⟨2, 0, 0, 1, 0⟩ 1 t2)]⟩)], 3)
def mxtDecR (v : AV) (e : Eff) (k : Nat) : Option MxtR := match v, e, k with
  | .bool r, [(2, some ⟨true, [.arr [.bool] mt2 T2]⟩), (1, some ⟨true, [.arr [.int .u8] m2 d2]⟩), (0, some ⟨true, [.cell (.slice ⟨1, 0, 0, 1, 0⟩ 1 n2), .cell (.slice ⟨2, 0, 0, 1, 0⟩ 1 t2)]⟩)], 3 => some (.a r n2 t2 m2 d2 mt2 T2)
  | _, _, _ => none
theorem mxtDecR_ok (v : AV) (e : Eff) (k : Nat) (z : MxtR) (h : mxtDecR v e k = some z) : (v, e, k) = mxtU z := by
  unfold mxtDecR at h
  split at h
  all_goals first
    | (cases h; done)
    | (cases h; rfl)
noncomputable def mxtStep : MxtS → Option MxtR
 | .a n t m d mt T off tt x y =>
 (cond ((0#64).sle off)
 (cond (!off.sle (BitVec.ofNat 64 n - 16#64))
 (some (MxtR.a false n t m d mt T))
 (cond (!off.srem 16#64 == 0#64)
 (some (MxtR.a false n t m d mt T))
 (cond (g_xram n t m d mt T)
 (cond (g_xram n t m (v_sD n d off (8#64) x) mt (v_xsT n T off 8#64))
 (cond (nonneg IntKind.i64 (off.sdiv 16#64) && decide ((off.sdiv 16#64).toNat < t))
 (cond (decide (0 + (off.sdiv 16#64).toNat < mt) && decide (0 + (off.sdiv 16#64).toNat < (v_xsT n (v_xsT n T off 8#64) (off + 8#64) 8#64).length))
 (some (MxtR.a true n t m (v_sD n (v_sD n d off (8#64) x) (off + 8#64) (8#64) y) mt ((v_xsT n (v_xsT n T off 8#64) (off + 8#64) 8#64).set (0 + (off.sdiv 16#64).toNat) [AV.bool tt])))
       none)
      none)
     none)
    none)))
 (some (MxtR.a false n t m d mt T)))

/-! ### the document: where tags are -/
inductive MxgS where
  | a (n : Nat) (t : Nat) (m : Nat) (d : List (List AV)) (mt : Nat) (T : List (List AV))
inductive MxgR where
  | z (n2 : Nat) (t2 : Nat) (m2 : Nat) (d2 : List (List AV)) (mt2 : Nat) (T2 : List (List AV))
  | s (n2 : Nat) (t2 : Nat) (m2 : Nat) (d2 : List (List AV)) (mt2 : Nat) (T2 : List (List AV)) (k : Nat) (kk : Nat) (g : List (List AV))
def mxgA : MxgS → List AV
  | .a _ _ _ _ _ _ => [.ptr ⟨0, 0, 0, 0, 0⟩]
def mxgH : MxgS → Heap
  | .a n t m d mt T => [(0, ⟨true, [.cell (.slice ⟨1, 0, 0, 1, 0⟩ 1 n), .cell (.slice ⟨2, 0, 0, 1, 0⟩ 1 t)]⟩), (1, ⟨true, [.arr [.int .u8] m d]⟩), (2, ⟨true, [.arr [.bool] mt T]⟩)]
def mxgDec (args : List AV) (H : Heap) : Option MxgS := match args, H with
  | [.ptr ⟨0, 0, 0, 0, 0⟩], [(0, ⟨true, [.cell (.slice ⟨1, 0, 0, 1, 0⟩ 1 n), .cell (.slice ⟨2, 0, 0, 1, 0⟩ 1 t)]⟩), (1, ⟨true, [.arr [.int .u8] m d]⟩), (2, ⟨true, [.arr [.bool] mt T]⟩)] => some (.a n t m d mt T)
  | _, _ => none
theorem mxgDec_ok (args : List AV) (H : Heap) (x : MxgS) (h : mxgDec args H = some x) : args = mxgA x ∧ H = mxgH x := by
  unfold mxgDec at h
  split at h
  all_goals first
    | (cases h; done)
    | (cases h; exact ⟨rfl, rfl⟩)
def mxgU : MxgR → AV × Eff × Nat
  | .z n2 t2 m2 d2 mt2 T2 => (.nilslice, [(2, some ⟨true, [.arr [.bool] mt2 T2]⟩), (1, some ⟨true, [.arr [.int .u8] m2 d2]⟩), (0, some ⟨true, [.cell (.slice ⟨1, 0, 0, 1, 0⟩ 1 n2), .cell (.slice ⟨2, 0, 0, 1, 0⟩ 1 t2)]⟩)], 3)
  | .s n2 t2 m2 d2 mt2 T2 k kk g => (.slice ⟨3, 0, 0, 1, 0⟩ 1 k, [(3, some ⟨true, [.arr [.int .i64] kk g]⟩), (2, some ⟨true, [.arr [.bool] mt2 T2]⟩), (1, some ⟨true, [.arr [.int .u8] m2 d2]⟩), (0, some ⟨true, [.cell (.slice ⟨1, 0, 0, 1, 0⟩ 1 n2), .cell (.slice ⟨2, 0, 0, 1, 0⟩ 1 t2)]⟩)], 4)
def mxgDecR (v : AV) (e : Eff) (k : Nat) : Option MxgR := match v, e, k with
  | .nilslice, [(2, some ⟨true, [.arr [.bool] mt2 T2]⟩), (1, some ⟨true, [.arr [.int .u8] m2 d2]⟩), (0, some ⟨true, [.cell (.slice ⟨1, 0, 0, 1, 0⟩ 1 n2), .cell (.slice ⟨2, 0, 0, 1, 0⟩ 1 t2)]⟩)], 3 => some (.z n2 t2 m2 d2 mt2 T2)
  | .slice ⟨3, 0, 0, 1, 0⟩ 1 k, [(3, some ⟨true, [.arr [.int .i64] kk g]⟩), (2, some ⟨true, [.arr [.bool] mt2 T2]⟩), (1, some ⟨true, [.arr [.int .u8] m2 d2]⟩), (0, some ⟨true, [.cell (.slice ⟨1, 0, 0, 1, 0⟩ 1 n2), .cell (.slice ⟨2, 0, 0, 1, 0⟩ 1 t2)]⟩)], 4 => some (.s n2 t2 m2 d2 mt2 T2 k kk g)
  | _, _, _ => none
theorem mxgDecR_ok (v : AV) (e : Eff) (k : Nat) (z : MxgR) (h : mxgDecR v e k = some z) : (v, e, k) = mxgU z := by
  unfold mxgDecR at h
  split at h
  all_goals first
    | (cases h; done)
    | (cases h; rfl)
noncomputable def mxgStep : MxgS → Option MxgR
 | .a n t m d mt T =>
 (cond (g_xd t mt && true)
 (cond (v_emp (v_xtagged T t))
 (some (MxgR.z n t m d mt T))
 (some (MxgR.s n t m d mt T (v_xtagged T t).length (v_xtagged T t).length (v_xtagged T t))))
 none)
end Go.Sx

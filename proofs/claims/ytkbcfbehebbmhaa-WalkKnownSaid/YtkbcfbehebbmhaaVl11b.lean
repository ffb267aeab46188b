/- What loops do, round by round. -/
import Derived.Test.YtkbcfbehebbmhaaSxX
import Derived.Test.YtkbcfbehebbmhaaSxLen2
import Derived.Test.YtkbcfbehebbmhaaSxEC
import Derived.Test.YtkbcfbehebbmhaaVa03
import Derived.Test.YtkbcfbehebbmhaaPlRam
set_option linter.unusedSimpArgs false
set_option linter.unusedVariables false
set_option linter.unnecessarySimpa false
namespace Go.Sx
open Go

/-! ### a number of bytes -/
inductive MgeS where
  | s (rw : Bool) (m : Nat) (d : List (List AV)) (o : Nat) (n : Nat)
  | z 
inductive MgeR where
  | s (rw : Bool) (m : Nat) (d : List (List AV)) (v : BitVec 64)
  | z (v : BitVec 64)
def mgeA : MgeS → List AV
  | .s _ _ _ o n => [.slice ⟨0, 0, o, 1, 0⟩ 1 n]
  | .z => [.nilslice]
def mgeH : MgeS → Heap
  | .s rw m d _ _ => [(0, ⟨rw, [.arr [.int .u8] m d]⟩)]
  | .z => []
def mgeDec (args : List AV) (H : Heap) : Option MgeS := match args, H with
  | [.slice ⟨0, 0, o, 1, 0⟩ 1 n], [(0, ⟨rw, [.arr [.int .u8] m d]⟩)] => some (.s rw m d o n)
  | [.nilslice], [] => some (.z)
  | _, _ => none
theorem mgeDec_ok (args : List AV) (H : Heap) (x : MgeS) (h : mgeDec args H = some x) : args = mgeA x ∧ H = mgeH x := by
  unfold mgeDec at h
  split at h
  all_goals first
    | (cases h; done)
    | (cases h; exact ⟨rfl, rfl⟩)
def mgeU : MgeR → AV × Eff × Nat
  | .s rw m d v => (.int .u64 v, [(0, some ⟨rw, [.arr [.int .u8] m d]⟩)], 1)
  | .z v => (.int .u64 v, [], 0)
def mgeDecR (v : AV) (e : Eff) (k : Nat) : Option MgeR := match v, e, k with
  | .int .u64 v, [(0, some ⟨rw, [.arr [.int .u8] m d]⟩)], 1 => some (.s rw m d v)
  | .int .u64 v, [], 0 => some (.z v)
  | _, _, _ => none
theorem mgeDecR_ok (v : AV) (e : Eff) (k : Nat) (z : MgeR) (h : mgeDecR v e k = some z) : (v, e, k) = mgeU z := by
  unfold mgeDecR at h
  split at h
  all_goals first
    | (cases h; done)
    | (cases h; rfl)
noncomputable def mgeStep : MgeS → Option MgeR
 | .s rw m d o n =>
 (cond (g_get m o n && (BitVec.ofNat 64 n == BitVec.ofNat 64 n && true))
 (some (MgeR.s rw m d (v_get d o n)))
 none)
 | .z =>
 (some (MgeR.z 0#64))

/-! ### a number laid -/
inductive MpuS where
  | a (m : Nat) (d : List (List AV)) (o : Nat) (n : Nat) (v : BitVec 64)
inductive MpuR where
  | a (m : Nat) (d : List (List AV))
def mpuA : MpuS → List AV
  | .a _ _ o n v => [.slice ⟨0, 0, o, 1, 0⟩ 1 n, .int .u64 v]
def mpuH : MpuS → Heap
  | .a m d _ _ _ => [(0, ⟨true, [.arr [.int .u8] m d]⟩)]
def mpuDec (args : List AV) (H : Heap) : Option MpuS := match args, H with
  | [.slice ⟨0, 0, o, 1, 0⟩ 1 n, .int .u64 v], [(0, ⟨true, [.arr [.int .u8] m d]⟩)] => some (.a m d o n v)
  | _, _ => none
theorem mpuDec_ok (args : List AV) (H : Heap) (x : MpuS) (h : mpuDec args H = some x) : args = mpuA x ∧ H = mpuH x := by
  unfold mpuDec at h
  split at h
  all_goals first
    | (cases h; done)
    | (cases h; exact ⟨rfl, rfl⟩)
def mpuU : MpuR → AV × Eff × Nat
  | .a m d => (.tup [], [(0, some ⟨true, [.arr [.int .u8] m d]⟩)], 1)
def mpuDecR (v : AV) (e : Eff) (k : Nat) : Option MpuR := match v, e, k with
  | .tup [], [(0, some ⟨true, [.arr [.int .u8] m d]⟩)], 1 => some (.a m d)
  | _, _, _ => none
theorem mpuDecR_ok (v : AV) (e : Eff) (k : Nat) (z : MpuR) (h : mpuDecR v e k = some z) : (v, e, k) = mpuU z := by
  unfold mpuDecR at h
  split at h
  all_goals first
    | (cases h; done)
    | (cases h; rfl)
noncomputable def mpuStep : MpuS → Option MpuR
 | .a m d o n v =>
 (cond (g_put m d o n && (BitVec.ofNat 64 n == BitVec.ofNat 64 n && true))
 (some (MpuR.a m (v_put d o n v)))
 none)
end Go.Sx

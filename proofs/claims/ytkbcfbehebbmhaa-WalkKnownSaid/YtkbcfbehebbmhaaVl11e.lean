/- What loops do, round by round. -/
import Derived.Test.YtkbcfbehebbmhaaSxX
import Derived.Test.YtkbcfbehebbmhaaSxLen2
import Derived.Test.YtkbcfbehebbmhaaSxEC
import Derived.Test.YtkbcfbehebbmhaaVa03
import Derived.Test.YtkbcfbehebbmhaaPlRamT
set_option linter.unusedSimpArgs false
set_option linter.unusedVariables false
set_option linter.unnecessarySimpa false
namespace Go.Sx
open Go

/-! ### where tags are -/
inductive MrgS where
  | a (n : Nat) (tg : List (List AV)) (m : Nat) (d : List (List AV))
inductive MrgR where
  | z (n2 : Nat) (tg2 : List (List AV)) (m2 : Nat) (d2 : List (List AV))
  | s (n2 : Nat) (tg2 : List (List AV)) (m2 : Nat) (d2 : List (List AV)) (k : Nat) (kk : Nat) (g : List (List AV))
def mrgA : MrgS → List AV
  | .a _ _ _ _ => [.ptr ⟨0, 0, 0, 0, 0⟩]
def mrgH : MrgS → Heap
  | .a n tg m d => [(0, ⟨true, [.cell (.slice ⟨1, 0, 0, 1, 0⟩ 1 n), .arr [.int .u64] 64 tg]⟩), (1, ⟨true, [.arr [.int .u8] m d]⟩)]
def mrgDec (args : List AV) (H : Heap) : Option MrgS := match args, H with
  | [.ptr ⟨0, 0, 0, 0, 0⟩], [(0, ⟨true, [.cell (.slice ⟨1, 0, 0, 1, 0⟩ 1 n), .arr [.int .u64] 64 tg]⟩), (1, ⟨true, [.arr [.int .u8] m d]⟩)] => some (.a n tg m d)
  | _, _ => none
theorem mrgDec_ok (args : List AV) (H : Heap) (x : MrgS) (h : mrgDec args H = some x) : args = mrgA x ∧ H = mrgH x := by
  unfold mrgDec at h
  split at h
  all_goals first
    | (cases h; done)
    | (cases h; exact ⟨rfl, rfl⟩)
def mrgU : MrgR → AV × Eff × Nat
  | .z n2 tg2 m2 d2 => (.nilslice, [(1, some ⟨true, [.arr [.int .u8] m2 d2]⟩), (0, some ⟨true, [.cell (.slice ⟨1, 0, 0, 1, 0⟩ 1 n2), .arr [.int .u64] 64 tg2]⟩)], 2)
  | .s n2 tg2 m2 d2 k kk g => (.slice ⟨2, 0, 0, 1, 0⟩ 1 k, [(2, some ⟨true, [.arr [.int .i64] kk g]⟩), (1, some ⟨true, [.arr [.int .u8] m2 d2]⟩), (0, some ⟨true, [.cell (.slice ⟨1, 0, 0, 1, 0⟩ 1 n2), .arr [.int .u64] 64 tg2]⟩)], 3)
def mrgDecR (v : AV) (e : Eff) (k : Nat) : Option MrgR := match v, e, k with
  | .nilslice, [(1, some ⟨true, [.arr [.int .u8] m2 d2]⟩), (0, some ⟨true, [.cell (.slice ⟨1, 0, 0, 1, 0⟩ 1 n2), .arr [.int .u64] 64 tg2]⟩)], 2 => some (.z n2 tg2 m2 d2)
  | .slice ⟨2, 0, 0, 1, 0⟩ 1 k, [(2, some ⟨true, [.arr [.int .i64] kk g]⟩), (1, some ⟨true, [.arr [.int .u8] m2 d2]⟩), (0, some ⟨true, [.cell (.slice ⟨1, 0, 0, 1, 0⟩ 1 n2), .arr [.int .u64] 64 tg2]⟩)], 3 => some (.s n2 tg2 m2 d2 k kk g)
  | _, _, _ => none
theorem mrgDecR_ok (v : AV) (e : Eff) (k : Nat) (z : MrgR) (h : mrgDecR v e k = some z) : (v, e, k) = mrgU z := by
  unfold mrgDecR at h
  split at h
  all_goals first
    | (cases h; done)
    | (cases h; rfl)
noncomputable def mrgStep : MrgS → Option MrgR
 | .a n tg m d =>
 (cond (g_tag n tg m d && true)
 (cond (v_emp (v_tagged tg n))
 (some (MrgR.z n tg m d))
 (some (MrgR.s n tg m d (v_tagged tg n).length (v_tagged tg n).length (v_tagged tg n))))
 none)
end Go.Sx

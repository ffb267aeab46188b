/- What loops do, round by round. -/
import Derived.Test.YtkbcfbehebbmhaaSxX
import Derived.Test.YtkbcfbehebbmhaaSxLen2
import Derived.Test.YtkbcfbehebbmhaaSxEC
import Derived.Test.YtkbcfbehebbmhaaVa03
import Derived.Test.YtkbcfbehebbmhaaPlRamS
set_option linter.unusedSimpArgs false
set_option linter.unusedVariables false
set_option linter.unnecessarySimpa false
namespace Go.Sx
open Go

/-! ### are lists the same? -/
inductive MsiS where
  | nn 
  | rn (ra : Bool) (ma : Nat) (da : List (List AV)) (na : Nat)
  | nr (ra : Bool) (ma : Nat) (da : List (List AV)) (na : Nat)
  | rr (ra : Bool) (ma : Nat) (da : List (List AV)) (na : Nat) (rb : Bool) (mb : Nat) (db : List (List AV)) (nb : Nat)
inductive MsiR where
  | n (r : Bool)
  | o (r : Bool) (ra : Bool) (ma : Nat) (da : List (List AV))
  | t (r : Bool) (ra : Bool) (ma : Nat) (da : List (List AV)) (rb : Bool) (mb : Nat) (db : List (List AV))
def msiA : MsiS → List AV
  | .nn => [.nilslice, .nilslice]
  | .rn _ _ _ na => [.slice ⟨0, 0, 0, 1, 0⟩ 1 na, .nilslice]
  | .nr _ _ _ na => [.nilslice, .slice ⟨0, 0, 0, 1, 0⟩ 1 na]
  | .rr _ _ _ na _ _ _ nb => [.slice ⟨0, 0, 0, 1, 0⟩ 1 na, .slice ⟨1, 0, 0, 1, 0⟩ 1 nb]
def msiH : MsiS → Heap
  | .nn => []
  | .rn ra ma da _ => [(0, ⟨ra, [.arr [.int .i64] ma da]⟩)]
  | .nr ra ma da _ => [(0, ⟨ra, [.arr [.int .i64] ma da]⟩)]
  | .rr ra ma da _ rb mb db _ => [(0, ⟨ra, [.arr [.int .i64] ma da]⟩), (1, ⟨rb, [.arr [.int .i64] mb db]⟩)]
def msiDec (args : List AV) (H : Heap) : Option MsiS := match args, H with
  | [.nilslice, .nilslice], [] => some (.nn)
  | [.slice ⟨0, 0, 0, 1, 0⟩ 1 na, .nilslice], [(0, ⟨ra, [.arr [.int .i64] ma da]⟩)] => some (.rn ra ma da na)
  | [.nilslice, .slice ⟨0, 0, 0, 1, 0⟩ 1 na], [(0, ⟨ra, [.arr [.int .i64] ma da]⟩)] => some (.nr ra ma da na)
  | [.slice ⟨0, 0, 0, 1, 0⟩ 1 na, .slice ⟨1, 0, 0, 1, 0⟩ 1 nb], [(0, ⟨ra, [.arr [.int .i64] ma da]⟩), (1, ⟨rb, [.arr [.int .i64] mb db]⟩)] => some (.rr ra ma da na rb mb db nb)
  | _, _ => none
theorem msiDec_ok (args : List AV) (H : Heap) (x : MsiS) (h : msiDec args H = some x) : args = msiA x ∧ H = msiH x := by
  unfold msiDec at h
  split at h
  all_goals first
    | (cases h; done)
    | (cases h; exact ⟨rfl, rfl⟩)
def msiU : MsiR → AV × Eff × Nat
  | .n r => (.bool r, [], 0)
  | .o r ra ma da => (.bool r, [(0, some ⟨ra, [.arr [.int .i64] ma da]⟩)], 1)
  | .t r ra ma da rb mb db => (.bool r, [(1, some ⟨rb, [.arr [.int .i64] mb db]⟩), (0, some ⟨ra, [.arr [.int .i64] ma da]⟩)], 2)
def msiDecR (v : AV) (e : Eff) (k : Nat) : Option MsiR := match v, e, k with
  | .bool r, [], 0 => some (.n r)
  | .bool r, [(0, some ⟨ra, [.arr [.int .i64] ma da]⟩)], 1 => some (.o r ra ma da)
  | .bool r, [(1, some ⟨rb, [.arr [.int .i64] mb db]⟩), (0, some ⟨ra, [.arr [.int .i64] ma da]⟩)], 2 => some (.t r ra ma da rb mb db)
  | _, _, _ => none
theorem msiDecR_ok (v : AV) (e : Eff) (k : Nat) (z : MsiR) (h : msiDecR v e k = some z) : (v, e, k) = msiU z := by
  unfold msiDecR at h
  split at h
  all_goals first
    | (cases h; done)
    | (cases h; rfl)
noncomputable def msiStep : MsiS → Option MsiR
 | .nn =>
 (some (MsiR.n true))
 | .rn ra ma da na =>
 (cond (!BitVec.ofNat 64 na == 0#64)
 (some (MsiR.o false ra ma da))
 (cond ((0#64).slt (BitVec.ofNat 64 na))
 (cond (true && decide (0 < na))
 (cond (decide (0 < ma))
    none
    none)
   none)
 (some (MsiR.o true ra ma da))))
 | .nr ra ma da na =>
 (cond (!0#64 == BitVec.ofNat 64 na)
 (some (MsiR.o false ra ma da))
 (some (MsiR.o true ra ma da)))
 | .rr ra ma da na rb mb db nb =>
 (cond (!BitVec.ofNat 64 na == BitVec.ofNat 64 nb)
 (some (MsiR.t false ra ma da rb mb db))
 (cond (g_sl na ma nb mb && true)
 (cond (v_eqI da db na)
 (some (MsiR.t true ra ma da rb mb db))
 (some (MsiR.t false ra ma da rb mb db)))
  none))
end Go.Sx

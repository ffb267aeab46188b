/- Several texts in one. -/
import Derived.Test.YtkbcfbehebbmhaaGreatSxX
set_option linter.unusedSimpArgs false
set_option linter.unusedVariables false
set_option linter.unnecessarySimpa false
/- A bus, block by block. -/
namespace Go.Sx
open Go
def bus0 : Blk := ⟨true, [.cell (.ptr ⟨1, 0, 0, 0, 0⟩), .cell (.ptr ⟨3, 0, 0, 0, 0⟩), .cell (.ptr ⟨4, 0, 0, 0, 0⟩), .cell (.ptr ⟨5, 0, 0, 0, 0⟩), .cell (.ptr ⟨6, 0, 0, 0, 0⟩)]⟩
def bClint (c0 c1 c2 : BitVec 64) : Blk := ⟨true, [.cell (.int .u64 c0), .cell (.int .u64 c1), .cell (.int .u64 c2)]⟩
def bPlic (pr : List (List AV)) (p1 p2 : BitVec 32) (en th : List (List AV)) : Blk := ⟨true, [.arr [.int .u32] 32 pr, .cell (.int .u32 p1), .cell (.int .u32 p2), .arr [.int .u32] 2 en, .arr [.int .u32] 2 th]⟩
def bUart (q : List (List AV)) (u1 u2 : BitVec 64) (u3 : Bool) : Blk := ⟨true, [.arr [.int .u8] 16 q, .cell (.int .i64 u1), .cell (.int .i64 u2), .cell (.bool u3), .cell .nilslice]⟩
def bPow (w : Bool) : Blk := ⟨true, [.cell (.bool w)]⟩
def dBus0 (b : Blk) : Option (Unit) := match b with
  | ⟨true, [.cell (.ptr ⟨1, 0, 0, 0, 0⟩), .cell (.ptr ⟨3, 0, 0, 0, 0⟩), .cell (.ptr ⟨4, 0, 0, 0, 0⟩), .cell (.ptr ⟨5, 0, 0, 0, 0⟩), .cell (.ptr ⟨6, 0, 0, 0, 0⟩)]⟩ => some ()
  | _ => none
theorem dBus0_ok {b : Blk} {u : Unit} (h : dBus0 b = some u) : b = bus0  := by
  unfold dBus0 at h
  split at h
  · cases h; rfl
  · cases h
def dClint (b : Blk) : Option (BitVec 64 × BitVec 64 × BitVec 64) := match b with
  | ⟨true, [.cell (.int .u64 c0), .cell (.int .u64 c1), .cell (.int .u64 c2)]⟩ => some (c0, c1, c2)
  | _ => none
theorem dClint_ok {b : Blk} {u : BitVec 64 × BitVec 64 × BitVec 64} (h : dClint b = some u) : b = bClint u.1 u.2.1 u.2.2 := by
  unfold dClint at h
  split at h
  · cases h; rfl
  · cases h
def dPlic (b : Blk) : Option (List (List AV) × BitVec 32 × BitVec 32 × List (List AV) × List (List AV)) := match b with
  | ⟨true, [.arr [.int .u32] 32 pr, .cell (.int .u32 p1), .cell (.int .u32 p2), .arr [.int .u32] 2 en, .arr [.int .u32] 2 th]⟩ => some (pr, p1, p2, en, th)
  | _ => none
theorem dPlic_ok {b : Blk} {u : List (List AV) × BitVec 32 × BitVec 32 × List (List AV) × List (List AV)} (h : dPlic b = some u) : b = bPlic u.1 u.2.1 u.2.2.1 u.2.2.2.1 u.2.2.2.2 := by
  unfold dPlic at h
  split at h
  · cases h; rfl
  · cases h
def dUart (b : Blk) : Option (List (List AV) × BitVec 64 × BitVec 64 × Bool) := match b with
  | ⟨true, [.arr [.int .u8] 16 q, .cell (.int .i64 u1), .cell (.int .i64 u2), .cell (.bool u3), .cell .nilslice]⟩ => some (q, u1, u2, u3)
  | _ => none
theorem dUart_ok {b : Blk} {u : List (List AV) × BitVec 64 × BitVec 64 × Bool} (h : dUart b = some u) : b = bUart u.1 u.2.1 u.2.2.1 u.2.2.2 := by
  unfold dUart at h
  split at h
  · cases h; rfl
  · cases h
def dPow (b : Blk) : Option (Bool) := match b with
  | ⟨true, [.cell (.bool w)]⟩ => some w
  | _ => none
theorem dPow_ok {b : Blk} {u : Bool} (h : dPow b = some u) : b = bPow u := by
  unfold dPow at h
  split at h
  · cases h; rfl
  · cases h
end Go.Sx

/- A bus whose blocks stand behind another one. -/
namespace Go.Sx
open Go
def bus1 : Blk := ⟨true, [.cell (.ptr ⟨2, 0, 0, 0, 0⟩), .cell (.ptr ⟨4, 0, 0, 0, 0⟩), .cell (.ptr ⟨5, 0, 0, 0, 0⟩), .cell (.ptr ⟨6, 0, 0, 0, 0⟩), .cell (.ptr ⟨7, 0, 0, 0, 0⟩)]⟩
def dBus1 (b : Blk) : Option (Unit) := match b with
  | ⟨true, [.cell (.ptr ⟨2, 0, 0, 0, 0⟩), .cell (.ptr ⟨4, 0, 0, 0, 0⟩), .cell (.ptr ⟨5, 0, 0, 0, 0⟩), .cell (.ptr ⟨6, 0, 0, 0, 0⟩), .cell (.ptr ⟨7, 0, 0, 0, 0⟩)]⟩ => some ()
  | _ => none
theorem dBus1_ok {b : Blk} {u : Unit} (h : dBus1 b = some u) : b = bus1 := by
  unfold dBus1 at h
  split at h
  · cases h; rfl
  · cases h
end Go.Sx

/- A bus whose blocks stand behind two others. -/
namespace Go.Sx
open Go
def bus2 : Blk := ⟨true, [.cell (.ptr ⟨3, 0, 0, 0, 0⟩), .cell (.ptr ⟨5, 0, 0, 0, 0⟩), .cell (.ptr ⟨6, 0, 0, 0, 0⟩), .cell (.ptr ⟨7, 0, 0, 0, 0⟩), .cell (.ptr ⟨8, 0, 0, 0, 0⟩)]⟩
def dBus2 (b : Blk) : Option (Unit) := match b with
  | ⟨true, [.cell (.ptr ⟨3, 0, 0, 0, 0⟩), .cell (.ptr ⟨5, 0, 0, 0, 0⟩), .cell (.ptr ⟨6, 0, 0, 0, 0⟩), .cell (.ptr ⟨7, 0, 0, 0, 0⟩), .cell (.ptr ⟨8, 0, 0, 0, 0⟩)]⟩ => some ()
  | _ => none
theorem dBus2_ok {b : Blk} {u : Unit} (h : dBus2 b = some u) : b = bus2 := by
  unfold dBus2 at h
  split at h
  · cases h; rfl
  · cases h
end Go.Sx


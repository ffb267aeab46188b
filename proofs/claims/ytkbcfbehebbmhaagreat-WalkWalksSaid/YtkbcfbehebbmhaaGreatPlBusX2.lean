/- Several texts in one. -/
import Derived.Test.YtkbcfbehebbmhaaGreatSxX
set_option linter.unusedSimpArgs false
set_option linter.unusedVariables false
set_option linter.unnecessarySimpa false
/- The document's bus, block by block. -/
namespace Go.Sx
open Go
def xbus0 : Blk := ⟨true, [.cell (.ptr ⟨1, 0, 0, 0, 0⟩), .cell (.ptr ⟨4, 0, 0, 0, 0⟩), .cell (.ptr ⟨5, 0, 0, 0, 0⟩), .cell (.ptr ⟨6, 0, 0, 0, 0⟩), .cell (.ptr ⟨7, 0, 0, 0, 0⟩)]⟩
def dXbus0 (b : Blk) : Option (Unit) := match b with
  | ⟨true, [.cell (.ptr ⟨1, 0, 0, 0, 0⟩), .cell (.ptr ⟨4, 0, 0, 0, 0⟩), .cell (.ptr ⟨5, 0, 0, 0, 0⟩), .cell (.ptr ⟨6, 0, 0, 0, 0⟩), .cell (.ptr ⟨7, 0, 0, 0, 0⟩)]⟩ => some ()
  | _ => none
theorem dXbus0_ok {b : Blk} {u : Unit} (h : dXbus0 b = some u) : b = xbus0  := by
  unfold dXbus0 at h
  split at h
  · cases h; rfl
  · cases h
def xbus1 : Blk := ⟨true, [.cell (.ptr ⟨2, 0, 0, 0, 0⟩), .cell (.ptr ⟨5, 0, 0, 0, 0⟩), .cell (.ptr ⟨6, 0, 0, 0, 0⟩), .cell (.ptr ⟨7, 0, 0, 0, 0⟩), .cell (.ptr ⟨8, 0, 0, 0, 0⟩)]⟩
def dXbus1 (b : Blk) : Option (Unit) := match b with
  | ⟨true, [.cell (.ptr ⟨2, 0, 0, 0, 0⟩), .cell (.ptr ⟨5, 0, 0, 0, 0⟩), .cell (.ptr ⟨6, 0, 0, 0, 0⟩), .cell (.ptr ⟨7, 0, 0, 0, 0⟩), .cell (.ptr ⟨8, 0, 0, 0, 0⟩)]⟩ => some ()
  | _ => none
theorem dXbus1_ok {b : Blk} {u : Unit} (h : dXbus1 b = some u) : b = xbus1  := by
  unfold dXbus1 at h
  split at h
  · cases h; rfl
  · cases h
def xClint (a0 : BitVec 64) (a1 : BitVec 64) (a2 : Bool) : Blk := ⟨true, [.cell (.int .u64 a0), .cell (.int .u64 a1), .cell (.bool a2)]⟩
def dXClint (b : Blk) : Option (BitVec 64 × BitVec 64 × Bool) := match b with
  | ⟨true, [.cell (.int .u64 a0), .cell (.int .u64 a1), .cell (.bool a2)]⟩ => some (a0, a1, a2)
  | _ => none
theorem dXClint_ok {b : Blk} {u : BitVec 64 × BitVec 64 × Bool} (h : dXClint b = some u) : b = xClint u.1 u.2.1 u.2.2 := by
  unfold dXClint at h
  split at h
  · cases h; rfl
  · cases h
def xPlic (xl : List (List AV)) (xt : List (List AV)) : Blk := ⟨true, [.arr [.int .i64, .bool, .bool, .bool, .bool] 32 xl, .arr [.int .i64] 2 xt]⟩
def dXPlic (b : Blk) : Option (List (List AV) × List (List AV)) := match b with
  | ⟨true, [.arr [.int .i64, .bool, .bool, .bool, .bool] 32 xl, .arr [.int .i64] 2 xt]⟩ => some (xl, xt)
  | _ => none
theorem dXPlic_ok {b : Blk} {u : List (List AV) × List (List AV)} (h : dXPlic b = some u) : b = xPlic u.1 u.2 := by
  unfold dXPlic at h
  split at h
  · cases h; rfl
  · cases h
def xUart (xe : Bool) (xo : BitVec 64) : Blk := ⟨true, [.cell .nilslice, .cell (.bool xe), .cell (.int .i64 xo)]⟩
def dXUart (b : Blk) : Option (Bool × BitVec 64) := match b with
  | ⟨true, [.cell .nilslice, .cell (.bool xe), .cell (.int .i64 xo)]⟩ => some (xe, xo)
  | _ => none
theorem dXUart_ok {b : Blk} {u : Bool × BitVec 64} (h : dXUart b = some u) : b = xUart u.1 u.2 := by
  unfold dXUart at h
  split at h
  · cases h; rfl
  · cases h
def xPow (xw : Bool) : Blk := ⟨true, [.cell (.bool xw)]⟩
def dXPow (b : Blk) : Option (Bool) := match b with
  | ⟨true, [.cell (.bool xw)]⟩ => some xw
  | _ => none
theorem dXPow_ok {b : Blk} {u : Bool} (h : dXPow b = some u) : b = xPow u := by
  unfold dXPow at h
  split at h
  · cases h; rfl
  · cases h
end Go.Sx

/- The document's bus, block by block. -/
namespace Go.Sx
open Go
def xbus7 : Blk := ⟨true, [.cell (.ptr ⟨8, 0, 0, 0, 0⟩), .cell (.ptr ⟨11, 0, 0, 0, 0⟩), .cell (.ptr ⟨12, 0, 0, 0, 0⟩), .cell (.ptr ⟨13, 0, 0, 0, 0⟩), .cell (.ptr ⟨14, 0, 0, 0, 0⟩)]⟩
def dXbus7 (b : Blk) : Option (Unit) := match b with
  | ⟨true, [.cell (.ptr ⟨8, 0, 0, 0, 0⟩), .cell (.ptr ⟨11, 0, 0, 0, 0⟩), .cell (.ptr ⟨12, 0, 0, 0, 0⟩), .cell (.ptr ⟨13, 0, 0, 0, 0⟩), .cell (.ptr ⟨14, 0, 0, 0, 0⟩)]⟩ => some ()
  | _ => none
theorem dXbus7_ok {b : Blk} {u : Unit} (h : dXbus7 b = some u) : b = xbus7  := by
  unfold dXbus7 at h
  split at h
  · cases h; rfl
  · cases h
def xbus9 : Blk := ⟨true, [.cell (.ptr ⟨10, 0, 0, 0, 0⟩), .cell (.ptr ⟨13, 0, 0, 0, 0⟩), .cell (.ptr ⟨14, 0, 0, 0, 0⟩), .cell (.ptr ⟨15, 0, 0, 0, 0⟩), .cell (.ptr ⟨16, 0, 0, 0, 0⟩)]⟩
def dXbus9 (b : Blk) : Option (Unit) := match b with
  | ⟨true, [.cell (.ptr ⟨10, 0, 0, 0, 0⟩), .cell (.ptr ⟨13, 0, 0, 0, 0⟩), .cell (.ptr ⟨14, 0, 0, 0, 0⟩), .cell (.ptr ⟨15, 0, 0, 0, 0⟩), .cell (.ptr ⟨16, 0, 0, 0, 0⟩)]⟩ => some ()
  | _ => none
theorem dXbus9_ok {b : Blk} {u : Unit} (h : dXbus9 b = some u) : b = xbus9  := by
  unfold dXbus9 at h
  split at h
  · cases h; rfl
  · cases h
end Go.Sx


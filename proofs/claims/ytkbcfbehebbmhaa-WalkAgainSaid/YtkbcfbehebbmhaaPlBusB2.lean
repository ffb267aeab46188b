/- Buses whose blocks stand behind others. -/
import Derived.Test.YtkbcfbehebbmhaaPlBusB1
set_option linter.unusedSimpArgs false
set_option linter.unusedVariables false
set_option linter.unnecessarySimpa false
namespace Go.Sx
open Go
def bus3 : Blk := ⟨true, [.cell (.ptr ⟨4, 0, 0, 0, 0⟩), .cell (.ptr ⟨6, 0, 0, 0, 0⟩), .cell (.ptr ⟨7, 0, 0, 0, 0⟩), .cell (.ptr ⟨8, 0, 0, 0, 0⟩), .cell (.ptr ⟨9, 0, 0, 0, 0⟩)]⟩
def dBus3 (b : Blk) : Option (Unit) := match b with
  | ⟨true, [.cell (.ptr ⟨4, 0, 0, 0, 0⟩), .cell (.ptr ⟨6, 0, 0, 0, 0⟩), .cell (.ptr ⟨7, 0, 0, 0, 0⟩), .cell (.ptr ⟨8, 0, 0, 0, 0⟩), .cell (.ptr ⟨9, 0, 0, 0, 0⟩)]⟩ => some ()
  | _ => none
theorem dBus3_ok {b : Blk} {u : Unit} (h : dBus3 b = some u) : b = bus3 := by
  unfold dBus3 at h
  split at h
  · cases h; rfl
  · cases h
def bus10 : Blk := ⟨true, [.cell (.ptr ⟨11, 0, 0, 0, 0⟩), .cell (.ptr ⟨13, 0, 0, 0, 0⟩), .cell (.ptr ⟨14, 0, 0, 0, 0⟩), .cell (.ptr ⟨15, 0, 0, 0, 0⟩), .cell (.ptr ⟨16, 0, 0, 0, 0⟩)]⟩
def dBus10 (b : Blk) : Option (Unit) := match b with
  | ⟨true, [.cell (.ptr ⟨11, 0, 0, 0, 0⟩), .cell (.ptr ⟨13, 0, 0, 0, 0⟩), .cell (.ptr ⟨14, 0, 0, 0, 0⟩), .cell (.ptr ⟨15, 0, 0, 0, 0⟩), .cell (.ptr ⟨16, 0, 0, 0, 0⟩)]⟩ => some ()
  | _ => none
theorem dBus10_ok {b : Blk} {u : Unit} (h : dBus10 b = some u) : b = bus10 := by
  unfold dBus10 at h
  split at h
  · cases h; rfl
  · cases h
/-- The box of what is asked. -/
def bAsk (x0 x1 x2 x3 x4 : BitVec 64) : Blk := ⟨true, [.cell (.int .u64 x0), .cell (.int .u64 x1), .cell (.int .u64 x2), .cell (.int .i64 x3), .cell (.int .i64 x4)]⟩
def dAsk (b : Blk) : Option (BitVec 64 × BitVec 64 × BitVec 64 × BitVec 64 × BitVec 64) := match b with
  | ⟨true, [.cell (.int .u64 x0), .cell (.int .u64 x1), .cell (.int .u64 x2), .cell (.int .i64 x3), .cell (.int .i64 x4)]⟩ => some (x0, x1, x2, x3, x4)
  | _ => none
theorem dAsk_ok {b : Blk} {u : BitVec 64 × BitVec 64 × BitVec 64 × BitVec 64 × BitVec 64} (h : dAsk b = some u) : b = bAsk u.1 u.2.1 u.2.2.1 u.2.2.2.1 u.2.2.2.2 := by
  unfold dAsk at h
  split at h
  · cases h; rfl
  · cases h
/-- The box of an entry. -/
def bEnt (y0 y1 y2 y3 : BitVec 64) : Blk := ⟨true, [.cell (.int .i64 y0), .cell (.int .i64 y1), .cell (.int .u64 y2), .cell (.int .u64 y3)]⟩
def dEnt (b : Blk) : Option (BitVec 64 × BitVec 64 × BitVec 64 × BitVec 64) := match b with
  | ⟨true, [.cell (.int .i64 y0), .cell (.int .i64 y1), .cell (.int .u64 y2), .cell (.int .u64 y3)]⟩ => some (y0, y1, y2, y3)
  | _ => none
theorem dEnt_ok {b : Blk} {u : BitVec 64 × BitVec 64 × BitVec 64 × BitVec 64} (h : dEnt b = some u) : b = bEnt u.1 u.2.1 u.2.2.1 u.2.2.2 := by
  unfold dEnt at h
  split at h
  · cases h; rfl
  · cases h
end Go.Sx

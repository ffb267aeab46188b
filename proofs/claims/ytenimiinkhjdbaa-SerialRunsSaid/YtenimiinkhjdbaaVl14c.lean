/- What loops do, round by round. -/
import Derived.Test.YtenimiinkhjdbaaSxX
import Derived.Test.YtenimiinkhjdbaaSxSR
import Derived.Test.YtenimiinkhjdbaaSxEC
import Derived.Test.YtenimiinkhjdbaaVa03
import Derived.Test.YtenimiinkhjdbaaVa14
import Derived.Test.YtenimiinkhjdbaaPlSr
import Derived.Test.YtenimiinkhjdbaaPlSrB
set_option linter.unusedSimpArgs false
set_option linter.unusedVariables false
set_option linter.unnecessarySimpa false
namespace Go.Sx
open Go

/-! ### the document: a byte comes -/
inductive XiS where
  | n (e : Bool) (to : BitVec 64) (b : BitVec 8)
  | r (n : Nat) (m : Nat) (d : List (List AV)) (e : Bool) (to : BitVec 64) (b : BitVec 8)
inductive XiR where
  | s (r : Bool) (n2 : Nat) (m2 : Nat) (d2 : List (List AV)) (e2 : Bool) (to2 : BitVec 64)
  | g (r : Bool) (n2 : Nat) (m2 : Nat) (d2 : List (List AV)) (e2 : Bool) (to2 : BitVec 64)
def xiA : XiS → List AV
  | .n _ _ b => [.ptr ⟨0, 0, 0, 0, 0⟩, .int .u8 b]
  | .r _ _ _ _ _ b => [.ptr ⟨0, 0, 0, 0, 0⟩, .int .u8 b]
def xiH : XiS → Heap
  | .n e to _ => [(0, ⟨true, [.cell .nilslice, .cell (.bool e), .cell (.int .i64 to)]⟩)]
  | .r n m d e to _ => [(0, ⟨true, [.cell (.slice ⟨1, 0, 0, 1, 0⟩ 1 n), .cell (.bool e), .cell (.int .i64 to)]⟩), (1, ⟨true, [.arr [.int .u8] m d]⟩)]
def xiDec (args : List AV) (H : Heap) : Option XiS := match args, H with
  | [.ptr ⟨0, 0, 0, 0, 0⟩, .int .u8 b], [(0, ⟨true, [.cell .nilslice, .cell (.bool e), .cell (.int .i64 to)]⟩)] => some (.n e to b)
  | [.ptr ⟨0, 0, 0, 0, 0⟩, .int .u8 b], [(0, ⟨true, [.cell (.slice ⟨1, 0, 0, 1, 0⟩ 1 n), .cell (.bool e), .cell (.int .i64 to)]⟩), (1, ⟨true, [.arr [.int .u8] m d]⟩)] => some (.r n m d e to b)
  | _, _ => none
theorem xiDec_ok (args : List AV) (H : Heap) (x : XiS) (h : xiDec args H = some x) : args = xiA x ∧ H = xiH x := by
  unfold xiDec at h
  split at h
  all_goals first
    | (cases h; done)
    | (cases h; exact ⟨rfl, rfl⟩)
def xiU : XiR → AV × Eff × Nat
  | .s r n2 m2 d2 e2 to2 => (.bool r, [(1, some ⟨true, [.arr [.int .u8] m2 d2]⟩), (0, some ⟨true, [.cell (.slice ⟨1, 0, 0, 1, 0⟩ 1 n2), .cell (.bool e2), .cell (.int .i64 to2)]⟩)], 2)
  | .g r n2 m2 d2 e2 to2 => (.bool r, [(1, none), (2, some ⟨true, [.arr [.int .u8] m2 d2]⟩), (0, some ⟨true, [.cell (.slice ⟨2, 0, 0, 1, 0⟩ 1 n2), .cell (.bool e2), .cell (.int .i64 to2)]⟩)], 3)
def xiDecR (v : AV) (e : Eff) (k : Nat) : Option XiR := match v, e, k with
  | .bool r, [(1, some ⟨true, [.arr [.int .u8] m2 d2]⟩), (0, some ⟨true, [.cell (.slice ⟨1, 0, 0, 1, 0⟩ 1 n2), .cell (.bool e2), .cell (.int .i64 to2)]⟩)], 2 => some (.s r n2 m2 d2 e2 to2)
  | .bool r, [(1, none), (2, some ⟨true, [.arr [.int .u8] m2 d2]⟩), (0, some ⟨true, [.cell (.slice ⟨2, 0, 0, 1, 0⟩ 1 n2), .cell (.bool e2), .cell (.int .i64 to2)]⟩)], 3 => some (.g r n2 m2 d2 e2 to2)
  | _, _, _ => none
theorem xiDecR_ok (v : AV) (e : Eff) (k : Nat) (z : XiR) (h : xiDecR v e k = some z) : (v, e, k) = xiU z := by
  unfold xiDecR at h
  split at h
  all_goals first
    | (cases h; done)
    | (cases h; rfl)
noncomputable def xiStep : XiS → Option XiR
 | .n e to b =>
 (some (XiR.s true 1 1 [[AV.int IntKind.u8 b]] e to))
 | .r n m d e to b =>
 (cond ((16#64).sle (BitVec.ofNat 64 n))
 (some (XiR.s false n m d e to))
 (cond (decide (0 + n ≤ m) && decide (d.length = m))
 (cond (true && v_room (n + 1) 1)
 (some (XiR.g true (n + 1) (n + 1) (List.take n (List.drop 0 d) ++ [[AV.int IntKind.u8 b]]) e to))
   none)
  none))

/-! ### the document: a load -/
inductive XdS where
  | n (e : Bool) (to : BitVec 64) (off : BitVec 64) (size : BitVec 64)
  | r (n : Nat) (m : Nat) (d : List (List AV)) (e : Bool) (to : BitVec 64) (off : BitVec 64) (size : BitVec 64)
inductive XdR where
  | n (rv : BitVec 64) (r : Bool) (e2 : Bool) (to2 : BitVec 64)
  | s (rv : BitVec 64) (r : Bool) (n2 : Nat) (m2 : Nat) (d2 : List (List AV)) (e2 : Bool) (to2 : BitVec 64)
  | e (rv : BitVec 64) (r : Bool) (m2 : Nat) (d2 : List (List AV)) (e2 : Bool) (to2 : BitVec 64)
  | l (rv : BitVec 64) (r : Bool) (m2 : Nat) (d2 : List (List AV)) (n3 : Nat) (m3 : Nat) (d3 : List (List AV)) (e2 : Bool) (to2 : BitVec 64)
def xdA : XdS → List AV
  | .n _ _ off size => [.ptr ⟨0, 0, 0, 0, 0⟩, .int .i64 off, .int .i64 size]
  | .r _ _ _ _ _ off size => [.ptr ⟨0, 0, 0, 0, 0⟩, .int .i64 off, .int .i64 size]
def xdH : XdS → Heap
  | .n e to _ _ => [(0, ⟨true, [.cell .nilslice, .cell (.bool e), .cell (.int .i64 to)]⟩)]
  | .r n m d e to _ _ => [(0, ⟨true, [.cell (.slice ⟨1, 0, 0, 1, 0⟩ 1 n), .cell (.bool e), .cell (.int .i64 to)]⟩), (1, ⟨true, [.arr [.int .u8] m d]⟩)]
def xdDec (args : List AV) (H : Heap) : Option XdS := match args, H with
  | [.ptr ⟨0, 0, 0, 0, 0⟩, .int .i64 off, .int .i64 size], [(0, ⟨true, [.cell .nilslice, .cell (.bool e), .cell (.int .i64 to)]⟩)] => some (.n e to off size)
  | [.ptr ⟨0, 0, 0, 0, 0⟩, .int .i64 off, .int .i64 size], [(0, ⟨true, [.cell (.slice ⟨1, 0, 0, 1, 0⟩ 1 n), .cell (.bool e), .cell (.int .i64 to)]⟩), (1, ⟨true, [.arr [.int .u8] m d]⟩)] => some (.r n m d e to off size)
  | _, _ => none
theorem xdDec_ok (args : List AV) (H : Heap) (x : XdS) (h : xdDec args H = some x) : args = xdA x ∧ H = xdH x := by
  unfold xdDec at h
  split at h
  all_goals first
    | (cases h; done)
    | (cases h; exact ⟨rfl, rfl⟩)
def xdU : XdR → AV × Eff × Nat
  | .n rv r e2 to2 => (.tup [.int .u64 rv, .bool r], [(0, some ⟨true, [.cell .nilslice, .cell (.bool e2), .cell (.int .i64 to2)]⟩)], 1)
  | .s rv r n2 m2 d2 e2 to2 => (.tup [.int .u64 rv, .bool r], [(1, some ⟨true, [.arr [.int .u8] m2 d2]⟩), (0, some ⟨true, [.cell (.slice ⟨1, 0, 0, 1, 0⟩ 1 n2), .cell (.bool e2), .cell (.int .i64 to2)]⟩)], 2)
  | .e rv r m2 d2 e2 to2 => (.tup [.int .u64 rv, .bool r], [(1, some ⟨true, [.arr [.int .u8] m2 d2]⟩), (0, some ⟨true, [.cell .nilslice, .cell (.bool e2), .cell (.int .i64 to2)]⟩)], 2)
  | .l rv r m2 d2 n3 m3 d3 e2 to2 => (.tup [.int .u64 rv, .bool r], [(2, some ⟨true, [.arr [.int .u8] m3 d3]⟩), (1, some ⟨true, [.arr [.int .u8] m2 d2]⟩), (0, some ⟨true, [.cell (.slice ⟨2, 0, 0, 1, 0⟩ 1 n3), .cell (.bool e2), .cell (.int .i64 to2)]⟩)], 3)
def xdDecR (v : AV) (e : Eff) (k : Nat) : Option XdR := match v, e, k with
  | .tup [.int .u64 rv, .bool r], [(0, some ⟨true, [.cell .nilslice, .cell (.bool e2), .cell (.int .i64 to2)]⟩)], 1 => some (.n rv r e2 to2)
  | .tup [.int .u64 rv, .bool r], [(1, some ⟨true, [.arr [.int .u8] m2 d2]⟩), (0, some ⟨true, [.cell (.slice ⟨1, 0, 0, 1, 0⟩ 1 n2), .cell (.bool e2), .cell (.int .i64 to2)]⟩)], 2 => some (.s rv r n2 m2 d2 e2 to2)
  | .tup [.int .u64 rv, .bool r], [(1, some ⟨true, [.arr [.int .u8] m2 d2]⟩), (0, some ⟨true, [.cell .nilslice, .cell (.bool e2), .cell (.int .i64 to2)]⟩)], 2 => some (.e rv r m2 d2 e2 to2)
  | .tup [.int .u64 rv, .bool r], [(2, some ⟨true, [.arr [.int .u8] m3 d3]⟩), (1, some ⟨true, [.arr [.int .u8] m2 d2]⟩), (0, some ⟨true, [.cell (.slice ⟨2, 0, 0, 1, 0⟩ 1 n3), .cell (.bool e2), .cell (.int .i64 to2)]⟩)], 3 => some (.l rv r m2 d2 n3 m3 d3 e2 to2)
  | _, _, _ => none
theorem xdDecR_ok (v : AV) (e : Eff) (k : Nat) (z : XdR) (h : xdDecR v e k = some z) : (v, e, k) = xdU z := by
  unfold xdDecR at h
  split at h
  all_goals first
    | (cases h; done)
    | (cases h; rfl)
noncomputable def xdStep : XdS → Option XdR
 | .n e to off size =>
 (cond (!size == 1#64)
 (some (XdR.n (0#64) false e to))
 (cond (off.slt 0#64)
 (some (XdR.n (0#64) false e to))
 (cond ((7#64).slt off)
 (some (XdR.n (0#64) false e to))
 (cond (off == 0#64)
 (some (XdR.n (0#64) true e to))
 (cond (off == 1#64)
 (cond (e)
 (some (XdR.n (1#64) true e to))
 (some (XdR.n (0#64) true e to)))
 (cond (off == 5#64)
 (some (XdR.n (96#64) true e to))
 (some (XdR.n (0#64) true e to))))))))
 | .r n m d e to off size =>
 (cond (!size == 1#64)
 (some (XdR.s (0#64) false n m d e to))
 (cond (off.slt 0#64)
 (some (XdR.s (0#64) false n m d e to))
 (cond ((7#64).slt off)
 (some (XdR.s (0#64) false n m d e to))
 (cond (off == 0#64)
 (cond ((0#64).slt (BitVec.ofNat 64 n))
 (cond (true && decide (0 < n))
 (cond (decide (0 < m))
 (cond (g_row n m d && true)
 (cond (n.ble 1)
 (some (XdR.e (BitVec.setWidth 64 (asU8 ((d.getD 0 []).headD AV.any))) true m d e to))
 (some (XdR.l (BitVec.setWidth 64 (asU8 ((d.getD 0 []).headD AV.any))) true m d (n - 1) (n - 1) (v_r8 d 1 (n - 1)) e to)))
        none)
       none)
      none)
 (some (XdR.s (0#64) true n m d e to)))
 (cond (off == 1#64)
 (cond (e)
 (some (XdR.s (1#64) true n m d e to))
 (some (XdR.s (0#64) true n m d e to)))
 (cond (off == 5#64)
 (cond ((0#64).slt (BitVec.ofNat 64 n))
 (some (XdR.s (97#64) true n m d e to))
 (some (XdR.s (96#64) true n m d e to)))
 (some (XdR.s (0#64) true n m d e to))))))))

/-! ### the document: a store -/
inductive XsS where
  | n (e : Bool) (to : BitVec 64) (off : BitVec 64) (size : BitVec 64) (v : BitVec 64)
  | r (n : Nat) (m : Nat) (d : List (List AV)) (e : Bool) (to : BitVec 64) (off : BitVec 64) (size : BitVec 64) (v : BitVec 64)
inductive XsR where
  | n (r : Bool) (e2 : Bool) (to2 : BitVec 64)
  | s (r : Bool) (n2 : Nat) (m2 : Nat) (d2 : List (List AV)) (e2 : Bool) (to2 : BitVec 64)
def xsA : XsS → List AV
  | .n _ _ off size v => [.ptr ⟨0, 0, 0, 0, 0⟩, .int .i64 off, .int .i64 size, .int .u64 v]
  | .r _ _ _ _ _ off size v => [.ptr ⟨0, 0, 0, 0, 0⟩, .int .i64 off, .int .i64 size, .int .u64 v]
def xsH : XsS → Heap
  | .n e to _ _ _ => [(0, ⟨true, [.cell .nilslice, .cell (.bool e), .cell (.int .i64 to)]⟩)]
  | .r n m d e to _ _ _ => [(0, ⟨true, [.cell (.slice ⟨1, 0, 0, 1, 0⟩ 1 n), .cell (.bool e), .cell (.int .i64 to)]⟩), (1, ⟨true, [.arr [.int .u8] m d]⟩)]
def xsDec (args : List AV) (H : Heap) : Option XsS := match args, H with
  | [.ptr ⟨0, 0, 0, 0, 0⟩, .int .i64 off, .int .i64 size, .int .u64 v], [(0, ⟨true, [.cell .nilslice, .cell (.bool e), .cell (.int .i64 to)]⟩)] => some (.n e to off size v)
  | [.ptr ⟨0, 0, 0, 0, 0⟩, .int .i64 off, .int .i64 size, .int .u64 v], [(0, ⟨true, [.cell (.slice ⟨1, 0, 0, 1, 0⟩ 1 n), .cell (.bool e), .cell (.int .i64 to)]⟩), (1, ⟨true, [.arr [.int .u8] m d]⟩)] => some (.r n m d e to off size v)
  | _, _ => none
theorem xsDec_ok (args : List AV) (H : Heap) (x : XsS) (h : xsDec args H = some x) : args = xsA x ∧ H = xsH x := by
  unfold xsDec at h
  split at h
  all_goals first
    | (cases h; done)
    | (cases h; exact ⟨rfl, rfl⟩)
def xsU : XsR → AV × Eff × Nat
  | .n r e2 to2 => (.bool r, [(0, some ⟨true, [.cell .nilslice, .cell (.bool e2), .cell (.int .i64 to2)]⟩)], 1)
  | .s r n2 m2 d2 e2 to2 => (.bool r, [(1, some ⟨true, [.arr [.int .u8] m2 d2]⟩), (0, some ⟨true, [.cell (.slice ⟨1, 0, 0, 1, 0⟩ 1 n2), .cell (.bool e2), .cell (.int .i64 to2)]⟩)], 2)
def xsDecR (v : AV) (e : Eff) (k : Nat) : Option XsR := match v, e, k with
  | .bool r, [(0, some ⟨true, [.cell .nilslice, .cell (.bool e2), .cell (.int .i64 to2)]⟩)], 1 => some (.n r e2 to2)
  | .bool r, [(1, some ⟨true, [.arr [.int .u8] m2 d2]⟩), (0, some ⟨true, [.cell (.slice ⟨1, 0, 0, 1, 0⟩ 1 n2), .cell (.bool e2), .cell (.int .i64 to2)]⟩)], 2 => some (.s r n2 m2 d2 e2 to2)
  | _, _, _ => none
theorem xsDecR_ok (v : AV) (e : Eff) (k : Nat) (z : XsR) (h : xsDecR v e k = some z) : (v, e, k) = xsU z := by
  unfold xsDecR at h
  split at h
  all_goals first
    | (cases h; done)
    | (cases h; rfl)
noncomputable def xsStep : XsS → Option XsR
 | .n e to off size v =>
 (cond (!size == 1#64)
 (some (XsR.n false e to))
 (cond (off.slt 0#64)
 (some (XsR.n false e to))
 (cond ((7#64).slt off)
 (some (XsR.n false e to))
 (cond (off == 0#64)
 (cond (off == 1#64)
 (some (XsR.n true (v % 2#64 == 1#64) (BitVec.setWidth 64 (v % 256#64))))
 (some (XsR.n true e (BitVec.setWidth 64 (v % 256#64)))))
 (cond (off == 1#64)
 (some (XsR.n true (v % 2#64 == 1#64) to))
 (some (XsR.n true e to)))))))
 | .r n m d e to off size v =>
 (cond (!size == 1#64)
 (some (XsR.s false n m d e to))
 (cond (off.slt 0#64)
 (some (XsR.s false n m d e to))
 (cond ((7#64).slt off)
 (some (XsR.s false n m d e to))
 (cond (off == 0#64)
 (cond (off == 1#64)
 (some (XsR.s true n m d (v % 2#64 == 1#64) (BitVec.setWidth 64 (v % 256#64))))
 (some (XsR.s true n m d e (BitVec.setWidth 64 (v % 256#64)))))
 (cond (off == 1#64)
 (some (XsR.s true n m d (v % 2#64 == 1#64) to))
 (some (XsR.s true n m d e to)))))))
end Go.Sx

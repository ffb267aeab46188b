/- What loops do, round by round. -/
import Derived.Test.YtenimiinkhjdbaaSxX
import Derived.Test.YtenimiinkhjdbaaSxSR
import Derived.Test.YtenimiinkhjdbaaSxEC
import Derived.Test.YtenimiinkhjdbaaVa03
import Derived.Test.YtenimiinkhjdbaaVa14
set_option linter.unusedSimpArgs false
set_option linter.unusedVariables false
set_option linter.unnecessarySimpa false
namespace Go.Sx
open Go

/-! ### a byte comes -/
inductive UiS where
  | n (q : List (List AV)) (fi : BitVec 64) (cn : BitVec 64) (en : Bool) (b : BitVec 8)
  | t (q : List (List AV)) (fi : BitVec 64) (cn : BitVec 64) (en : Bool) (tb : BitVec 8) (b : BitVec 8)
inductive UiR where
  | n (r : Bool) (q2 : List (List AV)) (fi2 : BitVec 64) (cn2 : BitVec 64) (en2 : Bool)
  | t (r : Bool) (q2 : List (List AV)) (fi2 : BitVec 64) (cn2 : BitVec 64) (en2 : Bool) (tb2 : BitVec 8)
def uiA : UiS → List AV
  | .n _ _ _ _ b => [.ptr ⟨0, 0, 0, 0, 0⟩, .int .u8 b]
  | .t _ _ _ _ _ b => [.ptr ⟨0, 0, 0, 0, 0⟩, .int .u8 b]
def uiH : UiS → Heap
  | .n q fi cn en _ => [(0, ⟨true, [.arr [.int .u8] 16 q, .cell (.int .i64 fi), .cell (.int .i64 cn), .cell (.bool en), .cell .nilslice]⟩)]
  | .t q fi cn en tb _ => [(0, ⟨true, [.arr [.int .u8] 16 q, .cell (.int .i64 fi), .cell (.int .i64 cn), .cell (.bool en), .cell (.slice ⟨1, 0, 0, 1, 0⟩ 1 1)]⟩), (1, ⟨true, [.arr [.int .u8] 1 [[.int .u8 tb]]]⟩)]
def uiDec (args : List AV) (H : Heap) : Option UiS := match args, H with
  | [.ptr ⟨0, 0, 0, 0, 0⟩, .int .u8 b], [(0, ⟨true, [.arr [.int .u8] 16 q, .cell (.int .i64 fi), .cell (.int .i64 cn), .cell (.bool en), .cell .nilslice]⟩)] => some (.n q fi cn en b)
  | [.ptr ⟨0, 0, 0, 0, 0⟩, .int .u8 b], [(0, ⟨true, [.arr [.int .u8] 16 q, .cell (.int .i64 fi), .cell (.int .i64 cn), .cell (.bool en), .cell (.slice ⟨1, 0, 0, 1, 0⟩ 1 1)]⟩), (1, ⟨true, [.arr [.int .u8] 1 [[.int .u8 tb]]]⟩)] => some (.t q fi cn en tb b)
  | _, _ => none
theorem uiDec_ok (args : List AV) (H : Heap) (x : UiS) (h : uiDec args H = some x) : args = uiA x ∧ H = uiH x := by
  unfold uiDec at h
  split at h
  all_goals first
    | (cases h; done)
    | (cases h; exact ⟨rfl, rfl⟩)
def uiU : UiR → AV × Eff × Nat
  | .n r q2 fi2 cn2 en2 => (.bool r, [(0, some ⟨true, [.arr [.int .u8] 16 q2, .cell (.int .i64 fi2), .cell (.int .i64 cn2), .cell (.bool en2), .cell .nilslice]⟩)], 1)
  | .t r q2 fi2 cn2 en2 tb2 => (.bool r, [(1, some ⟨true, [.arr [.int .u8] 1 [[.int .u8 tb2]]]⟩), (0, some ⟨true, [.arr [.int .u8] 16 q2, .cell (.int .i64 fi2), .cell (.int .i64 cn2), .cell (.bool en2), .cell (.slice ⟨1, 0, 0, 1, 0⟩ 1 1)]⟩)], 2)
def uiDecR (v : AV) (e : Eff) (k : Nat) : Option UiR := match v, e, k with
  | .bool r, [(0, some ⟨true, [.arr [.int .u8] 16 q2, .cell (.int .i64 fi2), .cell (.int .i64 cn2), .cell (.bool en2), .cell .nilslice]⟩)], 1 => some (.n r q2 fi2 cn2 en2)
  | .bool r, [(1, some ⟨true, [.arr [.int .u8] 1 [[.int .u8 tb2]]]⟩), (0, some ⟨true, [.arr [.int .u8] 16 q2, .cell (.int .i64 fi2), .cell (.int .i64 cn2), .cell (.bool en2), .cell (.slice ⟨1, 0, 0, 1, 0⟩ 1 1)]⟩)], 2 => some (.t r q2 fi2 cn2 en2 tb2)
  | _, _, _ => none
theorem uiDecR_ok (v : AV) (e : Eff) (k : Nat) (z : UiR) (h : uiDecR v e k = some z) : (v, e, k) = uiU z := by
  unfold uiDecR at h
  split at h
  all_goals first
    | (cases h; done)
    | (cases h; rfl)
noncomputable def uiStep : UiS → Option UiR
 | .n q fi cn en b =>
 (cond (cn == 16#64)
 (some (UiR.n false q fi cn en))
 (cond (nonneg IntKind.i64 ((fi + cn).srem 16#64) && decide (((fi + cn).srem 16#64).toNat < 16))
 (cond (decide (((fi + cn).srem 16#64).toNat < 16) && decide (((fi + cn).srem 16#64).toNat < q.length))
 (some (UiR.n true (q.set ((fi + cn).srem 16#64).toNat [AV.int IntKind.u8 b]) fi (cn + 1#64) en))
   none)
  none))
 | .t q fi cn en tb b =>
 (cond (cn == 16#64)
 (some (UiR.t false q fi cn en tb))
 (cond (nonneg IntKind.i64 ((fi + cn).srem 16#64) && decide (((fi + cn).srem 16#64).toNat < 16))
 (cond (decide (((fi + cn).srem 16#64).toNat < 16) && decide (((fi + cn).srem 16#64).toNat < q.length))
 (some (UiR.t true (q.set ((fi + cn).srem 16#64).toNat [AV.int IntKind.u8 b]) fi (cn + 1#64) en tb))
   none)
  none))

/-! ### a load -/
inductive UlS where
  | n (q : List (List AV)) (fi : BitVec 64) (cn : BitVec 64) (en : Bool) (off : BitVec 64) (size : BitVec 64)
  | t (q : List (List AV)) (fi : BitVec 64) (cn : BitVec 64) (en : Bool) (tb : BitVec 8) (off : BitVec 64) (size : BitVec 64)
inductive UlR where
  | n (rv : BitVec 64) (r : Bool) (q2 : List (List AV)) (fi2 : BitVec 64) (cn2 : BitVec 64) (en2 : Bool)
  | t (rv : BitVec 64) (r : Bool) (q2 : List (List AV)) (fi2 : BitVec 64) (cn2 : BitVec 64) (en2 : Bool) (tb2 : BitVec 8)
def ulA : UlS → List AV
  | .n _ _ _ _ off size => [.ptr ⟨0, 0, 0, 0, 0⟩, .int .i64 off, .int .i64 size]
  | .t _ _ _ _ _ off size => [.ptr ⟨0, 0, 0, 0, 0⟩, .int .i64 off, .int .i64 size]
def ulH : UlS → Heap
  | .n q fi cn en _ _ => [(0, ⟨true, [.arr [.int .u8] 16 q, .cell (.int .i64 fi), .cell (.int .i64 cn), .cell (.bool en), .cell .nilslice]⟩)]
  | .t q fi cn en tb _ _ => [(0, ⟨true, [.arr [.int .u8] 16 q, .cell (.int .i64 fi), .cell (.int .i64 cn), .cell (.bool en), .cell (.slice ⟨1, 0, 0, 1, 0⟩ 1 1)]⟩), (1, ⟨true, [.arr [.int .u8] 1 [[.int .u8 tb]]]⟩)]
def ulDec (args : List AV) (H : Heap) : Option UlS := match args, H with
  | [.ptr ⟨0, 0, 0, 0, 0⟩, .int .i64 off, .int .i64 size], [(0, ⟨true, [.arr [.int .u8] 16 q, .cell (.int .i64 fi), .cell (.int .i64 cn), .cell (.bool en), .cell .nilslice]⟩)] => some (.n q fi cn en off size)
  | [.ptr ⟨0, 0, 0, 0, 0⟩, .int .i64 off, .int .i64 size], [(0, ⟨true, [.arr [.int .u8] 16 q, .cell (.int .i64 fi), .cell (.int .i64 cn), .cell (.bool en), .cell (.slice ⟨1, 0, 0, 1, 0⟩ 1 1)]⟩), (1, ⟨true, [.arr [.int .u8] 1 [[.int .u8 tb]]]⟩)] => some (.t q fi cn en tb off size)
  | _, _ => none
theorem ulDec_ok (args : List AV) (H : Heap) (x : UlS) (h : ulDec args H = some x) : args = ulA x ∧ H = ulH x := by
  unfold ulDec at h
  split at h
  all_goals first
    | (cases h; done)
    | (cases h; exact ⟨rfl, rfl⟩)
def ulU : UlR → AV × Eff × Nat
  | .n rv r q2 fi2 cn2 en2 => (.tup [.int .u64 rv, .bool r], [(0, some ⟨true, [.arr [.int .u8] 16 q2, .cell (.int .i64 fi2), .cell (.int .i64 cn2), .cell (.bool en2), .cell .nilslice]⟩)], 1)
  | .t rv r q2 fi2 cn2 en2 tb2 => (.tup [.int .u64 rv, .bool r], [(1, some ⟨true, [.arr [.int .u8] 1 [[.int .u8 tb2]]]⟩), (0, some ⟨true, [.arr [.int .u8] 16 q2, .cell (.int .i64 fi2), .cell (.int .i64 cn2), .cell (.bool en2), .cell (.slice ⟨1, 0, 0, 1, 0⟩ 1 1)]⟩)], 2)
def ulDecR (v : AV) (e : Eff) (k : Nat) : Option UlR := match v, e, k with
  | .tup [.int .u64 rv, .bool r], [(0, some ⟨true, [.arr [.int .u8] 16 q2, .cell (.int .i64 fi2), .cell (.int .i64 cn2), .cell (.bool en2), .cell .nilslice]⟩)], 1 => some (.n rv r q2 fi2 cn2 en2)
  | .tup [.int .u64 rv, .bool r], [(1, some ⟨true, [.arr [.int .u8] 1 [[.int .u8 tb2]]]⟩), (0, some ⟨true, [.arr [.int .u8] 16 q2, .cell (.int .i64 fi2), .cell (.int .i64 cn2), .cell (.bool en2), .cell (.slice ⟨1, 0, 0, 1, 0⟩ 1 1)]⟩)], 2 => some (.t rv r q2 fi2 cn2 en2 tb2)
  | _, _, _ => none
theorem ulDecR_ok (v : AV) (e : Eff) (k : Nat) (z : UlR) (h : ulDecR v e k = some z) : (v, e, k) = ulU z := by
  unfold ulDecR at h
  split at h
  all_goals first
    | (cases h; done)
    | (cases h; rfl)
noncomputable def ulStep : UlS → Option UlR
 | .n q fi cn en off size =>
 (cond (!v_serial_there off size)
 (some (UlR.n (0#64) false q fi cn en))
 (cond (off == 0#64)
 (cond (cn == 0#64)
 (some (UlR.n (0#64) true q fi cn en))
 (cond (nonneg IntKind.i64 fi && decide (fi.toNat < 16))
 (cond (decide (fi.toNat < 16))
 (some (UlR.n (BitVec.setWidth 64 (asU8 ((q.getD fi.toNat []).headD AV.any))) true q ((fi + 1#64).srem 16#64) (cn - 1#64) en))
     none)
    none))
 (cond (off == 1#64)
 (some (UlR.n (v_serial_one en) true q fi cn en))
 (cond (off == 5#64)
 (some (UlR.n (96#64 + v_serial_one ((0#64).slt cn)) true q fi cn en))
 (some (UlR.n (0#64) true q fi cn en))))))
 | .t q fi cn en tb off size =>
 (cond (!v_serial_there off size)
 (some (UlR.t (0#64) false q fi cn en tb))
 (cond (off == 0#64)
 (cond (cn == 0#64)
 (some (UlR.t (0#64) true q fi cn en tb))
 (cond (nonneg IntKind.i64 fi && decide (fi.toNat < 16))
 (cond (decide (fi.toNat < 16))
 (some (UlR.t (BitVec.setWidth 64 (asU8 ((q.getD fi.toNat []).headD AV.any))) true q ((fi + 1#64).srem 16#64) (cn - 1#64) en tb))
     none)
    none))
 (cond (off == 1#64)
 (some (UlR.t (v_serial_one en) true q fi cn en tb))
 (cond (off == 5#64)
 (some (UlR.t (96#64 + v_serial_one ((0#64).slt cn)) true q fi cn en tb))
 (some (UlR.t (0#64) true q fi cn en tb))))))

/-! ### a store -/
inductive UsS where
  | n (q : List (List AV)) (fi : BitVec 64) (cn : BitVec 64) (en : Bool) (off : BitVec 64) (size : BitVec 64) (v : BitVec 64)
  | t (q : List (List AV)) (fi : BitVec 64) (cn : BitVec 64) (en : Bool) (tb : BitVec 8) (off : BitVec 64) (size : BitVec 64) (v : BitVec 64)
inductive UsR where
  | n (r : Bool) (q2 : List (List AV)) (fi2 : BitVec 64) (cn2 : BitVec 64) (en2 : Bool)
  | t (r : Bool) (q2 : List (List AV)) (fi2 : BitVec 64) (cn2 : BitVec 64) (en2 : Bool) (tb2 : BitVec 8)
  | x (r : Bool) (q2 : List (List AV)) (fi2 : BitVec 64) (cn2 : BitVec 64) (en2 : Bool) (tb2 : BitVec 8)
def usA : UsS → List AV
  | .n _ _ _ _ off size v => [.ptr ⟨0, 0, 0, 0, 0⟩, .int .i64 off, .int .i64 size, .int .u64 v]
  | .t _ _ _ _ _ off size v => [.ptr ⟨0, 0, 0, 0, 0⟩, .int .i64 off, .int .i64 size, .int .u64 v]
def usH : UsS → Heap
  | .n q fi cn en _ _ _ => [(0, ⟨true, [.arr [.int .u8] 16 q, .cell (.int .i64 fi), .cell (.int .i64 cn), .cell (.bool en), .cell .nilslice]⟩)]
  | .t q fi cn en tb _ _ _ => [(0, ⟨true, [.arr [.int .u8] 16 q, .cell (.int .i64 fi), .cell (.int .i64 cn), .cell (.bool en), .cell (.slice ⟨1, 0, 0, 1, 0⟩ 1 1)]⟩), (1, ⟨true, [.arr [.int .u8] 1 [[.int .u8 tb]]]⟩)]
def usDec (args : List AV) (H : Heap) : Option UsS := match args, H with
  | [.ptr ⟨0, 0, 0, 0, 0⟩, .int .i64 off, .int .i64 size, .int .u64 v], [(0, ⟨true, [.arr [.int .u8] 16 q, .cell (.int .i64 fi), .cell (.int .i64 cn), .cell (.bool en), .cell .nilslice]⟩)] => some (.n q fi cn en off size v)
  | [.ptr ⟨0, 0, 0, 0, 0⟩, .int .i64 off, .int .i64 size, .int .u64 v], [(0, ⟨true, [.arr [.int .u8] 16 q, .cell (.int .i64 fi), .cell (.int .i64 cn), .cell (.bool en), .cell (.slice ⟨1, 0, 0, 1, 0⟩ 1 1)]⟩), (1, ⟨true, [.arr [.int .u8] 1 [[.int .u8 tb]]]⟩)] => some (.t q fi cn en tb off size v)
  | _, _ => none
theorem usDec_ok (args : List AV) (H : Heap) (x : UsS) (h : usDec args H = some x) : args = usA x ∧ H = usH x := by
  unfold usDec at h
  split at h
  all_goals first
    | (cases h; done)
    | (cases h; exact ⟨rfl, rfl⟩)
def usU : UsR → AV × Eff × Nat
  | .n r q2 fi2 cn2 en2 => (.bool r, [(0, some ⟨true, [.arr [.int .u8] 16 q2, .cell (.int .i64 fi2), .cell (.int .i64 cn2), .cell (.bool en2), .cell .nilslice]⟩)], 1)
  | .t r q2 fi2 cn2 en2 tb2 => (.bool r, [(1, some ⟨true, [.arr [.int .u8] 1 [[.int .u8 tb2]]]⟩), (0, some ⟨true, [.arr [.int .u8] 16 q2, .cell (.int .i64 fi2), .cell (.int .i64 cn2), .cell (.bool en2), .cell (.slice ⟨1, 0, 0, 1, 0⟩ 1 1)]⟩)], 2)
  | .x r q2 fi2 cn2 en2 tb2 => (.bool r, [(1, none), (2, some ⟨true, [.arr [.int .u8] 1 [[.int .u8 tb2]]]⟩), (0, some ⟨true, [.arr [.int .u8] 16 q2, .cell (.int .i64 fi2), .cell (.int .i64 cn2), .cell (.bool en2), .cell (.slice ⟨2, 0, 0, 1, 0⟩ 1 1)]⟩)], 3)
def usDecR (v : AV) (e : Eff) (k : Nat) : Option UsR := match v, e, k with
  | .bool r, [(0, some ⟨true, [.arr [.int .u8] 16 q2, .cell (.int .i64 fi2), .cell (.int .i64 cn2), .cell (.bool en2), .cell .nilslice]⟩)], 1 => some (.n r q2 fi2 cn2 en2)
  | .bool r, [(1, some ⟨true, [.arr [.int .u8] 1 [[.int .u8 tb2]]]⟩), (0, some ⟨true, [.arr [.int .u8] 16 q2, .cell (.int .i64 fi2), .cell (.int .i64 cn2), .cell (.bool en2), .cell (.slice ⟨1, 0, 0, 1, 0⟩ 1 1)]⟩)], 2 => some (.t r q2 fi2 cn2 en2 tb2)
  | .bool r, [(1, none), (2, some ⟨true, [.arr [.int .u8] 1 [[.int .u8 tb2]]]⟩), (0, some ⟨true, [.arr [.int .u8] 16 q2, .cell (.int .i64 fi2), .cell (.int .i64 cn2), .cell (.bool en2), .cell (.slice ⟨2, 0, 0, 1, 0⟩ 1 1)]⟩)], 3 => some (.x r q2 fi2 cn2 en2 tb2)
  | _, _, _ => none
theorem usDecR_ok (v : AV) (e : Eff) (k : Nat) (z : UsR) (h : usDecR v e k = some z) : (v, e, k) = usU z := by
  unfold usDecR at h
  split at h
  all_goals first
    | (cases h; done)
    | (cases h; rfl)
noncomputable def usStep : UsS → Option UsR
 | .n q fi cn en off size v =>
 (cond (!v_serial_there off size)
 (some (UsR.n false q fi cn en))
 (cond (off == 0#64)
 (some (UsR.t true q fi cn en (BitVec.setWidth 8 v)))
 (cond (off == 1#64)
 (some (UsR.n true q fi cn (v &&& 1#64 == 1#64)))
 (some (UsR.n true q fi cn en)))))
 | .t q fi cn en tb off size v =>
 (cond (!v_serial_there off size)
 (some (UsR.t false q fi cn en tb))
 (cond (off == 0#64)
 (some (UsR.x true q fi cn en (BitVec.setWidth 8 v)))
 (cond (off == 1#64)
 (some (UsR.t true q fi cn (v &&& 1#64 == 1#64) tb))
 (some (UsR.t true q fi cn en tb)))))
end Go.Sx

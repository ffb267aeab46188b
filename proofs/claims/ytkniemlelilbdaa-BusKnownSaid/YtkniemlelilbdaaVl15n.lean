/- What loops do, round by round. -/
import Derived.Test.YtkniemlelilbdaaSxX
import Derived.Test.YtkniemlelilbdaaSxLen2
import Derived.Test.YtkniemlelilbdaaSxEC
import Derived.Test.YtkniemlelilbdaaVa03
import Derived.Test.YtkniemlelilbdaaSxOff
import Derived.Test.YtkniemlelilbdaaPlBusF
set_option linter.unusedSimpArgs false
set_option linter.unusedVariables false
set_option linter.unnecessarySimpa false
namespace Go.Sx
open Go

/-! ### a load of nowhere -/
inductive MblS where
  | a (n : Nat) (tg : List (List AV)) (m : Nat) (d : List (List AV)) (c0 : BitVec 64) (c1 : BitVec 64) (c2 : BitVec 64) (pr : List (List AV)) (p1 : BitVec 32) (p2 : BitVec 32) (en : List (List AV)) (th : List (List AV)) (q : List (List AV)) (u1 : BitVec 64) (u2 : BitVec 64) (u3 : Bool) (w : Bool) (pa : BitVec 64) (size : BitVec 64)
inductive MblR where
  | a (n : Nat) (tg : List (List AV)) (m : Nat) (d : List (List AV)) (b0 : Blk) (b3 : Blk) (b4 : Blk) (b5 : Blk) (b6 : Blk) (x : BitVec 64) (ok : Bool)
noncomputable def mblA : MblS → List AV
  | .a _ _ _ _ _ _ _ _ _ _ _ _ _ _ _ _ _ pa size => [.ptr ⟨0, 0, 0, 0, 0⟩, .int .u64 pa, .int .i64 size]
noncomputable def mblH : MblS → Heap
  | .a n tg m d c0 c1 c2 pr p1 p2 en th q u1 u2 u3 w _ _ => [(0, bus0), (1, ⟨true, [.cell (.slice ⟨2, 0, 0, 1, 0⟩ 1 n), .arr [.int .u64] 64 tg]⟩), (2, ⟨true, [.arr [.int .u8] m d]⟩), (3, (bClint c0 c1 c2)), (4, (bPlic pr p1 p2 en th)), (5, (bUart q u1 u2 u3)), (6, (bPow w))]
noncomputable def mblDec (args : List AV) (H : Heap) : Option MblS := match args, H with
  | [.ptr ⟨0, 0, 0, 0, 0⟩, .int .u64 pa, .int .i64 size], [(0, b0), (1, ⟨true, [.cell (.slice ⟨2, 0, 0, 1, 0⟩ 1 n), .arr [.int .u64] 64 tg]⟩), (2, ⟨true, [.arr [.int .u8] m d]⟩), (3, b3), (4, b4), (5, b5), (6, b6)] => (dBus0 b0).bind fun _ => (dClint b3).bind fun (c0, c1, c2) => (dPlic b4).bind fun (pr, p1, p2, en, th) => (dUart b5).bind fun (q, u1, u2, u3) => (dPow b6).bind fun w => bif v_nowhere n pa size then some (.a n tg m d c0 c1 c2 pr p1 p2 en th q u1 u2 u3 w pa size) else none
  | _, _ => none
theorem mblDec_ok (args : List AV) (H : Heap) (x : MblS) (h : mblDec args H = some x) : args = mblA x ∧ H = mblH x := by
  unfold mblDec at h
  split at h
  · obtain ⟨u_, e0, h⟩ := Option.bind_eq_some_iff.1 h
    obtain ⟨⟨c0, c1, c2⟩, e3, h⟩ := Option.bind_eq_some_iff.1 h
    obtain ⟨⟨pr, p1, p2, en, th⟩, e4, h⟩ := Option.bind_eq_some_iff.1 h
    obtain ⟨⟨q, u1, u2, u3⟩, e5, h⟩ := Option.bind_eq_some_iff.1 h
    obtain ⟨w, e6, h⟩ := Option.bind_eq_some_iff.1 h
    obtain rfl := dBus0_ok e0
    obtain rfl := dClint_ok e3
    obtain rfl := dPlic_ok e4
    obtain rfl := dUart_ok e5
    obtain rfl := dPow_ok e6
    have h := whenO h; cases h; exact ⟨rfl, rfl⟩
  · cases h
noncomputable def mblU : MblR → AV × Eff × Nat
  | .a n tg m d b0 b3 b4 b5 b6 x ok => (.tup [.int .u64 x, .bool ok], [(6, some b6), (5, some b5), (4, some b4), (3, some b3), (2, some ⟨true, [.arr [.int .u8] m d]⟩), (1, some ⟨true, [.cell (.slice ⟨2, 0, 0, 1, 0⟩ 1 n), .arr [.int .u64] 64 tg]⟩), (0, some b0)], 7)
noncomputable def mblDecR_a (v : AV) (e : Eff) (k : Nat) : Option MblR := match v, e, k with
  | .tup [.int .u64 x, .bool ok], [(6, some b6), (5, some b5), (4, some b4), (3, some b3), (2, some ⟨true, [.arr [.int .u8] m d]⟩), (1, some ⟨true, [.cell (.slice ⟨2, 0, 0, 1, 0⟩ 1 n), .arr [.int .u64] 64 tg]⟩), (0, some b0)], 7 => some (.a n tg m d b0 b3 b4 b5 b6 x ok)
  | _, _, _ => none
set_option maxRecDepth 8000 in
set_option maxHeartbeats 4000000 in
theorem mblDecR_a_ok (v : AV) (e : Eff) (k : Nat) (z : MblR) (h : mblDecR_a v e k = some z) : (v, e, k) = mblU z := by
  unfold mblDecR_a at h
  split at h
  all_goals first
    | (cases h; done)
    | (cases h; rfl)
noncomputable def mblDecR (v : AV) (e : Eff) (k : Nat) : Option MblR := mblDecR_a v e k
theorem mblDecR_ok (v : AV) (e : Eff) (k : Nat) (z : MblR) (h : mblDecR v e k = some z) : (v, e, k) = mblU z := mblDecR_a_ok _ _ _ _ h
noncomputable def mblStep : MblS → Option MblR
 | .a n tg m d c0 c1 c2 pr p1 p2 en th q u1 u2 u3 w pa size =>
 (cond (v_nowhere n pa size)
 (some (MblR.a n tg m d bus0 (bClint c0 c1 c2) (bPlic pr p1 p2 en th) (bUart q u1 u2 u3) (bPow w) (0#64) false))
 (cond (v_reg (2147483648#64) (BitVec.signExtend 64 (BitVec.ofNat 64 n)) pa size)
  none
 (cond (v_reg (33554432#64) (65536#64) pa size)
   none
 (cond (v_reg (201326592#64) (4194304#64) pa size)
    none
 (cond (v_reg (268435456#64) (256#64) pa size)
     none
 (cond (v_reg (1048576#64) (4096#64) pa size)
      none
      none))))))

/-! ### a store to nowhere -/
inductive MbsS where
  | a (n : Nat) (tg : List (List AV)) (m : Nat) (d : List (List AV)) (c0 : BitVec 64) (c1 : BitVec 64) (c2 : BitVec 64) (pr : List (List AV)) (p1 : BitVec 32) (p2 : BitVec 32) (en : List (List AV)) (th : List (List AV)) (q : List (List AV)) (u1 : BitVec 64) (u2 : BitVec 64) (u3 : Bool) (w : Bool) (pa : BitVec 64) (size : BitVec 64) (v : BitVec 64)
inductive MbsR where
  | a (n : Nat) (tg : List (List AV)) (m : Nat) (d : List (List AV)) (b0 : Blk) (b3 : Blk) (b4 : Blk) (b5 : Blk) (b6 : Blk) (ok : Bool)
noncomputable def mbsA : MbsS → List AV
  | .a _ _ _ _ _ _ _ _ _ _ _ _ _ _ _ _ _ pa size v => [.ptr ⟨0, 0, 0, 0, 0⟩, .int .u64 pa, .int .i64 size, .int .u64 v]
noncomputable def mbsH : MbsS → Heap
  | .a n tg m d c0 c1 c2 pr p1 p2 en th q u1 u2 u3 w _ _ _ => [(0, bus0), (1, ⟨true, [.cell (.slice ⟨2, 0, 0, 1, 0⟩ 1 n), .arr [.int .u64] 64 tg]⟩), (2, ⟨true, [.arr [.int .u8] m d]⟩), (3, (bClint c0 c1 c2)), (4, (bPlic pr p1 p2 en th)), (5, (bUart q u1 u2 u3)), (6, (bPow w))]
noncomputable def mbsDec (args : List AV) (H : Heap) : Option MbsS := match args, H with
  | [.ptr ⟨0, 0, 0, 0, 0⟩, .int .u64 pa, .int .i64 size, .int .u64 v], [(0, b0), (1, ⟨true, [.cell (.slice ⟨2, 0, 0, 1, 0⟩ 1 n), .arr [.int .u64] 64 tg]⟩), (2, ⟨true, [.arr [.int .u8] m d]⟩), (3, b3), (4, b4), (5, b5), (6, b6)] => (dBus0 b0).bind fun _ => (dClint b3).bind fun (c0, c1, c2) => (dPlic b4).bind fun (pr, p1, p2, en, th) => (dUart b5).bind fun (q, u1, u2, u3) => (dPow b6).bind fun w => bif v_nowhere n pa size then some (.a n tg m d c0 c1 c2 pr p1 p2 en th q u1 u2 u3 w pa size v) else none
  | _, _ => none
theorem mbsDec_ok (args : List AV) (H : Heap) (x : MbsS) (h : mbsDec args H = some x) : args = mbsA x ∧ H = mbsH x := by
  unfold mbsDec at h
  split at h
  · obtain ⟨u_, e0, h⟩ := Option.bind_eq_some_iff.1 h
    obtain ⟨⟨c0, c1, c2⟩, e3, h⟩ := Option.bind_eq_some_iff.1 h
    obtain ⟨⟨pr, p1, p2, en, th⟩, e4, h⟩ := Option.bind_eq_some_iff.1 h
    obtain ⟨⟨q, u1, u2, u3⟩, e5, h⟩ := Option.bind_eq_some_iff.1 h
    obtain ⟨w, e6, h⟩ := Option.bind_eq_some_iff.1 h
    obtain rfl := dBus0_ok e0
    obtain rfl := dClint_ok e3
    obtain rfl := dPlic_ok e4
    obtain rfl := dUart_ok e5
    obtain rfl := dPow_ok e6
    have h := whenO h; cases h; exact ⟨rfl, rfl⟩
  · cases h
noncomputable def mbsU : MbsR → AV × Eff × Nat
  | .a n tg m d b0 b3 b4 b5 b6 ok => (.bool ok, [(6, some b6), (5, some b5), (4, some b4), (3, some b3), (2, some ⟨true, [.arr [.int .u8] m d]⟩), (1, some ⟨true, [.cell (.slice ⟨2, 0, 0, 1, 0⟩ 1 n), .arr [.int .u64] 64 tg]⟩), (0, some b0)], 7)
noncomputable def mbsDecR_a (v : AV) (e : Eff) (k : Nat) : Option MbsR := match v, e, k with
  | .bool ok, [(6, some b6), (5, some b5), (4, some b4), (3, some b3), (2, some ⟨true, [.arr [.int .u8] m d]⟩), (1, some ⟨true, [.cell (.slice ⟨2, 0, 0, 1, 0⟩ 1 n), .arr [.int .u64] 64 tg]⟩), (0, some b0)], 7 => some (.a n tg m d b0 b3 b4 b5 b6 ok)
  | _, _, _ => none
set_option maxRecDepth 8000 in
set_option maxHeartbeats 4000000 in
theorem mbsDecR_a_ok (v : AV) (e : Eff) (k : Nat) (z : MbsR) (h : mbsDecR_a v e k = some z) : (v, e, k) = mbsU z := by
  unfold mbsDecR_a at h
  split at h
  all_goals first
    | (cases h; done)
    | (cases h; rfl)
noncomputable def mbsDecR (v : AV) (e : Eff) (k : Nat) : Option MbsR := mbsDecR_a v e k
theorem mbsDecR_ok (v : AV) (e : Eff) (k : Nat) (z : MbsR) (h : mbsDecR v e k = some z) : (v, e, k) = mbsU z := mbsDecR_a_ok _ _ _ _ h
noncomputable def mbsStep : MbsS → Option MbsR
 | .a n tg m d c0 c1 c2 pr p1 p2 en th q u1 u2 u3 w pa size _ =>
 (cond (v_nowhere n pa size)
 (some (MbsR.a n tg m d bus0 (bClint c0 c1 c2) (bPlic pr p1 p2 en th) (bUart q u1 u2 u3) (bPow w) false))
 (cond (v_reg (2147483648#64) (BitVec.signExtend 64 (BitVec.ofNat 64 n)) pa size)
  none
 (cond (v_reg (33554432#64) (65536#64) pa size)
   none
 (cond (v_reg (201326592#64) (4194304#64) pa size)
    none
 (cond (v_reg (268435456#64) (256#64) pa size)
     none
 (cond (v_reg (1048576#64) (4096#64) pa size)
      none
      none))))))

/-! ### a new bus -/
inductive MbnS where
  | a (n : BitVec 64)
inductive MbnR where
  | a (nn : Nat) (tg : List (List AV)) (m : Nat) (d : List (List AV)) (b0 : Blk) (b3 : Blk) (b4 : Blk) (b5 : Blk) (b6 : Blk) (e : BitVec 64)
noncomputable def mbnA : MbnS → List AV
  | .a n => [.int .i64 n]
noncomputable def mbnH : MbnS → Heap
  | .a _ => []
noncomputable def mbnDec (args : List AV) (H : Heap) : Option MbnS := match args, H with
  | [.int .i64 n], [] => bif n == 4096#64 then some (.a n) else none
  | _, _ => none
theorem mbnDec_ok (args : List AV) (H : Heap) (x : MbnS) (h : mbnDec args H = some x) : args = mbnA x ∧ H = mbnH x := by
  unfold mbnDec at h
  split at h
  all_goals first
    | (cases h; done)
    | (cases h; exact ⟨rfl, rfl⟩)
    | (have h := whenO h; cases h; exact ⟨rfl, rfl⟩)
noncomputable def mbnU : MbnR → AV × Eff × Nat
  | .a nn tg m d b0 b3 b4 b5 b6 e => (.tup [.ptr ⟨0, 0, 0, 0, 0⟩, .int .i64 e], [(0, some b0), (6, some b6), (5, some b5), (4, some b4), (3, some b3), (2, some ⟨true, [.arr [.int .u8] m d]⟩), (1, some ⟨true, [.cell (.slice ⟨2, 0, 0, 1, 0⟩ 1 nn), .arr [.int .u64] 64 tg]⟩)], 7)
noncomputable def mbnDecR_a (v : AV) (e : Eff) (k : Nat) : Option MbnR := match v, e, k with
  | .tup [.ptr ⟨0, 0, 0, 0, 0⟩, .int .i64 e], [(0, some b0), (6, some b6), (5, some b5), (4, some b4), (3, some b3), (2, some ⟨true, [.arr [.int .u8] m d]⟩), (1, some ⟨true, [.cell (.slice ⟨2, 0, 0, 1, 0⟩ 1 nn), .arr [.int .u64] 64 tg]⟩)], 7 => some (.a nn tg m d b0 b3 b4 b5 b6 e)
  | _, _, _ => none
theorem mbnDecR_a_ok (v : AV) (e : Eff) (k : Nat) (z : MbnR) (h : mbnDecR_a v e k = some z) : (v, e, k) = mbnU z := by
  unfold mbnDecR_a at h
  split at h
  all_goals first
    | (cases h; done)
    | (cases h; rfl)
noncomputable def mbnDecR (v : AV) (e : Eff) (k : Nat) : Option MbnR := mbnDecR_a v e k
theorem mbnDecR_ok (v : AV) (e : Eff) (k : Nat) (z : MbnR) (h : mbnDecR v e k = some z) : (v, e, k) = mbnU z := mbnDecR_a_ok _ _ _ _ h
noncomputable def mbnStep : MbnS → Option MbnR
 | .a n =>
 (cond (n.slt 4096#64)
 none
 (cond ((65536#64).slt n)
  none
 (cond (!n.srem 4096#64 == 0#64)
   none
 (cond (nonneg IntKind.i64 n && nonneg IntKind.i64 n && decide (n.toNat = n.toNat) && decide (1 * n.toNat ≤ 140737488355328))
 (some (MbnR.a n.toNat zT n.toNat (zB n.toNat) bus0 { rw := true, segs := bif true then [Seg.cell (AV.int IntKind.u64 0#64), Seg.cell (AV.int IntKind.u64 18446744073709551615#64), Seg.cell (AV.int IntKind.u64 0#64)] else [] } { rw := true, segs := bif true then [Seg.arr [CK.int IntKind.u32] 32 [[AV.int IntKind.u32 0#32], [AV.int IntKind.u32 0#32], [AV.int IntKind.u32 0#32], [AV.int IntKind.u32 0#32], [AV.int IntKind.u32 0#32], [AV.int IntKind.u32 0#32], [AV.int IntKind.u32 0#32], [AV.int IntKind.u32 0#32], [AV.int IntKind.u32 0#32], [AV.int IntKind.u32 0#32], [AV.int IntKind.u32 0#32], [AV.int IntKind.u32 0#32], [AV.int IntKind.u32 0#32], [AV.int IntKind.u32 0#32], [AV.int IntKind.u32 0#32], [AV.int IntKind.u32 0#32], [AV.int IntKind.u32 0#32], [AV.int IntKind.u32 0#32], [AV.int IntKind.u32 0#32], [AV.int IntKind.u32 0#32], [AV.int IntKind.u32 0#32], [AV.int IntKind.u32 0#32], [AV.int IntKind.u32 0#32], [AV.int IntKind.u32 0#32], [AV.int IntKind.u32 0#32], [AV.int IntKind.u32 0#32], [AV.int IntKind.u32 0#32], [AV.int IntKind.u32 0#32], [AV.int IntKind.u32 0#32], [AV.int IntKind.u32 0#32], [AV.int IntKind.u32 0#32], [AV.int IntKind.u32 0#32]], Seg.cell (AV.int IntKind.u32 0#32), Seg.cell (AV.int IntKind.u32 0#32), Seg.arr [CK.int IntKind.u32] 2 [[AV.int IntKind.u32 0#32], [AV.int IntKind.u32 0#32]], Seg.arr [CK.int IntKind.u32] 2 [[AV.int IntKind.u32 0#32], [AV.int IntKind.u32 0#32]]] else [] } { rw := true, segs := bif true then [Seg.arr [CK.int IntKind.u8] 16 [[AV.int IntKind.u8 0#8], [AV.int IntKind.u8 0#8], [AV.int IntKind.u8 0#8], [AV.int IntKind.u8 0#8], [AV.int IntKind.u8 0#8], [AV.int IntKind.u8 0#8], [AV.int IntKind.u8 0#8], [AV.int IntKind.u8 0#8], [AV.int IntKind.u8 0#8], [AV.int IntKind.u8 0#8], [AV.int IntKind.u8 0#8], [AV.int IntKind.u8 0#8], [AV.int IntKind.u8 0#8], [AV.int IntKind.u8 0#8], [AV.int IntKind.u8 0#8], [AV.int IntKind.u8 0#8]], Seg.cell (AV.int IntKind.i64 0#64), Seg.cell (AV.int IntKind.i64 0#64), Seg.cell (AV.bool false), Seg.cell AV.nilslice] else [] } { rw := true, segs := bif true then [Seg.cell (AV.bool false)] else [] } 0#64))
    none))))
end Go.Sx

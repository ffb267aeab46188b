/- What loops do, round by round. -/
import Derived.Test.YtkbcfbehebbmhaaGreatSxX
import Derived.Test.YtkbcfbehebbmhaaGreatSxLen2
import Derived.Test.YtkbcfbehebbmhaaGreatSxEC
import Derived.Test.YtkbcfbehebbmhaaGreatVa03
import Derived.Test.YtkbcfbehebbmhaaGreatPlRamR
set_option linter.unusedSimpArgs false
set_option linter.unusedVariables false
set_option linter.unnecessarySimpa false
namespace Go.Sx
open Go

/-! ### are bytes in a region? -/
inductive MboS where
  | r (n : Nat) (tg : List (List AV)) (m : Nat) (d : List (List AV)) (t2 : Nat) (bg : BitVec 64) (sz : BitVec 64) (pa : BitVec 64) (size : BitVec 64)
  | c (c0 : BitVec 64) (c1 : BitVec 64) (c2 : BitVec 64) (t2 : Nat) (bg : BitVec 64) (sz : BitVec 64) (pa : BitVec 64) (size : BitVec 64)
  | p (pr : List (List AV)) (p1 : BitVec 32) (p2 : BitVec 32) (en : List (List AV)) (th : List (List AV)) (t2 : Nat) (bg : BitVec 64) (sz : BitVec 64) (pa : BitVec 64) (size : BitVec 64)
  | u (q : List (List AV)) (u1 : BitVec 64) (u2 : BitVec 64) (u3 : Bool) (t2 : Nat) (bg : BitVec 64) (sz : BitVec 64) (pa : BitVec 64) (size : BitVec 64)
  | w (w : Bool) (t2 : Nat) (bg : BitVec 64) (sz : BitVec 64) (pa : BitVec 64) (size : BitVec 64)
inductive MboR where
  | r (n : Nat) (tg : List (List AV)) (m : Nat) (d : List (List AV)) (off : BitVec 64) (ok : Bool)
  | c (c0 : BitVec 64) (c1 : BitVec 64) (c2 : BitVec 64) (off : BitVec 64) (ok : Bool)
  | p (pr : List (List AV)) (p1 : BitVec 32) (p2 : BitVec 32) (en : List (List AV)) (th : List (List AV)) (off : BitVec 64) (ok : Bool)
  | u (q : List (List AV)) (u1 : BitVec 64) (u2 : BitVec 64) (u3 : Bool) (off : BitVec 64) (ok : Bool)
  | w (w : Bool) (off : BitVec 64) (ok : Bool)
def mboA : MboS → List AV
  | .r _ _ _ _ t2 bg sz pa size => [.agg [.iface t2 (.ptr ⟨0, 0, 0, 0, 0⟩), .int .u64 bg, .int .u64 sz], .int .u64 pa, .int .i64 size]
  | .c _ _ _ t2 bg sz pa size => [.agg [.iface t2 (.ptr ⟨0, 0, 0, 0, 0⟩), .int .u64 bg, .int .u64 sz], .int .u64 pa, .int .i64 size]
  | .p _ _ _ _ _ t2 bg sz pa size => [.agg [.iface t2 (.ptr ⟨0, 0, 0, 0, 0⟩), .int .u64 bg, .int .u64 sz], .int .u64 pa, .int .i64 size]
  | .u _ _ _ _ t2 bg sz pa size => [.agg [.iface t2 (.ptr ⟨0, 0, 0, 0, 0⟩), .int .u64 bg, .int .u64 sz], .int .u64 pa, .int .i64 size]
  | .w _ t2 bg sz pa size => [.agg [.iface t2 (.ptr ⟨0, 0, 0, 0, 0⟩), .int .u64 bg, .int .u64 sz], .int .u64 pa, .int .i64 size]
def mboH : MboS → Heap
  | .r n tg m d _ _ _ _ _ => [(0, ⟨true, [.cell (.slice ⟨1, 0, 0, 1, 0⟩ 1 n), .arr [.int .u64] 64 tg]⟩), (1, ⟨true, [.arr [.int .u8] m d]⟩)]
  | .c c0 c1 c2 _ _ _ _ _ => [(0, ⟨true, [.cell (.int .u64 c0), .cell (.int .u64 c1), .cell (.int .u64 c2)]⟩)]
  | .p pr p1 p2 en th _ _ _ _ _ => [(0, ⟨true, [.arr [.int .u32] 32 pr, .cell (.int .u32 p1), .cell (.int .u32 p2), .arr [.int .u32] 2 en, .arr [.int .u32] 2 th]⟩)]
  | .u q u1 u2 u3 _ _ _ _ _ => [(0, ⟨true, [.arr [.int .u8] 16 q, .cell (.int .i64 u1), .cell (.int .i64 u2), .cell (.bool u3), .cell .nilslice]⟩)]
  | .w w _ _ _ _ _ => [(0, ⟨true, [.cell (.bool w)]⟩)]
def mboDec (args : List AV) (H : Heap) : Option MboS := match args, H with
  | [.agg [.iface t2 (.ptr ⟨0, 0, 0, 0, 0⟩), .int .u64 bg, .int .u64 sz], .int .u64 pa, .int .i64 size], [(0, ⟨true, [.cell (.slice ⟨1, 0, 0, 1, 0⟩ 1 n), .arr [.int .u64] 64 tg]⟩), (1, ⟨true, [.arr [.int .u8] m d]⟩)] => some (.r n tg m d t2 bg sz pa size)
  | [.agg [.iface t2 (.ptr ⟨0, 0, 0, 0, 0⟩), .int .u64 bg, .int .u64 sz], .int .u64 pa, .int .i64 size], [(0, ⟨true, [.cell (.int .u64 c0), .cell (.int .u64 c1), .cell (.int .u64 c2)]⟩)] => some (.c c0 c1 c2 t2 bg sz pa size)
  | [.agg [.iface t2 (.ptr ⟨0, 0, 0, 0, 0⟩), .int .u64 bg, .int .u64 sz], .int .u64 pa, .int .i64 size], [(0, ⟨true, [.arr [.int .u32] 32 pr, .cell (.int .u32 p1), .cell (.int .u32 p2), .arr [.int .u32] 2 en, .arr [.int .u32] 2 th]⟩)] => some (.p pr p1 p2 en th t2 bg sz pa size)
  | [.agg [.iface t2 (.ptr ⟨0, 0, 0, 0, 0⟩), .int .u64 bg, .int .u64 sz], .int .u64 pa, .int .i64 size], [(0, ⟨true, [.arr [.int .u8] 16 q, .cell (.int .i64 u1), .cell (.int .i64 u2), .cell (.bool u3), .cell .nilslice]⟩)] => some (.u q u1 u2 u3 t2 bg sz pa size)
  | [.agg [.iface t2 (.ptr ⟨0, 0, 0, 0, 0⟩), .int .u64 bg, .int .u64 sz], .int .u64 pa, .int .i64 size], [(0, ⟨true, [.cell (.bool w)]⟩)] => some (.w w t2 bg sz pa size)
  | _, _ => none
theorem mboDec_ok (args : List AV) (H : Heap) (x : MboS) (h : mboDec args H = some x) : args = mboA x ∧ H = mboH x := by
  unfold mboDec at h
  split at h
  all_goals first
    | (cases h; done)
    | (cases h; exact ⟨rfl, rfl⟩)
def mboU : MboR → AV × Eff × Nat
  | .r n tg m d off ok => (.tup [.int .i64 off, .bool ok], [(1, some ⟨true, [.arr [.int .u8] m d]⟩), (0, some ⟨true, [.cell (.slice ⟨1, 0, 0, 1, 0⟩ 1 n), .arr [.int .u64] 64 tg]⟩)], 2)
  | .c c0 c1 c2 off ok => (.tup [.int .i64 off, .bool ok], [(0, some ⟨true, [.cell (.int .u64 c0), .cell (.int .u64 c1), .cell (.int .u64 c2)]⟩)], 1)
  | .p pr p1 p2 en th off ok => (.tup [.int .i64 off, .bool ok], [(0, some ⟨true, [.arr [.int .u32] 32 pr, .cell (.int .u32 p1), .cell (.int .u32 p2), .arr [.int .u32] 2 en, .arr [.int .u32] 2 th]⟩)], 1)
  | .u q u1 u2 u3 off ok => (.tup [.int .i64 off, .bool ok], [(0, some ⟨true, [.arr [.int .u8] 16 q, .cell (.int .i64 u1), .cell (.int .i64 u2), .cell (.bool u3), .cell .nilslice]⟩)], 1)
  | .w w off ok => (.tup [.int .i64 off, .bool ok], [(0, some ⟨true, [.cell (.bool w)]⟩)], 1)
def mboDecR (v : AV) (e : Eff) (k : Nat) : Option MboR := match v, e, k with
  | .tup [.int .i64 off, .bool ok], [(1, some ⟨true, [.arr [.int .u8] m d]⟩), (0, some ⟨true, [.cell (.slice ⟨1, 0, 0, 1, 0⟩ 1 n), .arr [.int .u64] 64 tg]⟩)], 2 => some (.r n tg m d off ok)
  | .tup [.int .i64 off, .bool ok], [(0, some ⟨true, [.cell (.int .u64 c0), .cell (.int .u64 c1), .cell (.int .u64 c2)]⟩)], 1 => some (.c c0 c1 c2 off ok)
  | .tup [.int .i64 off, .bool ok], [(0, some ⟨true, [.arr [.int .u32] 32 pr, .cell (.int .u32 p1), .cell (.int .u32 p2), .arr [.int .u32] 2 en, .arr [.int .u32] 2 th]⟩)], 1 => some (.p pr p1 p2 en th off ok)
  | .tup [.int .i64 off, .bool ok], [(0, some ⟨true, [.arr [.int .u8] 16 q, .cell (.int .i64 u1), .cell (.int .i64 u2), .cell (.bool u3), .cell .nilslice]⟩)], 1 => some (.u q u1 u2 u3 off ok)
  | .tup [.int .i64 off, .bool ok], [(0, some ⟨true, [.cell (.bool w)]⟩)], 1 => some (.w w off ok)
  | _, _, _ => none
theorem mboDecR_ok (v : AV) (e : Eff) (k : Nat) (z : MboR) (h : mboDecR v e k = some z) : (v, e, k) = mboU z := by
  unfold mboDecR at h
  split at h
  all_goals first
    | (cases h; done)
    | (cases h; rfl)
noncomputable def mboStep : MboS → Option MboR
 | .r n tg m d _ bg sz pa size =>
 (cond (bg.ule pa)
 (cond ((0#64).sle size)
 (cond ((pa - bg).ule sz)
 (some (MboR.r n tg m d (BitVec.setWidth 64 (pa - bg)) ((BitVec.signExtend 64 size).ule (sz - (pa - bg)))))
 (some (MboR.r n tg m d (BitVec.setWidth 64 (pa - bg)) false)))
 (some (MboR.r n tg m d (BitVec.setWidth 64 (pa - bg)) false)))
 (some (MboR.r n tg m d (BitVec.setWidth 64 (pa - bg)) false)))
 | .c c0 c1 c2 _ bg sz pa size =>
 (cond (bg.ule pa)
 (cond ((0#64).sle size)
 (cond ((pa - bg).ule sz)
 (some (MboR.c c0 c1 c2 (BitVec.setWidth 64 (pa - bg)) ((BitVec.signExtend 64 size).ule (sz - (pa - bg)))))
 (some (MboR.c c0 c1 c2 (BitVec.setWidth 64 (pa - bg)) false)))
 (some (MboR.c c0 c1 c2 (BitVec.setWidth 64 (pa - bg)) false)))
 (some (MboR.c c0 c1 c2 (BitVec.setWidth 64 (pa - bg)) false)))
 | .p pr p1 p2 en th _ bg sz pa size =>
 (cond (bg.ule pa)
 (cond ((0#64).sle size)
 (cond ((pa - bg).ule sz)
 (some (MboR.p pr p1 p2 en th (BitVec.setWidth 64 (pa - bg)) ((BitVec.signExtend 64 size).ule (sz - (pa - bg)))))
 (some (MboR.p pr p1 p2 en th (BitVec.setWidth 64 (pa - bg)) false)))
 (some (MboR.p pr p1 p2 en th (BitVec.setWidth 64 (pa - bg)) false)))
 (some (MboR.p pr p1 p2 en th (BitVec.setWidth 64 (pa - bg)) false)))
 | .u q u1 u2 u3 _ bg sz pa size =>
 (cond (bg.ule pa)
 (cond ((0#64).sle size)
 (cond ((pa - bg).ule sz)
 (some (MboR.u q u1 u2 u3 (BitVec.setWidth 64 (pa - bg)) ((BitVec.signExtend 64 size).ule (sz - (pa - bg)))))
 (some (MboR.u q u1 u2 u3 (BitVec.setWidth 64 (pa - bg)) false)))
 (some (MboR.u q u1 u2 u3 (BitVec.setWidth 64 (pa - bg)) false)))
 (some (MboR.u q u1 u2 u3 (BitVec.setWidth 64 (pa - bg)) false)))
 | .w w _ bg sz pa size =>
 (cond (bg.ule pa)
 (cond ((0#64).sle size)
 (cond ((pa - bg).ule sz)
 (some (MboR.w w (BitVec.setWidth 64 (pa - bg)) ((BitVec.signExtend 64 size).ule (sz - (pa - bg)))))
 (some (MboR.w w (BitVec.setWidth 64 (pa - bg)) false)))
 (some (MboR.w w (BitVec.setWidth 64 (pa - bg)) false)))
 (some (MboR.w w (BitVec.setWidth 64 (pa - bg)) false)))
end Go.Sx

/- What loops do, round by round. -/
import Derived.Test.YtkniemlelilbdaaSxX
import Derived.Test.YtkniemlelilbdaaSxLen2
import Derived.Test.YtkniemlelilbdaaSxEC
import Derived.Test.YtkniemlelilbdaaVa03
import Derived.Test.YtkniemlelilbdaaPlBusO
import Derived.Test.YtkniemlelilbdaaPlBusB
set_option linter.unusedSimpArgs false
set_option linter.unusedVariables false
set_option linter.unnecessarySimpa false
namespace Go.Sx
open Go

/-! ### the region that bytes are in -/
inductive MbfS where
  | a (n : Nat) (tg : List (List AV)) (m : Nat) (d : List (List AV)) (c0 : BitVec 64) (c1 : BitVec 64) (c2 : BitVec 64) (pr : List (List AV)) (p1 : BitVec 32) (p2 : BitVec 32) (en : List (List AV)) (th : List (List AV)) (q : List (List AV)) (u1 : BitVec 64) (u2 : BitVec 64) (u3 : Bool) (w : Bool) (pa : BitVec 64) (size : BitVec 64)
inductive MbfR where
  | z (n : Nat) (tg : List (List AV)) (m : Nat) (d : List (List AV)) (b0 : Blk) (b3 : Blk) (b4 : Blk) (b5 : Blk) (b6 : Blk) (off : BitVec 64)
  | d (n : Nat) (tg : List (List AV)) (m : Nat) (d : List (List AV)) (b0 : Blk) (b3 : Blk) (b4 : Blk) (b5 : Blk) (b6 : Blk) (t1 : Nat) (t2 : Nat) (xx : Nat) (bg : BitVec 64) (sz : BitVec 64) (off : BitVec 64)
noncomputable def mbfA : MbfS → List AV
  | .a _ _ _ _ _ _ _ _ _ _ _ _ _ _ _ _ _ pa size => [.ptr ⟨0, 0, 0, 0, 0⟩, .int .u64 pa, .int .i64 size]
noncomputable def mbfH : MbfS → Heap
  | .a n tg m d c0 c1 c2 pr p1 p2 en th q u1 u2 u3 w _ _ => [(0, bus0), (1, ⟨true, [.cell (.slice ⟨2, 0, 0, 1, 0⟩ 1 n), .arr [.int .u64] 64 tg]⟩), (2, ⟨true, [.arr [.int .u8] m d]⟩), (3, (bClint c0 c1 c2)), (4, (bPlic pr p1 p2 en th)), (5, (bUart q u1 u2 u3)), (6, (bPow w))]
noncomputable def mbfDec (args : List AV) (H : Heap) : Option MbfS := match args, H with
  | [.ptr ⟨0, 0, 0, 0, 0⟩, .int .u64 pa, .int .i64 size], [(0, b0), (1, ⟨true, [.cell (.slice ⟨2, 0, 0, 1, 0⟩ 1 n), .arr [.int .u64] 64 tg]⟩), (2, ⟨true, [.arr [.int .u8] m d]⟩), (3, b3), (4, b4), (5, b5), (6, b6)] => (dBus0 b0).bind fun _ => (dClint b3).bind fun (c0, c1, c2) => (dPlic b4).bind fun (pr, p1, p2, en, th) => (dUart b5).bind fun (q, u1, u2, u3) => (dPow b6).bind fun w => some (.a n tg m d c0 c1 c2 pr p1 p2 en th q u1 u2 u3 w pa size)
  | _, _ => none
theorem mbfDec_ok (args : List AV) (H : Heap) (x : MbfS) (h : mbfDec args H = some x) : args = mbfA x ∧ H = mbfH x := by
  unfold mbfDec at h
  split at h
  · obtain ⟨u_, e0, h⟩ := Option.bind_eq_some_iff.1 h
    obtain ⟨⟨c0, c1, c2⟩, e3, h⟩ := Option.bind_eq_some_iff.1 h
    obtain ⟨⟨pr, p1, p2, en, th⟩, e4, h⟩ := Option.bind_eq_some_iff.1 h
    obtain ⟨⟨q, u1, u2, u3⟩, e5, h⟩ := Option.bind_eq_some_iff.1 h
    obtain ⟨w, e6, h⟩ := Option.bind_eq_some_iff.1 h
    obtain rfl := dBus0_ok e0
    obtain rfl := dClint_ok e3
    obtain rfl := dPlic_ok e4
    obtain rfl := dUart_ok e5
    obtain rfl := dPow_ok e6
    cases h; exact ⟨rfl, rfl⟩
  · cases h
noncomputable def mbfU : MbfR → AV × Eff × Nat
  | .z n tg m d b0 b3 b4 b5 b6 off => (.tup [.nilface, .int .i64 off], [(6, some b6), (5, some b5), (4, some b4), (3, some b3), (2, some ⟨true, [.arr [.int .u8] m d]⟩), (1, some ⟨true, [.cell (.slice ⟨2, 0, 0, 1, 0⟩ 1 n), .arr [.int .u64] 64 tg]⟩), (0, some b0)], 7)
  | .d n tg m d b0 b3 b4 b5 b6 t1 t2 xx bg sz off => (.tup [.iface t1 (.agg [.iface t2 (.ptr ⟨xx, 0, 0, 0, 0⟩), .int .u64 bg, .int .u64 sz]), .int .i64 off], [(6, some b6), (5, some b5), (4, some b4), (3, some b3), (2, some ⟨true, [.arr [.int .u8] m d]⟩), (1, some ⟨true, [.cell (.slice ⟨2, 0, 0, 1, 0⟩ 1 n), .arr [.int .u64] 64 tg]⟩), (0, some b0)], 7)
noncomputable def mbfDecR_z (v : AV) (e : Eff) (k : Nat) : Option MbfR := match v, e, k with
  | .tup [.nilface, .int .i64 off], [(6, some b6), (5, some b5), (4, some b4), (3, some b3), (2, some ⟨true, [.arr [.int .u8] m d]⟩), (1, some ⟨true, [.cell (.slice ⟨2, 0, 0, 1, 0⟩ 1 n), .arr [.int .u64] 64 tg]⟩), (0, some b0)], 7 => some (.z n tg m d b0 b3 b4 b5 b6 off)
  | _, _, _ => none
set_option maxRecDepth 8000 in
set_option maxHeartbeats 4000000 in
theorem mbfDecR_z_ok (v : AV) (e : Eff) (k : Nat) (z : MbfR) (h : mbfDecR_z v e k = some z) : (v, e, k) = mbfU z := by
  unfold mbfDecR_z at h
  split at h
  all_goals first
    | (cases h; done)
    | (cases h; rfl)
noncomputable def mbfDecR_d (v : AV) (e : Eff) (k : Nat) : Option MbfR := match v, e, k with
  | .tup [.iface t1 (.agg [.iface t2 (.ptr ⟨xx, 0, 0, 0, 0⟩), .int .u64 bg, .int .u64 sz]), .int .i64 off], [(6, some b6), (5, some b5), (4, some b4), (3, some b3), (2, some ⟨true, [.arr [.int .u8] m d]⟩), (1, some ⟨true, [.cell (.slice ⟨2, 0, 0, 1, 0⟩ 1 n), .arr [.int .u64] 64 tg]⟩), (0, some b0)], 7 => some (.d n tg m d b0 b3 b4 b5 b6 t1 t2 xx bg sz off)
  | _, _, _ => none
set_option maxRecDepth 8000 in
set_option maxHeartbeats 4000000 in
theorem mbfDecR_d_ok (v : AV) (e : Eff) (k : Nat) (z : MbfR) (h : mbfDecR_d v e k = some z) : (v, e, k) = mbfU z := by
  unfold mbfDecR_d at h
  split at h
  all_goals first
    | (cases h; done)
    | (cases h; rfl)
noncomputable def mbfDecR (v : AV) (e : Eff) (k : Nat) : Option MbfR := orO (mbfDecR_z v e k) (mbfDecR_d v e k)
theorem mbfDecR_ok (v : AV) (e : Eff) (k : Nat) (z : MbfR) (h : mbfDecR v e k = some z) : (v, e, k) = mbfU z := (orO_some h).elim (fun h => mbfDecR_z_ok _ _ _ _ h) (fun h => mbfDecR_d_ok _ _ _ _ h)
noncomputable def mbfStep : MbfS → Option MbfR
 | .a n tg m d c0 c1 c2 pr p1 p2 en th q u1 u2 u3 w pa size =>
 (cond (!size == 1#64)
 (cond (!size == 2#64)
 (cond (!size == 4#64)
 (cond (!size == 8#64)
 (some (MbfR.z n tg m d bus0 (bClint c0 c1 c2) (bPlic pr p1 p2 en th) (bUart q u1 u2 u3) (bPow w) 0#64))
 (cond (v_reg (2147483648#64) (BitVec.signExtend 64 (BitVec.ofNat 64 n)) pa size)
 (some (MbfR.d n tg m d bus0 (bClint c0 c1 c2) (bPlic pr p1 p2 en th) (bUart q u1 u2 u3) (bPow w) 69 34 (bif Nat.blt 1 7 then 1 else 7) (2147483648#64) (BitVec.signExtend 64 (BitVec.ofNat 64 n)) (pa - 2147483648#64)))
 (cond (v_reg (33554432#64) (65536#64) pa size)
 (some (MbfR.d n tg m d bus0 (bClint c0 c1 c2) (bPlic pr p1 p2 en th) (bUart q u1 u2 u3) (bPow w) 69 35 (bif Nat.blt 3 7 then 3 else 7) (33554432#64) (65536#64) (pa - 33554432#64)))
 (cond (v_reg (201326592#64) (4194304#64) pa size)
 (some (MbfR.d n tg m d bus0 (bClint c0 c1 c2) (bPlic pr p1 p2 en th) (bUart q u1 u2 u3) (bPow w) 69 36 (bif Nat.blt 4 7 then 4 else 7) (201326592#64) (4194304#64) (pa - 201326592#64)))
 (cond (v_reg (268435456#64) (256#64) pa size)
 (some (MbfR.d n tg m d bus0 (bClint c0 c1 c2) (bPlic pr p1 p2 en th) (bUart q u1 u2 u3) (bPow w) 69 37 (bif Nat.blt 5 7 then 5 else 7) (268435456#64) (256#64) (pa - 268435456#64)))
 (cond (v_reg (1048576#64) (4096#64) pa size)
 (some (MbfR.d n tg m d bus0 (bClint c0 c1 c2) (bPlic pr p1 p2 en th) (bUart q u1 u2 u3) (bPow w) 69 38 (bif Nat.blt 6 7 then 6 else 7) (1048576#64) (4096#64) (pa - 1048576#64)))
 (some (MbfR.z n tg m d bus0 (bClint c0 c1 c2) (bPlic pr p1 p2 en th) (bUart q u1 u2 u3) (bPow w) 0#64))))))))
 (cond (v_reg (2147483648#64) (BitVec.signExtend 64 (BitVec.ofNat 64 n)) pa size)
 (some (MbfR.d n tg m d bus0 (bClint c0 c1 c2) (bPlic pr p1 p2 en th) (bUart q u1 u2 u3) (bPow w) 69 34 (bif Nat.blt 1 7 then 1 else 7) (2147483648#64) (BitVec.signExtend 64 (BitVec.ofNat 64 n)) (pa - 2147483648#64)))
 (cond (v_reg (33554432#64) (65536#64) pa size)
 (some (MbfR.d n tg m d bus0 (bClint c0 c1 c2) (bPlic pr p1 p2 en th) (bUart q u1 u2 u3) (bPow w) 69 35 (bif Nat.blt 3 7 then 3 else 7) (33554432#64) (65536#64) (pa - 33554432#64)))
 (cond (v_reg (201326592#64) (4194304#64) pa size)
 (some (MbfR.d n tg m d bus0 (bClint c0 c1 c2) (bPlic pr p1 p2 en th) (bUart q u1 u2 u3) (bPow w) 69 36 (bif Nat.blt 4 7 then 4 else 7) (201326592#64) (4194304#64) (pa - 201326592#64)))
 (cond (v_reg (268435456#64) (256#64) pa size)
 (some (MbfR.d n tg m d bus0 (bClint c0 c1 c2) (bPlic pr p1 p2 en th) (bUart q u1 u2 u3) (bPow w) 69 37 (bif Nat.blt 5 7 then 5 else 7) (268435456#64) (256#64) (pa - 268435456#64)))
 (cond (v_reg (1048576#64) (4096#64) pa size)
 (some (MbfR.d n tg m d bus0 (bClint c0 c1 c2) (bPlic pr p1 p2 en th) (bUart q u1 u2 u3) (bPow w) 69 38 (bif Nat.blt 6 7 then 6 else 7) (1048576#64) (4096#64) (pa - 1048576#64)))
 (some (MbfR.z n tg m d bus0 (bClint c0 c1 c2) (bPlic pr p1 p2 en th) (bUart q u1 u2 u3) (bPow w) 0#64))))))))
 (cond (v_reg (2147483648#64) (BitVec.signExtend 64 (BitVec.ofNat 64 n)) pa size)
 (some (MbfR.d n tg m d bus0 (bClint c0 c1 c2) (bPlic pr p1 p2 en th) (bUart q u1 u2 u3) (bPow w) 69 34 (bif Nat.blt 1 7 then 1 else 7) (2147483648#64) (BitVec.signExtend 64 (BitVec.ofNat 64 n)) (pa - 2147483648#64)))
 (cond (v_reg (33554432#64) (65536#64) pa size)
 (some (MbfR.d n tg m d bus0 (bClint c0 c1 c2) (bPlic pr p1 p2 en th) (bUart q u1 u2 u3) (bPow w) 69 35 (bif Nat.blt 3 7 then 3 else 7) (33554432#64) (65536#64) (pa - 33554432#64)))
 (cond (v_reg (201326592#64) (4194304#64) pa size)
 (some (MbfR.d n tg m d bus0 (bClint c0 c1 c2) (bPlic pr p1 p2 en th) (bUart q u1 u2 u3) (bPow w) 69 36 (bif Nat.blt 4 7 then 4 else 7) (201326592#64) (4194304#64) (pa - 201326592#64)))
 (cond (v_reg (268435456#64) (256#64) pa size)
 (some (MbfR.d n tg m d bus0 (bClint c0 c1 c2) (bPlic pr p1 p2 en th) (bUart q u1 u2 u3) (bPow w) 69 37 (bif Nat.blt 5 7 then 5 else 7) (268435456#64) (256#64) (pa - 268435456#64)))
 (cond (v_reg (1048576#64) (4096#64) pa size)
 (some (MbfR.d n tg m d bus0 (bClint c0 c1 c2) (bPlic pr p1 p2 en th) (bUart q u1 u2 u3) (bPow w) 69 38 (bif Nat.blt 6 7 then 6 else 7) (1048576#64) (4096#64) (pa - 1048576#64)))
 (some (MbfR.z n tg m d bus0 (bClint c0 c1 c2) (bPlic pr p1 p2 en th) (bUart q u1 u2 u3) (bPow w) 0#64))))))))
 (cond (v_reg (2147483648#64) (BitVec.signExtend 64 (BitVec.ofNat 64 n)) pa size)
 (some (MbfR.d n tg m d bus0 (bClint c0 c1 c2) (bPlic pr p1 p2 en th) (bUart q u1 u2 u3) (bPow w) 69 34 (bif Nat.blt 1 7 then 1 else 7) (2147483648#64) (BitVec.signExtend 64 (BitVec.ofNat 64 n)) (pa - 2147483648#64)))
 (cond (v_reg (33554432#64) (65536#64) pa size)
 (some (MbfR.d n tg m d bus0 (bClint c0 c1 c2) (bPlic pr p1 p2 en th) (bUart q u1 u2 u3) (bPow w) 69 35 (bif Nat.blt 3 7 then 3 else 7) (33554432#64) (65536#64) (pa - 33554432#64)))
 (cond (v_reg (201326592#64) (4194304#64) pa size)
 (some (MbfR.d n tg m d bus0 (bClint c0 c1 c2) (bPlic pr p1 p2 en th) (bUart q u1 u2 u3) (bPow w) 69 36 (bif Nat.blt 4 7 then 4 else 7) (201326592#64) (4194304#64) (pa - 201326592#64)))
 (cond (v_reg (268435456#64) (256#64) pa size)
 (some (MbfR.d n tg m d bus0 (bClint c0 c1 c2) (bPlic pr p1 p2 en th) (bUart q u1 u2 u3) (bPow w) 69 37 (bif Nat.blt 5 7 then 5 else 7) (268435456#64) (256#64) (pa - 268435456#64)))
 (cond (v_reg (1048576#64) (4096#64) pa size)
 (some (MbfR.d n tg m d bus0 (bClint c0 c1 c2) (bPlic pr p1 p2 en th) (bUart q u1 u2 u3) (bPow w) 69 38 (bif Nat.blt 6 7 then 6 else 7) (1048576#64) (4096#64) (pa - 1048576#64)))
 (some (MbfR.z n tg m d bus0 (bClint c0 c1 c2) (bPlic pr p1 p2 en th) (bUart q u1 u2 u3) (bPow w) 0#64))))))))
end Go.Sx

/- What loops do, round by round. -/
import Derived.Test.YtkbcfbehebbmhaaSxX
import Derived.Test.YtkbcfbehebbmhaaSxLen2
import Derived.Test.YtkbcfbehebbmhaaSxEC
import Derived.Test.YtkbcfbehebbmhaaVa03
import Derived.Test.YtkbcfbehebbmhaaPlBusO
import Derived.Test.YtkbcfbehebbmhaaPlBusB2
import Derived.Test.YtkbcfbehebbmhaaPlWkL
set_option linter.unusedSimpArgs false
set_option linter.unusedVariables false
set_option linter.unnecessarySimpa false
namespace Go.Sx
open Go

/-! ### WalkAgain: what is told -/
inductive MwaS where
  | a (x0 : BitVec 64) (x1 : BitVec 64) (x2 : BitVec 64) (x3 : BitVec 64) (x4 : BitVec 64) (n : Nat) (tg : List (List AV)) (m : Nat) (d : List (List AV)) (c0 : BitVec 64) (c1 : BitVec 64) (c2 : BitVec 64) (pr : List (List AV)) (p1 : BitVec 32) (p2 : BitVec 32) (en : List (List AV)) (th : List (List AV)) (q : List (List AV)) (u1 : BitVec 64) (u2 : BitVec 64) (u3 : Bool) (w : Bool) (nz : Nat) (tgz : List (List AV)) (mz : Nat) (dz : List (List AV)) (c0z : BitVec 64) (c1z : BitVec 64) (c2z : BitVec 64) (prz : List (List AV)) (p1z : BitVec 32) (p2z : BitVec 32) (enz : List (List AV)) (thz : List (List AV)) (qz : List (List AV)) (u1z : BitVec 64) (u2z : BitVec 64) (u3z : Bool) (wz : Bool) (k : Nat) (kk : Nat) (g : List (List AV)) (y0 : BitVec 64) (y1 : BitVec 64) (y2 : BitVec 64) (y3 : BitVec 64) (why : BitVec 64) (i : BitVec 64)
inductive MwaE where
  | fine (b2 : Blk) (b3 : Blk) (b4 : Blk) (b5 : Blk) (b6 : Blk) (b7 : Blk) (b8 : Blk) (b9 : Blk) (b10 : Blk) (b11 : Blk) (b12 : Blk) (b13 : Blk) (b14 : Blk) (b15 : Blk) (b16 : Blk) (b17 : Blk) (b18 : Blk) (k : Nat) (why : BitVec 64)
def mwaT : MwaS → List AV
  | .a _ _ _ _ _ _ _ _ _ _ _ _ _ _ _ _ _ _ _ _ _ _ _ _ _ _ _ _ _ _ _ _ _ _ _ _ _ _ _ k _ _ _ _ _ _ why i => [.ptr ⟨2, 0, 0, 0, 0⟩, .ptr ⟨3, 0, 0, 0, 0⟩, .ptr ⟨10, 0, 0, 0, 0⟩, .ptr ⟨18, 0, 0, 0, 0⟩, .slice ⟨17, 0, 0, 5, 0⟩ 5 k, .int .i64 why, .int .i64 i]
def mwaH : MwaS → Heap
  | .a x0 x1 x2 x3 x4 n tg m d c0 c1 c2 pr p1 p2 en th q u1 u2 u3 w nz tgz mz dz c0z c1z c2z prz p1z p2z enz thz qz u1z u2z u3z wz _ kk g y0 y1 y2 y3 _ _ => [(2, (bAsk x0 x1 x2 x3 x4)), (3, bus3), (4, ⟨true, [.cell (.slice ⟨5, 0, 0, 1, 0⟩ 1 n), .arr [.int .u64] 64 tg]⟩), (5, ⟨true, [.arr [.int .u8] m d]⟩), (6, (bClint c0 c1 c2)), (7, (bPlic pr p1 p2 en th)), (8, (bUart q u1 u2 u3)), (9, (bPow w)), (10, bus10), (11, ⟨true, [.cell (.slice ⟨12, 0, 0, 1, 0⟩ 1 nz), .arr [.int .u64] 64 tgz]⟩), (12, ⟨true, [.arr [.int .u8] mz dz]⟩), (13, (bClint c0z c1z c2z)), (14, (bPlic prz p1z p2z enz thz)), (15, (bUart qz u1z u2z u3z)), (16, (bPow wz)), (17, ⟨true, [.arr [.int .i64, .int .i64, .int .i64, .int .u64, .int .u64] kk g]⟩), (18, (bEnt y0 y1 y2 y3))]
def mwaN : MwaS → Nat
  | .a _ _ _ _ _ _ _ _ _ _ _ _ _ _ _ _ _ _ _ _ _ _ _ _ _ _ _ _ _ _ _ _ _ _ _ _ _ _ _ _ _ _ _ _ _ _ _ _ => 19
def mwaDec_a (vs : List AV) (H : Heap) (N : Nat) : Option MwaS := match vs, H.find 2, H.find 3, H.find 4, H.find 5, H.find 6, H.find 7, H.find 8, H.find 9, H.find 10, H.find 11, H.find 12, H.find 13, H.find 14, H.find 15, H.find 16, H.find 17, H.find 18, N with
  | [.ptr ⟨2, 0, 0, 0, 0⟩, .ptr ⟨3, 0, 0, 0, 0⟩, .ptr ⟨10, 0, 0, 0, 0⟩, .ptr ⟨18, 0, 0, 0, 0⟩, .slice ⟨17, 0, 0, 5, 0⟩ 5 k, .int .i64 why, .int .i64 i], some b2, some b3, some ⟨true, [.cell (.slice ⟨5, 0, 0, 1, 0⟩ 1 n), .arr [.int .u64] 64 tg]⟩, some ⟨true, [.arr [.int .u8] m d]⟩, some b6, some b7, some b8, some b9, some b10, some ⟨true, [.cell (.slice ⟨12, 0, 0, 1, 0⟩ 1 nz), .arr [.int .u64] 64 tgz]⟩, some ⟨true, [.arr [.int .u8] mz dz]⟩, some b13, some b14, some b15, some b16, some ⟨true, [.arr [.int .i64, .int .i64, .int .i64, .int .u64, .int .u64] kk g]⟩, some b18, 19 => (dAsk b2).bind fun (x0, x1, x2, x3, x4) => (dBus3 b3).bind fun _ => (dClint b6).bind fun (c0, c1, c2) => (dPlic b7).bind fun (pr, p1, p2, en, th) => (dUart b8).bind fun (q, u1, u2, u3) => (dPow b9).bind fun w => (dBus10 b10).bind fun _ => (dClint b13).bind fun (c0z, c1z, c2z) => (dPlic b14).bind fun (prz, p1z, p2z, enz, thz) => (dUart b15).bind fun (qz, u1z, u2z, u3z) => (dPow b16).bind fun wz => (dEnt b18).bind fun (y0, y1, y2, y3) => some (.a x0 x1 x2 x3 x4 n tg m d c0 c1 c2 pr p1 p2 en th q u1 u2 u3 w nz tgz mz dz c0z c1z c2z prz p1z p2z enz thz qz u1z u2z u3z wz k kk g y0 y1 y2 y3 why i)
  | _, _, _, _, _, _, _, _, _, _, _, _, _, _, _, _, _, _, _ => none
theorem mwaDec_a_ok (vs : List AV) (H : Heap) (N : Nat) (y : MwaS) (h : mwaDec_a vs H N = some y) : vs = mwaT y ∧ (mwaH y).sub H ∧ N = mwaN y := by
  unfold mwaDec_a at h
  split at h
  · obtain ⟨⟨x0, x1, x2, x3, x4⟩, e2, h⟩ := Option.bind_eq_some_iff.1 h
    obtain ⟨u_, e3, h⟩ := Option.bind_eq_some_iff.1 h
    obtain ⟨⟨c0, c1, c2⟩, e6, h⟩ := Option.bind_eq_some_iff.1 h
    obtain ⟨⟨pr, p1, p2, en, th⟩, e7, h⟩ := Option.bind_eq_some_iff.1 h
    obtain ⟨⟨q, u1, u2, u3⟩, e8, h⟩ := Option.bind_eq_some_iff.1 h
    obtain ⟨w, e9, h⟩ := Option.bind_eq_some_iff.1 h
    obtain ⟨u_, e10, h⟩ := Option.bind_eq_some_iff.1 h
    obtain ⟨⟨c0z, c1z, c2z⟩, e13, h⟩ := Option.bind_eq_some_iff.1 h
    obtain ⟨⟨prz, p1z, p2z, enz, thz⟩, e14, h⟩ := Option.bind_eq_some_iff.1 h
    obtain ⟨⟨qz, u1z, u2z, u3z⟩, e15, h⟩ := Option.bind_eq_some_iff.1 h
    obtain ⟨wz, e16, h⟩ := Option.bind_eq_some_iff.1 h
    obtain ⟨⟨y0, y1, y2, y3⟩, e18, h⟩ := Option.bind_eq_some_iff.1 h
    obtain rfl := dAsk_ok e2
    obtain rfl := dBus3_ok e3
    obtain rfl := dClint_ok e6
    obtain rfl := dPlic_ok e7
    obtain rfl := dUart_ok e8
    obtain rfl := dPow_ok e9
    obtain rfl := dBus10_ok e10
    obtain rfl := dClint_ok e13
    obtain rfl := dPlic_ok e14
    obtain rfl := dUart_ok e15
    obtain rfl := dPow_ok e16
    obtain rfl := dEnt_ok e18
    cases h; refine ⟨rfl, ?_, rfl⟩; repeat (first | exact sub_nil | refine sub_cons (by assumption) ?_)
  · cases h
def mwaDec (vs : List AV) (H : Heap) (N : Nat) : Option MwaS := mwaDec_a vs H N
theorem mwaDec_ok (vs : List AV) (H : Heap) (N : Nat) (y : MwaS) (h : mwaDec vs H N = some y) : vs = mwaT y ∧ (mwaH y).sub H ∧ N = mwaN y := mwaDec_a_ok _ _ _ _ h
def mwaO : MwaE → Out
  | .fine _ _ _ _ _ _ _ _ _ _ _ _ _ _ _ _ _ _ _ => .exit 0
def mwaV : MwaE → List AV
  | .fine _ _ _ _ _ _ _ _ _ _ _ _ _ _ _ _ _ k why => [.ptr ⟨2, 0, 0, 0, 0⟩, .ptr ⟨3, 0, 0, 0, 0⟩, .ptr ⟨10, 0, 0, 0, 0⟩, .ptr ⟨18, 0, 0, 0, 0⟩, .slice ⟨17, 0, 0, 5, 0⟩ 5 k, .int .i64 why]
def mwaG : MwaE → Heap
  | .fine b2 b3 b4 b5 b6 b7 b8 b9 b10 b11 b12 b13 b14 b15 b16 b17 b18 _ _ => [(2, b2), (3, b3), (4, b4), (5, b5), (6, b6), (7, b7), (8, b8), (9, b9), (10, b10), (11, b11), (12, b12), (13, b13), (14, b14), (15, b15), (16, b16), (17, b17), (18, b18)]
def mwaM : MwaE → Nat
  | .fine _ _ _ _ _ _ _ _ _ _ _ _ _ _ _ _ _ _ _ => 19
def mwaDecE (o : Out) (vs : List AV) (H : Heap) (N : Nat) : Option MwaE := match o, vs, H.find 2, H.find 3, H.find 4, H.find 5, H.find 6, H.find 7, H.find 8, H.find 9, H.find 10, H.find 11, H.find 12, H.find 13, H.find 14, H.find 15, H.find 16, H.find 17, H.find 18, N with
  | .exit 0, [.ptr ⟨2, 0, 0, 0, 0⟩, .ptr ⟨3, 0, 0, 0, 0⟩, .ptr ⟨10, 0, 0, 0, 0⟩, .ptr ⟨18, 0, 0, 0, 0⟩, .slice ⟨17, 0, 0, 5, 0⟩ 5 k, .int .i64 why], some b2, some b3, some b4, some b5, some b6, some b7, some b8, some b9, some b10, some b11, some b12, some b13, some b14, some b15, some b16, some b17, some b18, 19 => some (.fine b2 b3 b4 b5 b6 b7 b8 b9 b10 b11 b12 b13 b14 b15 b16 b17 b18 k why)
  | _, _, _, _, _, _, _, _, _, _, _, _, _, _, _, _, _, _, _, _ => none
theorem mwaDecE_ok (o : Out) (vs : List AV) (H : Heap) (N : Nat) (z : MwaE) (h : mwaDecE o vs H N = some z) : o = mwaO z ∧ o ≠ .normal ∧ vs = mwaV z ∧ (mwaG z).sub H ∧ N = mwaM z := by
  unfold mwaDecE at h
  split at h
  all_goals first
    | (cases h; done)
    | (cases h; refine ⟨rfl, nofun, rfl, ?_, rfl⟩; repeat (first | exact sub_nil | refine sub_cons (by assumption) ?_))
noncomputable def mwaStep : MwaS → Option (MwaS ⊕ MwaE)
 | .a x0 x1 x2 x3 x4 n tg m d c0 c1 c2 pr p1 p2 en th q u1 u2 u3 w nz tgz mz dz c0z c1z c2z prz p1z p2z enz thz qz u1z u2z u3z wz k kk g y0 y1 y2 y3 why i =>
 (cond (i.slt (BitVec.ofNat 64 k))
 (cond (nonneg IntKind.i64 i && decide (i.toNat < k))
 (cond (decide (0 + i.toNat < kk))
 (cond (!asI64 ((g.getD (0 + i.toNat) []).headD AV.any) == 4#64)
    none
 (cond (nonneg IntKind.i64 i && decide (i.toNat < k))
 (cond (decide (0 + i.toNat < kk))
 (cond (!asI64 ((g.getD (0 + i.toNat) []).tail.headD AV.any) == 64#64)
       none
 (cond (nonneg IntKind.i64 i && decide (i.toNat < k))
 (cond (decide (0 + i.toNat < kk))
 (cond (!asI64 ((g.getD (0 + i.toNat) []).tail.tail.headD AV.any) == 8#64)
          none
 (cond (nonneg IntKind.i64 i && decide (i.toNat < k))
 (cond (decide (0 + i.toNat < kk))
 (cond (!asU64 ((g.getD (0 + i.toNat) []).tail.tail.tail.headD AV.any) == x1)
             none
 (cond (nonneg IntKind.i64 i && decide (i.toNat < k))
 (cond (decide (0 + i.toNat < kk))
 (cond (!v_reg (2147483648#64) (BitVec.signExtend 64 (BitVec.ofNat 64 n)) (asU64 ((g.getD (0 + i.toNat) []).tail.tail.tail.tail.headD AV.any)) 8#64)
                none
 (some (Sum.inl (MwaS.a x0 x1 x2 x3 x4 n tg m d c0 c1 c2 pr p1 p2 en th q u1 u2 u3 w nz tgz mz dz c0z c1z c2z prz p1z p2z enz thz qz u1z u2z u3z wz k kk g y0 y1 y2 y3 why (i + 1#64)))))
               none)
              none))
            none)
           none))
         none)
        none))
      none)
     none))
   none)
  none)
 (some (Sum.inr (MwaE.fine { rw := true, segs := [Seg.cell (AV.int IntKind.u64 x0), Seg.cell (AV.int IntKind.u64 x1), Seg.cell (AV.int IntKind.u64 x2), Seg.cell (AV.int IntKind.i64 x3), Seg.cell (AV.int IntKind.i64 x4)] } bus3 { rw := true, segs := [Seg.cell (AV.slice { x := 5, off := 0, i := 0, sz := 1, j := 0 } 1 n), Seg.arr [CK.int IntKind.u64] 64 tg] } { rw := true, segs := [Seg.arr [CK.int IntKind.u8] m d] } { rw := true, segs := [Seg.cell (AV.int IntKind.u64 c0), Seg.cell (AV.int IntKind.u64 c1), Seg.cell (AV.int IntKind.u64 c2)] } { rw := true, segs := [Seg.arr [CK.int IntKind.u32] 32 pr, Seg.cell (AV.int IntKind.u32 p1), Seg.cell (AV.int IntKind.u32 p2), Seg.arr [CK.int IntKind.u32] 2 en, Seg.arr [CK.int IntKind.u32] 2 th] } { rw := true, segs := [Seg.arr [CK.int IntKind.u8] 16 q, Seg.cell (AV.int IntKind.i64 u1), Seg.cell (AV.int IntKind.i64 u2), Seg.cell (AV.bool u3), Seg.cell AV.nilslice] } { rw := true, segs := [Seg.cell (AV.bool w)] } bus10 { rw := true, segs := [Seg.cell (AV.slice { x := 12, off := 0, i := 0, sz := 1, j := 0 } 1 nz), Seg.arr [CK.int IntKind.u64] 64 tgz] } { rw := true, segs := [Seg.arr [CK.int IntKind.u8] mz dz] } { rw := true, segs := [Seg.cell (AV.int IntKind.u64 c0z), Seg.cell (AV.int IntKind.u64 c1z), Seg.cell (AV.int IntKind.u64 c2z)] } { rw := true, segs := [Seg.arr [CK.int IntKind.u32] 32 prz, Seg.cell (AV.int IntKind.u32 p1z), Seg.cell (AV.int IntKind.u32 p2z), Seg.arr [CK.int IntKind.u32] 2 enz, Seg.arr [CK.int IntKind.u32] 2 thz] } { rw := true, segs := [Seg.arr [CK.int IntKind.u8] 16 qz, Seg.cell (AV.int IntKind.i64 u1z), Seg.cell (AV.int IntKind.i64 u2z), Seg.cell (AV.bool u3z), Seg.cell AV.nilslice] } { rw := true, segs := [Seg.cell (AV.bool wz)] } { rw := true, segs := [Seg.arr [CK.int IntKind.i64, CK.int IntKind.i64, CK.int IntKind.i64, CK.int IntKind.u64, CK.int IntKind.u64] kk g] } { rw := true, segs := [Seg.cell (AV.int IntKind.i64 y0), Seg.cell (AV.int IntKind.i64 y1), Seg.cell (AV.int IntKind.u64 y2), Seg.cell (AV.int IntKind.u64 y3)] } k why))))
end Go.Sx

/- What loops do, round by round. -/
import Derived.Test.YtkbcfbehebbmhaaSxX
import Derived.Test.YtkbcfbehebbmhaaSxLen2
import Derived.Test.YtkbcfbehebbmhaaSxEC
import Derived.Test.YtkbcfbehebbmhaaVa03
import Derived.Test.YtkbcfbehebbmhaaPlBusO
import Derived.Test.YtkbcfbehebbmhaaPlBusB1
set_option linter.unusedSimpArgs false
set_option linter.unusedVariables false
set_option linter.unnecessarySimpa false
namespace Go.Sx
open Go

/-! ### Lay: word by word -/
inductive MlyS where
  | a (rw : Bool) (na : Nat) (ma : Nat) (da : List (List AV)) (n : Nat) (tg : List (List AV)) (m : Nat) (d : List (List AV)) (c0 : BitVec 64) (c1 : BitVec 64) (c2 : BitVec 64) (pr : List (List AV)) (p1 : BitVec 32) (p2 : BitVec 32) (en : List (List AV)) (th : List (List AV)) (q : List (List AV)) (u1 : BitVec 64) (u2 : BitVec 64) (u3 : Bool) (w : Bool) (i : BitVec 64)
inductive MlyE where
  | fine (rw : Bool) (ma : Nat) (da : List (List AV)) (n : Nat) (tg : List (List AV)) (m : Nat) (d : List (List AV)) (b1 : Blk) (b4 : Blk) (b5 : Blk) (b6 : Blk) (b7 : Blk)
def mlyT : MlyS → List AV
  | .a _ na _ _ _ _ _ _ _ _ _ _ _ _ _ _ _ _ _ _ _ i => [.slice ⟨0, 0, 0, 2, 0⟩ 2 na, .ptr ⟨1, 0, 0, 0, 0⟩, .int .i64 i]
def mlyH : MlyS → Heap
  | .a rw _ ma da n tg m d c0 c1 c2 pr p1 p2 en th q u1 u2 u3 w _ => [(0, ⟨rw, [.arr [.int .i64, .int .u64] ma da]⟩), (1, bus1), (2, ⟨true, [.cell (.slice ⟨3, 0, 0, 1, 0⟩ 1 n), .arr [.int .u64] 64 tg]⟩), (3, ⟨true, [.arr [.int .u8] m d]⟩), (4, (bClint c0 c1 c2)), (5, (bPlic pr p1 p2 en th)), (6, (bUart q u1 u2 u3)), (7, (bPow w))]
def mlyN : MlyS → Nat
  | .a _ _ _ _ _ _ _ _ _ _ _ _ _ _ _ _ _ _ _ _ _ _ => 8
def mlyDec_a (vs : List AV) (H : Heap) (N : Nat) : Option MlyS := match vs, H.find 0, H.find 1, H.find 2, H.find 3, H.find 4, H.find 5, H.find 6, H.find 7, N with
  | [.slice ⟨0, 0, 0, 2, 0⟩ 2 na, .ptr ⟨1, 0, 0, 0, 0⟩, .int .i64 i], some ⟨rw, [.arr [.int .i64, .int .u64] ma da]⟩, some b1, some ⟨true, [.cell (.slice ⟨3, 0, 0, 1, 0⟩ 1 n), .arr [.int .u64] 64 tg]⟩, some ⟨true, [.arr [.int .u8] m d]⟩, some b4, some b5, some b6, some b7, 8 => (dBus1 b1).bind fun _ => (dClint b4).bind fun (c0, c1, c2) => (dPlic b5).bind fun (pr, p1, p2, en, th) => (dUart b6).bind fun (q, u1, u2, u3) => (dPow b7).bind fun w => some (.a rw na ma da n tg m d c0 c1 c2 pr p1 p2 en th q u1 u2 u3 w i)
  | _, _, _, _, _, _, _, _, _, _ => none
theorem mlyDec_a_ok (vs : List AV) (H : Heap) (N : Nat) (y : MlyS) (h : mlyDec_a vs H N = some y) : vs = mlyT y ∧ (mlyH y).sub H ∧ N = mlyN y := by
  unfold mlyDec_a at h
  split at h
  · obtain ⟨u_, e1, h⟩ := Option.bind_eq_some_iff.1 h
    obtain ⟨⟨c0, c1, c2⟩, e4, h⟩ := Option.bind_eq_some_iff.1 h
    obtain ⟨⟨pr, p1, p2, en, th⟩, e5, h⟩ := Option.bind_eq_some_iff.1 h
    obtain ⟨⟨q, u1, u2, u3⟩, e6, h⟩ := Option.bind_eq_some_iff.1 h
    obtain ⟨w, e7, h⟩ := Option.bind_eq_some_iff.1 h
    obtain rfl := dBus1_ok e1
    obtain rfl := dClint_ok e4
    obtain rfl := dPlic_ok e5
    obtain rfl := dUart_ok e6
    obtain rfl := dPow_ok e7
    cases h; refine ⟨rfl, ?_, rfl⟩; repeat (first | exact sub_nil | refine sub_cons (by assumption) ?_)
  · cases h
def mlyDec (vs : List AV) (H : Heap) (N : Nat) : Option MlyS := mlyDec_a vs H N
theorem mlyDec_ok (vs : List AV) (H : Heap) (N : Nat) (y : MlyS) (h : mlyDec vs H N = some y) : vs = mlyT y ∧ (mlyH y).sub H ∧ N = mlyN y := mlyDec_a_ok _ _ _ _ h
def mlyO : MlyE → Out
  | .fine _ _ _ _ _ _ _ _ _ _ _ _ => .exit 0
def mlyV : MlyE → List AV
  | .fine _ _ _ _ _ _ _ _ _ _ _ _ => [.ptr ⟨1, 0, 0, 0, 0⟩]
def mlyG : MlyE → Heap
  | .fine rw ma da n tg m d b1 b4 b5 b6 b7 => [(0, ⟨rw, [.arr [.int .i64, .int .u64] ma da]⟩), (1, b1), (2, ⟨true, [.cell (.slice ⟨3, 0, 0, 1, 0⟩ 1 n), .arr [.int .u64] 64 tg]⟩), (3, ⟨true, [.arr [.int .u8] m d]⟩), (4, b4), (5, b5), (6, b6), (7, b7)]
def mlyM : MlyE → Nat
  | .fine _ _ _ _ _ _ _ _ _ _ _ _ => 8
def mlyDecE (o : Out) (vs : List AV) (H : Heap) (N : Nat) : Option MlyE := match o, vs, H.find 0, H.find 1, H.find 2, H.find 3, H.find 4, H.find 5, H.find 6, H.find 7, N with
  | .exit 0, [.ptr ⟨1, 0, 0, 0, 0⟩], some ⟨rw, [.arr [.int .i64, .int .u64] ma da]⟩, some b1, some ⟨true, [.cell (.slice ⟨3, 0, 0, 1, 0⟩ 1 n), .arr [.int .u64] 64 tg]⟩, some ⟨true, [.arr [.int .u8] m d]⟩, some b4, some b5, some b6, some b7, 8 => some (.fine rw ma da n tg m d b1 b4 b5 b6 b7)
  | _, _, _, _, _, _, _, _, _, _, _ => none
theorem mlyDecE_ok (o : Out) (vs : List AV) (H : Heap) (N : Nat) (z : MlyE) (h : mlyDecE o vs H N = some z) : o = mlyO z ∧ o ≠ .normal ∧ vs = mlyV z ∧ (mlyG z).sub H ∧ N = mlyM z := by
  unfold mlyDecE at h
  split at h
  all_goals first
    | (cases h; done)
    | (cases h; refine ⟨rfl, nofun, rfl, ?_, rfl⟩; repeat (first | exact sub_nil | refine sub_cons (by assumption) ?_))
noncomputable def mlyStep : MlyS → Option (MlyS ⊕ MlyE)
 | .a rw na ma da n tg m d c0 c1 c2 pr p1 p2 en th q u1 u2 u3 w i =>
 (cond (i.slt (BitVec.ofNat 64 na))
 (cond (i.slt 200#64)
 (cond (nonneg IntKind.i64 i && decide (i.toNat < na))
 (cond (decide (0 + i.toNat < ma))
 (cond (nonneg IntKind.i64 i && decide (i.toNat < na))
 (cond (decide (0 + i.toNat < ma))
 (cond (v_reg (2147483648#64) (BitVec.signExtend 64 (BitVec.ofNat 64 n)) (2147483648#64 + BitVec.signExtend 64 (8#64 * v_kit_Pick (asI64 ((da.getD (0 + i.toNat) []).headD AV.any)) 1536#64)) 8#64)
 (cond (g_ram n tg m d)
 (some (Sum.inl (MlyS.a rw na ma da n (v_sT n tg (2147483648#64 + BitVec.signExtend 64 (8#64 * v_kit_Pick (asI64 ((da.getD (0 + i.toNat) []).headD AV.any)) 1536#64) - 2147483648#64) 8#64) m (v_sD n d (2147483648#64 + BitVec.signExtend 64 (8#64 * v_kit_Pick (asI64 ((da.getD (0 + i.toNat) []).headD AV.any)) 1536#64) - 2147483648#64) (8#64) (asU64 ((da.getD (0 + i.toNat) []).tail.headD AV.any))) c0 c1 c2 pr p1 p2 en th q u1 u2 u3 w (i + 1#64))))
        none)
 (cond (v_reg (33554432#64) (65536#64) (2147483648#64 + BitVec.signExtend 64 (8#64 * v_kit_Pick (asI64 ((da.getD (0 + i.toNat) []).headD AV.any)) 1536#64)) 8#64)
        none
 (cond (v_reg (201326592#64) (4194304#64) (2147483648#64 + BitVec.signExtend 64 (8#64 * v_kit_Pick (asI64 ((da.getD (0 + i.toNat) []).headD AV.any)) 1536#64)) 8#64)
         none
 (cond (v_reg (268435456#64) (256#64) (2147483648#64 + BitVec.signExtend 64 (8#64 * v_kit_Pick (asI64 ((da.getD (0 + i.toNat) []).headD AV.any)) 1536#64)) 8#64)
          none
 (cond (v_reg (1048576#64) (4096#64) (2147483648#64 + BitVec.signExtend 64 (8#64 * v_kit_Pick (asI64 ((da.getD (0 + i.toNat) []).headD AV.any)) 1536#64)) 8#64)
           none
 (some (Sum.inl (MlyS.a rw na ma da n tg m d c0 c1 c2 pr p1 p2 en th q u1 u2 u3 w (i + 1#64)))))))))
      none)
     none)
    none)
   none)
 (some (Sum.inr (MlyE.fine rw ma da n tg m d bus1 { rw := true, segs := [Seg.cell (AV.int IntKind.u64 c0), Seg.cell (AV.int IntKind.u64 c1), Seg.cell (AV.int IntKind.u64 c2)] } { rw := true, segs := [Seg.arr [CK.int IntKind.u32] 32 pr, Seg.cell (AV.int IntKind.u32 p1), Seg.cell (AV.int IntKind.u32 p2), Seg.arr [CK.int IntKind.u32] 2 en, Seg.arr [CK.int IntKind.u32] 2 th] } { rw := true, segs := [Seg.arr [CK.int IntKind.u8] 16 q, Seg.cell (AV.int IntKind.i64 u1), Seg.cell (AV.int IntKind.i64 u2), Seg.cell (AV.bool u3), Seg.cell AV.nilslice] } { rw := true, segs := [Seg.cell (AV.bool w)] }))))
 (some (Sum.inr (MlyE.fine rw ma da n tg m d bus1 { rw := true, segs := [Seg.cell (AV.int IntKind.u64 c0), Seg.cell (AV.int IntKind.u64 c1), Seg.cell (AV.int IntKind.u64 c2)] } { rw := true, segs := [Seg.arr [CK.int IntKind.u32] 32 pr, Seg.cell (AV.int IntKind.u32 p1), Seg.cell (AV.int IntKind.u32 p2), Seg.arr [CK.int IntKind.u32] 2 en, Seg.arr [CK.int IntKind.u32] 2 th] } { rw := true, segs := [Seg.arr [CK.int IntKind.u8] 16 q, Seg.cell (AV.int IntKind.i64 u1), Seg.cell (AV.int IntKind.i64 u2), Seg.cell (AV.bool u3), Seg.cell AV.nilslice] } { rw := true, segs := [Seg.cell (AV.bool w)] }))))
end Go.Sx

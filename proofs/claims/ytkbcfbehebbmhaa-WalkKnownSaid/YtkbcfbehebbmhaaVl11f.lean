/- What loops do, round by round. -/
import Derived.Test.YtkbcfbehebbmhaaSxX
import Derived.Test.YtkbcfbehebbmhaaSxLen2
import Derived.Test.YtkbcfbehebbmhaaSxEC
import Derived.Test.YtkbcfbehebbmhaaVa03
set_option linter.unusedSimpArgs false
set_option linter.unusedVariables false
set_option linter.unnecessarySimpa false
namespace Go.Sx
open Go

/-! ### the document: a load, byte by byte -/
inductive MxaS where
  | a (n : Nat) (t : Nat) (m : Nat) (d : List (List AV)) (mt : Nat) (T : List (List AV)) (off : BitVec 64) (v : BitVec 64) (i : BitVec 64)
inductive MxaE where
  | fine (n : Nat) (t : Nat) (m : Nat) (d : List (List AV)) (mt : Nat) (T : List (List AV)) (v : BitVec 64)
def mxaT : MxaS → List AV
  | .a _ _ _ _ _ _ off v i => [.ptr ⟨0, 0, 0, 0, 0⟩, .int .i64 off, .int .u64 v, .int .i64 i]
def mxaH : MxaS → Heap
  | .a n t m d mt T _ _ _ => [(0, ⟨true, [.cell (.slice ⟨1, 0, 0, 1, 0⟩ 1 n), .cell (.slice ⟨2, 0, 0, 1, 0⟩ 1 t)]⟩), (1, ⟨true, [.arr [.int .u8] m d]⟩), (2, ⟨true, [.arr [.bool] mt T]⟩)]
def mxaN : MxaS → Nat
  | .a _ _ _ _ _ _ _ _ _ => 3
def mxaDec (vs : List AV) (H : Heap) (N : Nat) : Option MxaS := match vs, H.find 0, H.find 1, H.find 2, N with
  | [.ptr ⟨0, 0, 0, 0, 0⟩, .int .i64 off, .int .u64 v, .int .i64 i], some ⟨true, [.cell (.slice ⟨1, 0, 0, 1, 0⟩ 1 n), .cell (.slice ⟨2, 0, 0, 1, 0⟩ 1 t)]⟩, some ⟨true, [.arr [.int .u8] m d]⟩, some ⟨true, [.arr [.bool] mt T]⟩, 3 => some (.a n t m d mt T off v i)
  | _, _, _, _, _ => none
theorem mxaDec_ok (vs : List AV) (H : Heap) (N : Nat) (y : MxaS) (h : mxaDec vs H N = some y) : vs = mxaT y ∧ (mxaH y).sub H ∧ N = mxaN y := by
  unfold mxaDec at h
  split at h
  all_goals first
    | (cases h; done)
    | (cases h; refine ⟨rfl, ?_, rfl⟩; repeat (first | exact sub_nil | refine sub_cons (by assumption) ?_))
def mxaO : MxaE → Out
  | .fine _ _ _ _ _ _ _ => .exit 0
def mxaV : MxaE → List AV
  | .fine _ _ _ _ _ _ v => [.int .u64 v]
def mxaG : MxaE → Heap
  | .fine n t m d mt T _ => [(0, ⟨true, [.cell (.slice ⟨1, 0, 0, 1, 0⟩ 1 n), .cell (.slice ⟨2, 0, 0, 1, 0⟩ 1 t)]⟩), (1, ⟨true, [.arr [.int .u8] m d]⟩), (2, ⟨true, [.arr [.bool] mt T]⟩)]
def mxaM : MxaE → Nat
  | .fine _ _ _ _ _ _ _ => 3
def mxaDecE (o : Out) (vs : List AV) (H : Heap) (N : Nat) : Option MxaE := match o, vs, H.find 0, H.find 1, H.find 2, N with
  | .exit 0, [.int .u64 v], some ⟨true, [.cell (.slice ⟨1, 0, 0, 1, 0⟩ 1 n), .cell (.slice ⟨2, 0, 0, 1, 0⟩ 1 t)]⟩, some ⟨true, [.arr [.int .u8] m d]⟩, some ⟨true, [.arr [.bool] mt T]⟩, 3 => some (.fine n t m d mt T v)
  | _, _, _, _, _, _ => none
theorem mxaDecE_ok (o : Out) (vs : List AV) (H : Heap) (N : Nat) (z : MxaE) (h : mxaDecE o vs H N = some z) : o = mxaO z ∧ o ≠ .normal ∧ vs = mxaV z ∧ (mxaG z).sub H ∧ N = mxaM z := by
  unfold mxaDecE at h
  split at h
  all_goals first
    | (cases h; done)
    | (cases h; refine ⟨rfl, nofun, rfl, ?_, rfl⟩; repeat (first | exact sub_nil | refine sub_cons (by assumption) ?_))
noncomputable def mxaStep : MxaS → Option (MxaS ⊕ MxaE)
 | .a n t m d mt T off v i =>
 (cond ((0#64).sle i)
 (cond (nonneg IntKind.i64 (off + i) && decide ((off + i).toNat < n))
 (cond (decide (0 + (off + i).toNat < m))
 (some (Sum.inl (MxaS.a n t m d mt T off (v * 256#64 + BitVec.setWidth 64 (asU8 ((d.getD (0 + (off + i).toNat) []).headD AV.any))) (i - 1#64))))
   none)
  none)
 (some (Sum.inr (MxaE.fine n t m d mt T v))))

/-! ### the document: a store, byte by byte -/
inductive MxbS where
  | a (n : Nat) (t : Nat) (m : Nat) (d : List (List AV)) (mt : Nat) (T : List (List AV)) (off : BitVec 64) (size : BitVec 64) (v : BitVec 64) (i : BitVec 64)
inductive MxbE where
  | fine (n : Nat) (t : Nat) (m : Nat) (d : List (List AV)) (mt : Nat) (T : List (List AV))
def mxbT : MxbS → List AV
  | .a _ _ _ _ _ _ off size v i => [.ptr ⟨0, 0, 0, 0, 0⟩, .int .i64 off, .int .i64 size, .int .u64 v, .int .i64 i]
def mxbH : MxbS → Heap
  | .a n t m d mt T _ _ _ _ => [(0, ⟨true, [.cell (.slice ⟨1, 0, 0, 1, 0⟩ 1 n), .cell (.slice ⟨2, 0, 0, 1, 0⟩ 1 t)]⟩), (1, ⟨true, [.arr [.int .u8] m d]⟩), (2, ⟨true, [.arr [.bool] mt T]⟩)]
def mxbN : MxbS → Nat
  | .a _ _ _ _ _ _ _ _ _ _ => 3
def mxbDec (vs : List AV) (H : Heap) (N : Nat) : Option MxbS := match vs, H.find 0, H.find 1, H.find 2, N with
  | [.ptr ⟨0, 0, 0, 0, 0⟩, .int .i64 off, .int .i64 size, .int .u64 v, .int .i64 i], some ⟨true, [.cell (.slice ⟨1, 0, 0, 1, 0⟩ 1 n), .cell (.slice ⟨2, 0, 0, 1, 0⟩ 1 t)]⟩, some ⟨true, [.arr [.int .u8] m d]⟩, some ⟨true, [.arr [.bool] mt T]⟩, 3 => some (.a n t m d mt T off size v i)
  | _, _, _, _, _ => none
theorem mxbDec_ok (vs : List AV) (H : Heap) (N : Nat) (y : MxbS) (h : mxbDec vs H N = some y) : vs = mxbT y ∧ (mxbH y).sub H ∧ N = mxbN y := by
  unfold mxbDec at h
  split at h
  all_goals first
    | (cases h; done)
    | (cases h; refine ⟨rfl, ?_, rfl⟩; repeat (first | exact sub_nil | refine sub_cons (by assumption) ?_))
def mxbO : MxbE → Out
  | .fine _ _ _ _ _ _ => .exit 0
def mxbV : MxbE → List AV
  | .fine _ _ _ _ _ _ => []
def mxbG : MxbE → Heap
  | .fine n t m d mt T => [(0, ⟨true, [.cell (.slice ⟨1, 0, 0, 1, 0⟩ 1 n), .cell (.slice ⟨2, 0, 0, 1, 0⟩ 1 t)]⟩), (1, ⟨true, [.arr [.int .u8] m d]⟩), (2, ⟨true, [.arr [.bool] mt T]⟩)]
def mxbM : MxbE → Nat
  | .fine _ _ _ _ _ _ => 3
def mxbDecE (o : Out) (vs : List AV) (H : Heap) (N : Nat) : Option MxbE := match o, vs, H.find 0, H.find 1, H.find 2, N with
  | .exit 0, [], some ⟨true, [.cell (.slice ⟨1, 0, 0, 1, 0⟩ 1 n), .cell (.slice ⟨2, 0, 0, 1, 0⟩ 1 t)]⟩, some ⟨true, [.arr [.int .u8] m d]⟩, some ⟨true, [.arr [.bool] mt T]⟩, 3 => some (.fine n t m d mt T)
  | _, _, _, _, _, _ => none
theorem mxbDecE_ok (o : Out) (vs : List AV) (H : Heap) (N : Nat) (z : MxbE) (h : mxbDecE o vs H N = some z) : o = mxbO z ∧ o ≠ .normal ∧ vs = mxbV z ∧ (mxbG z).sub H ∧ N = mxbM z := by
  unfold mxbDecE at h
  split at h
  all_goals first
    | (cases h; done)
    | (cases h; refine ⟨rfl, nofun, rfl, ?_, rfl⟩; repeat (first | exact sub_nil | refine sub_cons (by assumption) ?_))
noncomputable def mxbStep : MxbS → Option (MxbS ⊕ MxbE)
 | .a n t m d mt T off size v i =>
 (cond (i.slt size)
 (cond (nonneg IntKind.i64 (off + i) && decide ((off + i).toNat < n))
 (cond (decide (0 + (off + i).toNat < m) && decide (0 + (off + i).toNat < d.length))
 (cond (nonneg IntKind.i64 ((off + i).sdiv 16#64) && decide (((off + i).sdiv 16#64).toNat < t))
 (cond (decide (0 + ((off + i).sdiv 16#64).toNat < mt) && decide (0 + ((off + i).sdiv 16#64).toNat < T.length))
 (some (Sum.inl (MxbS.a n t m (d.set (0 + (off + i).toNat) [AV.int IntKind.u8 (BitVec.setWidth 8 (v >>> min (BitVec.signExtend 64 (8#64 * i)).toNat 64))]) mt (T.set (0 + ((off + i).sdiv 16#64).toNat) [AV.bool false]) off size v (i + 1#64))))
     none)
    none)
   none)
  none)
 (some (Sum.inr (MxbE.fine n t m d mt T))))

/-! ### the document: tags, one by one -/
inductive MxdS where
  | z (n : Nat) (t : Nat) (m : Nat) (d : List (List AV)) (mt : Nat) (T : List (List AV)) (i : BitVec 64)
  | s (n : Nat) (t : Nat) (m : Nat) (d : List (List AV)) (mt : Nat) (T : List (List AV)) (k : Nat) (kk : Nat) (g : List (List AV)) (i : BitVec 64)
inductive MxdE where
  | z (n : Nat) (t : Nat) (m : Nat) (d : List (List AV)) (mt : Nat) (T : List (List AV))
  | s (n : Nat) (t : Nat) (m : Nat) (d : List (List AV)) (mt : Nat) (T : List (List AV)) (k : Nat) (kk : Nat) (g : List (List AV))
def mxdT : MxdS → List AV
  | .z _ _ _ _ _ _ i => [.ptr ⟨0, 0, 0, 0, 0⟩, .nilslice, .int .i64 i]
  | .s _ _ _ _ _ _ k _ _ i => [.ptr ⟨0, 0, 0, 0, 0⟩, .slice ⟨3, 0, 0, 1, 0⟩ 1 k, .int .i64 i]
def mxdH : MxdS → Heap
  | .z n t m d mt T _ => [(0, ⟨true, [.cell (.slice ⟨1, 0, 0, 1, 0⟩ 1 n), .cell (.slice ⟨2, 0, 0, 1, 0⟩ 1 t)]⟩), (1, ⟨true, [.arr [.int .u8] m d]⟩), (2, ⟨true, [.arr [.bool] mt T]⟩)]
  | .s n t m d mt T _ kk g _ => [(0, ⟨true, [.cell (.slice ⟨1, 0, 0, 1, 0⟩ 1 n), .cell (.slice ⟨2, 0, 0, 1, 0⟩ 1 t)]⟩), (1, ⟨true, [.arr [.int .u8] m d]⟩), (2, ⟨true, [.arr [.bool] mt T]⟩), (3, ⟨true, [.arr [.int .i64] kk g]⟩)]
def mxdN : MxdS → Nat
  | .z _ _ _ _ _ _ _ => 3
  | .s _ _ _ _ _ _ _ _ _ _ => 4
def mxdDec (vs : List AV) (H : Heap) (N : Nat) : Option MxdS := match vs, H.find 0, H.find 1, H.find 2, H.find 3, N with
  | [.ptr ⟨0, 0, 0, 0, 0⟩, .nilslice, .int .i64 i], some ⟨true, [.cell (.slice ⟨1, 0, 0, 1, 0⟩ 1 n), .cell (.slice ⟨2, 0, 0, 1, 0⟩ 1 t)]⟩, some ⟨true, [.arr [.int .u8] m d]⟩, some ⟨true, [.arr [.bool] mt T]⟩, _, 3 => some (.z n t m d mt T i)
  | [.ptr ⟨0, 0, 0, 0, 0⟩, .slice ⟨3, 0, 0, 1, 0⟩ 1 k, .int .i64 i], some ⟨true, [.cell (.slice ⟨1, 0, 0, 1, 0⟩ 1 n), .cell (.slice ⟨2, 0, 0, 1, 0⟩ 1 t)]⟩, some ⟨true, [.arr [.int .u8] m d]⟩, some ⟨true, [.arr [.bool] mt T]⟩, some ⟨true, [.arr [.int .i64] kk g]⟩, 4 => some (.s n t m d mt T k kk g i)
  | _, _, _, _, _, _ => none
theorem mxdDec_ok (vs : List AV) (H : Heap) (N : Nat) (y : MxdS) (h : mxdDec vs H N = some y) : vs = mxdT y ∧ (mxdH y).sub H ∧ N = mxdN y := by
  unfold mxdDec at h
  split at h
  all_goals first
    | (cases h; done)
    | (cases h; refine ⟨rfl, ?_, rfl⟩; repeat (first | exact sub_nil | refine sub_cons (by assumption) ?_))
def mxdO : MxdE → Out
  | .z _ _ _ _ _ _ => .exit 0
  | .s _ _ _ _ _ _ _ _ _ => .exit 0
def mxdV : MxdE → List AV
  | .z _ _ _ _ _ _ => [.nilslice]
  | .s _ _ _ _ _ _ k _ _ => [.slice ⟨3, 0, 0, 1, 0⟩ 1 k]
def mxdG : MxdE → Heap
  | .z n t m d mt T => [(0, ⟨true, [.cell (.slice ⟨1, 0, 0, 1, 0⟩ 1 n), .cell (.slice ⟨2, 0, 0, 1, 0⟩ 1 t)]⟩), (1, ⟨true, [.arr [.int .u8] m d]⟩), (2, ⟨true, [.arr [.bool] mt T]⟩)]
  | .s n t m d mt T _ kk g => [(0, ⟨true, [.cell (.slice ⟨1, 0, 0, 1, 0⟩ 1 n), .cell (.slice ⟨2, 0, 0, 1, 0⟩ 1 t)]⟩), (1, ⟨true, [.arr [.int .u8] m d]⟩), (2, ⟨true, [.arr [.bool] mt T]⟩), (3, ⟨true, [.arr [.int .i64] kk g]⟩)]
def mxdM : MxdE → Nat
  | .z _ _ _ _ _ _ => 3
  | .s _ _ _ _ _ _ _ _ _ => 4
def mxdDecE (o : Out) (vs : List AV) (H : Heap) (N : Nat) : Option MxdE := match o, vs, H.find 0, H.find 1, H.find 2, H.find 3, N with
  | .exit 0, [.nilslice], some ⟨true, [.cell (.slice ⟨1, 0, 0, 1, 0⟩ 1 n), .cell (.slice ⟨2, 0, 0, 1, 0⟩ 1 t)]⟩, some ⟨true, [.arr [.int .u8] m d]⟩, some ⟨true, [.arr [.bool] mt T]⟩, _, 3 => some (.z n t m d mt T)
  | .exit 0, [.slice ⟨3, 0, 0, 1, 0⟩ 1 k], some ⟨true, [.cell (.slice ⟨1, 0, 0, 1, 0⟩ 1 n), .cell (.slice ⟨2, 0, 0, 1, 0⟩ 1 t)]⟩, some ⟨true, [.arr [.int .u8] m d]⟩, some ⟨true, [.arr [.bool] mt T]⟩, some ⟨true, [.arr [.int .i64] kk g]⟩, 4 => some (.s n t m d mt T k kk g)
  | _, _, _, _, _, _, _ => none
theorem mxdDecE_ok (o : Out) (vs : List AV) (H : Heap) (N : Nat) (z : MxdE) (h : mxdDecE o vs H N = some z) : o = mxdO z ∧ o ≠ .normal ∧ vs = mxdV z ∧ (mxdG z).sub H ∧ N = mxdM z := by
  unfold mxdDecE at h
  split at h
  all_goals first
    | (cases h; done)
    | (cases h; refine ⟨rfl, nofun, rfl, ?_, rfl⟩; repeat (first | exact sub_nil | refine sub_cons (by assumption) ?_))
noncomputable def mxdStep : MxdS → Option (MxdS ⊕ MxdE)
 | .z n t m d mt T i =>
 (cond (i.slt (BitVec.ofNat 64 t))
 (cond (nonneg IntKind.i64 i && decide (i.toNat < t))
 (cond (decide (0 + i.toNat < mt))
 (cond (((T.getD (0 + i.toNat) []).headD AV.any).asBool)
 (some (Sum.inl (MxdS.s n t m d mt T 1 1 [[AV.int IntKind.i64 (16#64 * i)]] (i + 1#64))))
 (some (Sum.inl (MxdS.z n t m d mt T (i + 1#64)))))
   none)
  none)
 (some (Sum.inr (MxdE.z n t m d mt T))))
 | .s n t m d mt T k kk g i =>
 (cond (i.slt (BitVec.ofNat 64 t))
 (cond (nonneg IntKind.i64 i && decide (i.toNat < t))
 (cond (decide (0 + i.toNat < mt))
 (cond (((T.getD (0 + i.toNat) []).headD AV.any).asBool)
 (cond (decide (0 + k ≤ kk) && decide (g.length = kk))
 (cond (true && v_room (k + 1) 8)
 (some (Sum.inl (MxdS.s n t m d mt T (k + 1) (k + 1) (List.take k (List.drop 0 g) ++ [[AV.int IntKind.i64 (16#64 * i)]]) (i + 1#64))))
      none)
     none)
 (some (Sum.inl (MxdS.s n t m d mt T k kk g (i + 1#64)))))
   none)
  none)
 (some (Sum.inr (MxdE.s n t m d mt T k kk g))))
end Go.Sx

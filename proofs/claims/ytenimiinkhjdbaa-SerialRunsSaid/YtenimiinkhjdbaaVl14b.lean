/- What loops do, round by round. -/
import Derived.Test.YtenimiinkhjdbaaSxX
import Derived.Test.YtenimiinkhjdbaaSxSR
import Derived.Test.YtenimiinkhjdbaaSxEC
import Derived.Test.YtenimiinkhjdbaaVa03
import Derived.Test.YtenimiinkhjdbaaVa14
set_option linter.unusedSimpArgs false
set_option linter.unusedVariables false
set_option linter.unnecessarySimpa false
namespace Go.Sx
open Go

/-! ### what is left -/
inductive XrS where
  | z (n : Nat) (m : Nat) (d : List (List AV)) (e : Bool) (to : BitVec 64) (v : BitVec 64) (i : BitVec 64)
  | s (n : Nat) (m : Nat) (d : List (List AV)) (e : Bool) (to : BitVec 64) (v : BitVec 64) (k : Nat) (kk : Nat) (g : List (List AV)) (i : BitVec 64)
inductive XrE where
  | z (n : Nat) (m : Nat) (d : List (List AV)) (e : Bool) (to : BitVec 64) (v : BitVec 64)
  | s (n : Nat) (m : Nat) (d : List (List AV)) (e : Bool) (to : BitVec 64) (v : BitVec 64) (k : Nat) (kk : Nat) (g : List (List AV))
def xrT : XrS → List AV
  | .z _ _ _ _ _ v i => [.ptr ⟨0, 0, 0, 0, 0⟩, .int .u64 v, .nilslice, .int .i64 i]
  | .s _ _ _ _ _ v k _ _ i => [.ptr ⟨0, 0, 0, 0, 0⟩, .int .u64 v, .slice ⟨2, 0, 0, 1, 0⟩ 1 k, .int .i64 i]
def xrH : XrS → Heap
  | .z n m d e to _ _ => [(0, ⟨true, [.cell (.slice ⟨1, 0, 0, 1, 0⟩ 1 n), .cell (.bool e), .cell (.int .i64 to)]⟩), (1, ⟨true, [.arr [.int .u8] m d]⟩)]
  | .s n m d e to _ _ kk g _ => [(0, ⟨true, [.cell (.slice ⟨1, 0, 0, 1, 0⟩ 1 n), .cell (.bool e), .cell (.int .i64 to)]⟩), (1, ⟨true, [.arr [.int .u8] m d]⟩), (2, ⟨true, [.arr [.int .u8] kk g]⟩)]
def xrN : XrS → Nat
  | .z _ _ _ _ _ _ _ => 2
  | .s _ _ _ _ _ _ _ _ _ _ => 3
def xrDec (vs : List AV) (H : Heap) (N : Nat) : Option XrS := match vs, H.find 0, H.find 1, H.find 2, N with
  | [.ptr ⟨0, 0, 0, 0, 0⟩, .int .u64 v, .nilslice, .int .i64 i], some ⟨true, [.cell (.slice ⟨1, 0, 0, 1, 0⟩ 1 n), .cell (.bool e), .cell (.int .i64 to)]⟩, some ⟨true, [.arr [.int .u8] m d]⟩, _, 2 => some (.z n m d e to v i)
  | [.ptr ⟨0, 0, 0, 0, 0⟩, .int .u64 v, .slice ⟨2, 0, 0, 1, 0⟩ 1 k, .int .i64 i], some ⟨true, [.cell (.slice ⟨1, 0, 0, 1, 0⟩ 1 n), .cell (.bool e), .cell (.int .i64 to)]⟩, some ⟨true, [.arr [.int .u8] m d]⟩, some ⟨true, [.arr [.int .u8] kk g]⟩, 3 => some (.s n m d e to v k kk g i)
  | _, _, _, _, _ => none
theorem xrDec_ok (vs : List AV) (H : Heap) (N : Nat) (y : XrS) (h : xrDec vs H N = some y) : vs = xrT y ∧ (xrH y).sub H ∧ N = xrN y := by
  unfold xrDec at h
  split at h
  all_goals first
    | (cases h; done)
    | (cases h; refine ⟨rfl, ?_, rfl⟩; repeat (first | exact sub_nil | refine sub_cons (by assumption) ?_))
def xrO : XrE → Out
  | .z _ _ _ _ _ _ => .exit 1
  | .s _ _ _ _ _ _ _ _ _ => .exit 1
def xrV : XrE → List AV
  | .z _ _ _ _ _ v => [.ptr ⟨0, 0, 0, 0, 0⟩, .int .u64 v, .nilslice]
  | .s _ _ _ _ _ v k _ _ => [.ptr ⟨0, 0, 0, 0, 0⟩, .int .u64 v, .slice ⟨2, 0, 0, 1, 0⟩ 1 k]
def xrG : XrE → Heap
  | .z n m d e to _ => [(0, ⟨true, [.cell (.slice ⟨1, 0, 0, 1, 0⟩ 1 n), .cell (.bool e), .cell (.int .i64 to)]⟩), (1, ⟨true, [.arr [.int .u8] m d]⟩)]
  | .s n m d e to _ _ kk g => [(0, ⟨true, [.cell (.slice ⟨1, 0, 0, 1, 0⟩ 1 n), .cell (.bool e), .cell (.int .i64 to)]⟩), (1, ⟨true, [.arr [.int .u8] m d]⟩), (2, ⟨true, [.arr [.int .u8] kk g]⟩)]
def xrM : XrE → Nat
  | .z _ _ _ _ _ _ => 2
  | .s _ _ _ _ _ _ _ _ _ => 3
def xrDecE (o : Out) (vs : List AV) (H : Heap) (N : Nat) : Option XrE := match o, vs, H.find 0, H.find 1, H.find 2, N with
  | .exit 1, [.ptr ⟨0, 0, 0, 0, 0⟩, .int .u64 v, .nilslice], some ⟨true, [.cell (.slice ⟨1, 0, 0, 1, 0⟩ 1 n), .cell (.bool e), .cell (.int .i64 to)]⟩, some ⟨true, [.arr [.int .u8] m d]⟩, _, 2 => some (.z n m d e to v)
  | .exit 1, [.ptr ⟨0, 0, 0, 0, 0⟩, .int .u64 v, .slice ⟨2, 0, 0, 1, 0⟩ 1 k], some ⟨true, [.cell (.slice ⟨1, 0, 0, 1, 0⟩ 1 n), .cell (.bool e), .cell (.int .i64 to)]⟩, some ⟨true, [.arr [.int .u8] m d]⟩, some ⟨true, [.arr [.int .u8] kk g]⟩, 3 => some (.s n m d e to v k kk g)
  | _, _, _, _, _, _ => none
theorem xrDecE_ok (o : Out) (vs : List AV) (H : Heap) (N : Nat) (z : XrE) (h : xrDecE o vs H N = some z) : o = xrO z ∧ o ≠ .normal ∧ vs = xrV z ∧ (xrG z).sub H ∧ N = xrM z := by
  unfold xrDecE at h
  split at h
  all_goals first
    | (cases h; done)
    | (cases h; refine ⟨rfl, nofun, rfl, ?_, rfl⟩; repeat (first | exact sub_nil | refine sub_cons (by assumption) ?_))
noncomputable def xrStep : XrS → Option (XrS ⊕ XrE)
 | .z n m d e to v i =>
 (cond (i.slt (BitVec.ofNat 64 n))
 (cond (nonneg IntKind.i64 i && decide (i.toNat < n))
 (cond (decide (0 + i.toNat < m))
 (some (Sum.inl (XrS.s n m d e to v 1 1 [[AV.int IntKind.u8 (asU8 ((d.getD (0 + i.toNat) []).headD AV.any))]] (i + 1#64))))
   none)
  none)
 (some (Sum.inr (XrE.z n m d e to v))))
 | .s n m d e to v k kk g i =>
 (cond (i.slt (BitVec.ofNat 64 n))
 (cond (nonneg IntKind.i64 i && decide (i.toNat < n))
 (cond (decide (0 + i.toNat < m))
 (cond (decide (0 + k ≤ kk) && decide (g.length = kk))
 (cond (true && v_room (k + 1) 1)
 (some (Sum.inl (XrS.s n m d e to v (k + 1) (k + 1) (List.take k (List.drop 0 g) ++ [[AV.int IntKind.u8 (asU8 ((d.getD (0 + i.toNat) []).headD AV.any))]]) (i + 1#64))))
     none)
    none)
   none)
  none)
 (some (Sum.inr (XrE.s n m d e to v k kk g))))
end Go.Sx

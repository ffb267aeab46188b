/- What loops do, round by round. -/
import Derived.Test.YtkbcfbehebbmhaaSxX
import Derived.Test.YtkbcfbehebbmhaaSxLen2
import Derived.Test.YtkbcfbehebbmhaaSxEC
import Derived.Test.YtkbcfbehebbmhaaVa03
set_option linter.unusedSimpArgs false
set_option linter.unusedVariables false
set_option linter.unnecessarySimpa false
namespace Go.Sx
open Go

/-! ### bytes put together -/
inductive MglS where
  | a (rw : Bool) (m : Nat) (d : List (List AV)) (o : Nat) (n : Nat) (v : BitVec 64) (ln : BitVec 64) (ix : BitVec 64)
inductive MglE where
  | fine (rw : Bool) (m : Nat) (d : List (List AV)) (v : BitVec 64)
def mglT : MglS → List AV
  | .a _ _ _ o n v ln ix => [.int .u64 v, .slice ⟨0, 0, o, 1, 0⟩ 1 n, .int .i64 ln, .int .i64 ix]
def mglH : MglS → Heap
  | .a rw m d _ _ _ _ _ => [(0, ⟨rw, [.arr [.int .u8] m d]⟩)]
def mglN : MglS → Nat
  | .a _ _ _ _ _ _ _ _ => 1
def mglDec (vs : List AV) (H : Heap) (N : Nat) : Option MglS := match vs, H.find 0, N with
  | [.int .u64 v, .slice ⟨0, 0, o, 1, 0⟩ 1 n, .int .i64 ln, .int .i64 ix], some ⟨rw, [.arr [.int .u8] m d]⟩, 1 => some (.a rw m d o n v ln ix)
  | _, _, _ => none
theorem mglDec_ok (vs : List AV) (H : Heap) (N : Nat) (y : MglS) (h : mglDec vs H N = some y) : vs = mglT y ∧ (mglH y).sub H ∧ N = mglN y := by
  unfold mglDec at h
  split at h
  all_goals first
    | (cases h; done)
    | (cases h; refine ⟨rfl, ?_, rfl⟩; repeat (first | exact sub_nil | refine sub_cons (by assumption) ?_))
def mglO : MglE → Out
  | .fine _ _ _ _ => .exit 0
def mglV : MglE → List AV
  | .fine _ _ _ v => [.int .u64 v]
def mglG : MglE → Heap
  | .fine rw m d _ => [(0, ⟨rw, [.arr [.int .u8] m d]⟩)]
def mglM : MglE → Nat
  | .fine _ _ _ _ => 1
def mglDecE (o : Out) (vs : List AV) (H : Heap) (N : Nat) : Option MglE := match o, vs, H.find 0, N with
  | .exit 0, [.int .u64 v], some ⟨rw, [.arr [.int .u8] m d]⟩, 1 => some (.fine rw m d v)
  | _, _, _, _ => none
theorem mglDecE_ok (o : Out) (vs : List AV) (H : Heap) (N : Nat) (z : MglE) (h : mglDecE o vs H N = some z) : o = mglO z ∧ o ≠ .normal ∧ vs = mglV z ∧ (mglG z).sub H ∧ N = mglM z := by
  unfold mglDecE at h
  split at h
  all_goals first
    | (cases h; done)
    | (cases h; refine ⟨rfl, nofun, rfl, ?_, rfl⟩; repeat (first | exact sub_nil | refine sub_cons (by assumption) ?_))
noncomputable def mglStep : MglS → Option (MglS ⊕ MglE)
 | .a rw m d o n v ln ix =>
 (cond (ix.slt ln)
 (cond (nonneg IntKind.i64 ix && decide (ix.toNat < n))
 (cond (decide (o + ix.toNat < m))
 (cond (nonneg IntKind.i64 (8#64 * ix))
 (some (Sum.inl (MglS.a rw m d o n (v ||| BitVec.setWidth 64 (asU8 ((d.getD (o + ix.toNat) []).headD AV.any)) <<< min (8#64 * ix).toNat 64) ln (ix + 1#64))))
    none)
   none)
  none)
 (some (Sum.inr (MglE.fine rw m d v))))

/-! ### bytes laid -/
inductive MplS where
  | a (m : Nat) (d : List (List AV)) (o : Nat) (n : Nat) (v : BitVec 64) (ln : BitVec 64) (ix : BitVec 64)
inductive MplE where
  | fine (m : Nat) (d : List (List AV))
def mplT : MplS → List AV
  | .a _ _ o n v ln ix => [.slice ⟨0, 0, o, 1, 0⟩ 1 n, .int .u64 v, .int .i64 ln, .int .i64 ix]
def mplH : MplS → Heap
  | .a m d _ _ _ _ _ => [(0, ⟨true, [.arr [.int .u8] m d]⟩)]
def mplN : MplS → Nat
  | .a _ _ _ _ _ _ _ => 1
def mplDec (vs : List AV) (H : Heap) (N : Nat) : Option MplS := match vs, H.find 0, N with
  | [.slice ⟨0, 0, o, 1, 0⟩ 1 n, .int .u64 v, .int .i64 ln, .int .i64 ix], some ⟨true, [.arr [.int .u8] m d]⟩, 1 => some (.a m d o n v ln ix)
  | _, _, _ => none
theorem mplDec_ok (vs : List AV) (H : Heap) (N : Nat) (y : MplS) (h : mplDec vs H N = some y) : vs = mplT y ∧ (mplH y).sub H ∧ N = mplN y := by
  unfold mplDec at h
  split at h
  all_goals first
    | (cases h; done)
    | (cases h; refine ⟨rfl, ?_, rfl⟩; repeat (first | exact sub_nil | refine sub_cons (by assumption) ?_))
def mplO : MplE → Out
  | .fine _ _ => .exit 0
def mplV : MplE → List AV
  | .fine _ _ => []
def mplG : MplE → Heap
  | .fine m d => [(0, ⟨true, [.arr [.int .u8] m d]⟩)]
def mplM : MplE → Nat
  | .fine _ _ => 1
def mplDecE (o : Out) (vs : List AV) (H : Heap) (N : Nat) : Option MplE := match o, vs, H.find 0, N with
  | .exit 0, [], some ⟨true, [.arr [.int .u8] m d]⟩, 1 => some (.fine m d)
  | _, _, _, _ => none
theorem mplDecE_ok (o : Out) (vs : List AV) (H : Heap) (N : Nat) (z : MplE) (h : mplDecE o vs H N = some z) : o = mplO z ∧ o ≠ .normal ∧ vs = mplV z ∧ (mplG z).sub H ∧ N = mplM z := by
  unfold mplDecE at h
  split at h
  all_goals first
    | (cases h; done)
    | (cases h; refine ⟨rfl, nofun, rfl, ?_, rfl⟩; repeat (first | exact sub_nil | refine sub_cons (by assumption) ?_))
noncomputable def mplStep : MplS → Option (MplS ⊕ MplE)
 | .a m d o n v ln ix =>
 (cond (ix.slt ln)
 (cond (nonneg IntKind.i64 (8#64 * ix))
 (cond (nonneg IntKind.i64 ix && decide (ix.toNat < n))
 (cond (decide (o + ix.toNat < m) && decide (o + ix.toNat < d.length))
 (some (Sum.inl (MplS.a m (d.set (o + ix.toNat) [AV.int IntKind.u8 (BitVec.setWidth 8 (v >>> min (8#64 * ix).toNat 64))]) o n v ln (ix + 1#64))))
    none)
   none)
  none)
 (some (Sum.inr (MplE.fine m d))))
end Go.Sx

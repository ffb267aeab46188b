/- What loops do, round by round. -/
import Derived.Test.YtonehcpccklkoaaSxX
import Derived.Test.YtonehcpccklkoaaSxSR
import Derived.Test.YtonehcpccklkoaaSxEC
import Derived.Test.YtonehcpccklkoaaVa03
import Derived.Test.YtonehcpccklkoaaPlRamR
set_option linter.unusedSimpArgs false
set_option linter.unusedVariables false
set_option linter.unnecessarySimpa false
namespace Go.Sx
open Go

/-! ### RamBack: numbers ahead -/
inductive MbaS where
  | a (rw : Bool) (na : Nat) (ma : Nat) (da : List (List AV)) (n : Nat) (tg : List (List AV)) (m : Nat) (d : List (List AV)) (off : BitVec 64) (size : BitVec 64) (v : BitVec 64) (i : BitVec 64)
  | z (n : Nat) (tg : List (List AV)) (m : Nat) (d : List (List AV)) (off : BitVec 64) (size : BitVec 64) (v : BitVec 64) (i : BitVec 64)
inductive MbaE where
  | fine (n : Nat) (tg : List (List AV)) (m : Nat) (d : List (List AV)) (off : BitVec 64) (size : BitVec 64) (v : BitVec 64)
def mbaT : MbaS → List AV
  | .a _ na _ _ _ _ _ _ off size v i => [.slice ⟨0, 0, 0, 1, 0⟩ 1 na, .int .i64 off, .int .i64 size, .int .u64 v, .ptr ⟨4, 0, 0, 0, 0⟩, .int .i64 i]
  | .z _ _ _ _ off size v i => [.nilslice, .int .i64 off, .int .i64 size, .int .u64 v, .ptr ⟨4, 0, 0, 0, 0⟩, .int .i64 i]
def mbaH : MbaS → Heap
  | .a rw _ ma da n tg m d _ _ _ _ => [(0, ⟨rw, [.arr [.int .u64] ma da]⟩), (4, ⟨true, [.cell (.slice ⟨5, 0, 0, 1, 0⟩ 1 n), .arr [.int .u64] 64 tg]⟩), (5, ⟨true, [.arr [.int .u8] m d]⟩)]
  | .z n tg m d _ _ _ _ => [(4, ⟨true, [.cell (.slice ⟨5, 0, 0, 1, 0⟩ 1 n), .arr [.int .u64] 64 tg]⟩), (5, ⟨true, [.arr [.int .u8] m d]⟩)]
def mbaN : MbaS → Nat
  | .a _ _ _ _ _ _ _ _ _ _ _ _ => 6
  | .z _ _ _ _ _ _ _ _ => 6
def mbaDec (vs : List AV) (H : Heap) (N : Nat) : Option MbaS := match vs, H.find 0, H.find 4, H.find 5, N with
  | [.slice ⟨0, 0, 0, 1, 0⟩ 1 na, .int .i64 off, .int .i64 size, .int .u64 v, .ptr ⟨4, 0, 0, 0, 0⟩, .int .i64 i], some ⟨rw, [.arr [.int .u64] ma da]⟩, some ⟨true, [.cell (.slice ⟨5, 0, 0, 1, 0⟩ 1 n), .arr [.int .u64] 64 tg]⟩, some ⟨true, [.arr [.int .u8] m d]⟩, 6 => some (.a rw na ma da n tg m d off size v i)
  | [.nilslice, .int .i64 off, .int .i64 size, .int .u64 v, .ptr ⟨4, 0, 0, 0, 0⟩, .int .i64 i], _, some ⟨true, [.cell (.slice ⟨5, 0, 0, 1, 0⟩ 1 n), .arr [.int .u64] 64 tg]⟩, some ⟨true, [.arr [.int .u8] m d]⟩, 6 => some (.z n tg m d off size v i)
  | _, _, _, _, _ => none
theorem mbaDec_ok (vs : List AV) (H : Heap) (N : Nat) (y : MbaS) (h : mbaDec vs H N = some y) : vs = mbaT y ∧ (mbaH y).sub H ∧ N = mbaN y := by
  unfold mbaDec at h
  split at h
  all_goals first
    | (cases h; done)
    | (cases h; refine ⟨rfl, ?_, rfl⟩; repeat (first | exact sub_nil | refine sub_cons (by assumption) ?_))
def mbaO : MbaE → Out
  | .fine _ _ _ _ _ _ _ => .exit 0
def mbaV : MbaE → List AV
  | .fine _ _ _ _ off size v => [.int .i64 off, .int .i64 size, .int .u64 v, .ptr ⟨4, 0, 0, 0, 0⟩]
def mbaG : MbaE → Heap
  | .fine n tg m d _ _ _ => [(4, ⟨true, [.cell (.slice ⟨5, 0, 0, 1, 0⟩ 1 n), .arr [.int .u64] 64 tg]⟩), (5, ⟨true, [.arr [.int .u8] m d]⟩)]
def mbaM : MbaE → Nat
  | .fine _ _ _ _ _ _ _ => 6
def mbaDecE (o : Out) (vs : List AV) (H : Heap) (N : Nat) : Option MbaE := match o, vs, H.find 4, H.find 5, N with
  | .exit 0, [.int .i64 off, .int .i64 size, .int .u64 v, .ptr ⟨4, 0, 0, 0, 0⟩], some ⟨true, [.cell (.slice ⟨5, 0, 0, 1, 0⟩ 1 n), .arr [.int .u64] 64 tg]⟩, some ⟨true, [.arr [.int .u8] m d]⟩, 6 => some (.fine n tg m d off size v)
  | _, _, _, _, _ => none
theorem mbaDecE_ok (o : Out) (vs : List AV) (H : Heap) (N : Nat) (z : MbaE) (h : mbaDecE o vs H N = some z) : o = mbaO z ∧ o ≠ .normal ∧ vs = mbaV z ∧ (mbaG z).sub H ∧ N = mbaM z := by
  unfold mbaDecE at h
  split at h
  all_goals first
    | (cases h; done)
    | (cases h; refine ⟨rfl, nofun, rfl, ?_, rfl⟩; repeat (first | exact sub_nil | refine sub_cons (by assumption) ?_))
noncomputable def mbaStep : MbaS → Option (MbaS ⊕ MbaE)
 | .a rw na ma da n tg m d off size v i =>
 (cond (i.slt (BitVec.ofNat 64 na))
 (cond (i.slt 512#64)
 (cond (nonneg IntKind.i64 i && decide (i.toNat < na))
 (cond (decide (0 + i.toNat < ma))
 (cond (g_ram n tg m d)
 (some (Sum.inl (MbaS.a rw na ma da n (v_sT n tg (8#64 * i) 8#64) m (v_sD n d (8#64 * i) (8#64) (asU64 ((da.getD (0 + i.toNat) []).headD AV.any))) off size v (i + 1#64))))
     none)
    none)
   none)
 (some (Sum.inr (MbaE.fine n tg m d off size v))))
 (some (Sum.inr (MbaE.fine n tg m d off size v))))
 | .z n tg m d off size v i =>
 (cond (i.slt 0#64)
 (cond (i.slt 512#64)
  none
 (some (Sum.inr (MbaE.fine n tg m d off size v))))
 (some (Sum.inr (MbaE.fine n tg m d off size v))))

/-! ### RamBack: what was there -/
inductive MbbS where
  | a (n : Nat) (tg : List (List AV)) (m : Nat) (d : List (List AV)) (off : BitVec 64) (size : BitVec 64) (v : BitVec 64) (nw : Nat) (mw : Nat) (w : List (List AV)) (i : BitVec 64)
inductive MbbE where
  | fine (n : Nat) (tg : List (List AV)) (m : Nat) (d : List (List AV)) (off : BitVec 64) (size : BitVec 64) (v : BitVec 64) (nw : Nat) (mw : Nat) (w : List (List AV))
  | bad (off : BitVec 64) (size : BitVec 64) (v : BitVec 64) (nw : Nat)
def mbbT : MbbS → List AV
  | .a _ _ _ _ off size v nw _ _ i => [.int .i64 off, .int .i64 size, .int .u64 v, .ptr ⟨4, 0, 0, 0, 0⟩, .slice ⟨6, 0, 0, 1, 0⟩ 1 nw, .int .i64 i]
def mbbH : MbbS → Heap
  | .a n tg m d _ _ _ _ mw w _ => [(4, ⟨true, [.cell (.slice ⟨5, 0, 0, 1, 0⟩ 1 n), .arr [.int .u64] 64 tg]⟩), (5, ⟨true, [.arr [.int .u8] m d]⟩), (6, ⟨true, [.arr [.int .u8] mw w]⟩)]
def mbbN : MbbS → Nat
  | .a _ _ _ _ _ _ _ _ _ _ _ => 7
def mbbDec (vs : List AV) (H : Heap) (N : Nat) : Option MbbS := match vs, H.find 4, H.find 5, H.find 6, N with
  | [.int .i64 off, .int .i64 size, .int .u64 v, .ptr ⟨4, 0, 0, 0, 0⟩, .slice ⟨6, 0, 0, 1, 0⟩ 1 nw, .int .i64 i], some ⟨true, [.cell (.slice ⟨5, 0, 0, 1, 0⟩ 1 n), .arr [.int .u64] 64 tg]⟩, some ⟨true, [.arr [.int .u8] m d]⟩, some ⟨true, [.arr [.int .u8] mw w]⟩, 7 => some (.a n tg m d off size v nw mw w i)
  | _, _, _, _, _ => none
theorem mbbDec_ok (vs : List AV) (H : Heap) (N : Nat) (y : MbbS) (h : mbbDec vs H N = some y) : vs = mbbT y ∧ (mbbH y).sub H ∧ N = mbbN y := by
  unfold mbbDec at h
  split at h
  all_goals first
    | (cases h; done)
    | (cases h; refine ⟨rfl, ?_, rfl⟩; repeat (first | exact sub_nil | refine sub_cons (by assumption) ?_))
def mbbO : MbbE → Out
  | .fine _ _ _ _ _ _ _ _ _ _ => .exit 2
  | .bad _ _ _ _ => .ret
def mbbV : MbbE → List AV
  | .fine _ _ _ _ off size v nw _ _ => [.int .i64 off, .int .i64 size, .int .u64 v, .any, .ptr ⟨4, 0, 0, 0, 0⟩, .slice ⟨6, 0, 0, 1, 0⟩ 1 nw]
  | .bad off size v nw => [.int .i64 off, .int .i64 size, .int .u64 v, .bool false, .ptr ⟨4, 0, 0, 0, 0⟩, .slice ⟨6, 0, 0, 1, 0⟩ 1 nw]
def mbbG : MbbE → Heap
  | .fine n tg m d _ _ _ _ mw w => [(4, ⟨true, [.cell (.slice ⟨5, 0, 0, 1, 0⟩ 1 n), .arr [.int .u64] 64 tg]⟩), (5, ⟨true, [.arr [.int .u8] m d]⟩), (6, ⟨true, [.arr [.int .u8] mw w]⟩)]
  | .bad _ _ _ _ => []
def mbbM : MbbE → Nat
  | .fine _ _ _ _ _ _ _ _ _ _ => 7
  | .bad _ _ _ _ => 7
def mbbDecE (o : Out) (vs : List AV) (H : Heap) (N : Nat) : Option MbbE := match o, vs, H.find 4, H.find 5, H.find 6, N with
  | .exit 2, [.int .i64 off, .int .i64 size, .int .u64 v, .any, .ptr ⟨4, 0, 0, 0, 0⟩, .slice ⟨6, 0, 0, 1, 0⟩ 1 nw], some ⟨true, [.cell (.slice ⟨5, 0, 0, 1, 0⟩ 1 n), .arr [.int .u64] 64 tg]⟩, some ⟨true, [.arr [.int .u8] m d]⟩, some ⟨true, [.arr [.int .u8] mw w]⟩, 7 => some (.fine n tg m d off size v nw mw w)
  | .ret, [.int .i64 off, .int .i64 size, .int .u64 v, .bool false, .ptr ⟨4, 0, 0, 0, 0⟩, .slice ⟨6, 0, 0, 1, 0⟩ 1 nw], _, _, _, 7 => some (.bad off size v nw)
  | _, _, _, _, _, _ => none
theorem mbbDecE_ok (o : Out) (vs : List AV) (H : Heap) (N : Nat) (z : MbbE) (h : mbbDecE o vs H N = some z) : o = mbbO z ∧ o ≠ .normal ∧ vs = mbbV z ∧ (mbbG z).sub H ∧ N = mbbM z := by
  unfold mbbDecE at h
  split at h
  all_goals first
    | (cases h; done)
    | (cases h; refine ⟨rfl, nofun, rfl, ?_, rfl⟩; repeat (first | exact sub_nil | refine sub_cons (by assumption) ?_))
noncomputable def mbbStep : MbbS → Option (MbbS ⊕ MbbE)
 | .a n tg m d off size v nw mw w i =>
 (cond (i.slt 4096#64)
 (cond (g_ram n tg m d)
 (cond (!v_ok n i 1#64)
 (some (Sum.inr (MbbE.bad off size v nw)))
 (cond (nonneg IntKind.i64 i && decide (i.toNat < nw))
 (cond (decide (0 + i.toNat < mw) && decide (0 + i.toNat < w.length))
 (some (Sum.inl (MbbS.a n tg m d off size v nw mw (w.set (0 + i.toNat) [AV.int IntKind.u8 (BitVec.setWidth 8 (v_lV n d i 1#64))]) (i + 1#64))))
     none)
    none))
  none)
 (some (Sum.inr (MbbE.fine n tg m d off size v nw mw w))))

/-! ### RamBack: what is there -/
inductive MbcS where
  | a (n : Nat) (tg : List (List AV)) (m : Nat) (d : List (List AV)) (off : BitVec 64) (size : BitVec 64) (v : BitVec 64) (nw : Nat) (mw : Nat) (w : List (List AV)) (f : Bool) (i : BitVec 64)
inductive MbcE where
  | fine 
  | bad 
def mbcT : MbcS → List AV
  | .a _ _ _ _ off size v nw _ _ f i => [.int .i64 off, .int .i64 size, .int .u64 v, .ptr ⟨4, 0, 0, 0, 0⟩, .slice ⟨6, 0, 0, 1, 0⟩ 1 nw, .bool f, .int .i64 i]
def mbcH : MbcS → Heap
  | .a n tg m d _ _ _ _ mw w _ _ => [(4, ⟨true, [.cell (.slice ⟨5, 0, 0, 1, 0⟩ 1 n), .arr [.int .u64] 64 tg]⟩), (5, ⟨true, [.arr [.int .u8] m d]⟩), (6, ⟨true, [.arr [.int .u8] mw w]⟩)]
def mbcN : MbcS → Nat
  | .a _ _ _ _ _ _ _ _ _ _ _ _ => 7
def mbcDec (vs : List AV) (H : Heap) (N : Nat) : Option MbcS := match vs, H.find 4, H.find 5, H.find 6, N with
  | [.int .i64 off, .int .i64 size, .int .u64 v, .ptr ⟨4, 0, 0, 0, 0⟩, .slice ⟨6, 0, 0, 1, 0⟩ 1 nw, .bool f, .int .i64 i], some ⟨true, [.cell (.slice ⟨5, 0, 0, 1, 0⟩ 1 n), .arr [.int .u64] 64 tg]⟩, some ⟨true, [.arr [.int .u8] m d]⟩, some ⟨true, [.arr [.int .u8] mw w]⟩, 7 => some (.a n tg m d off size v nw mw w f i)
  | _, _, _, _, _ => none
theorem mbcDec_ok (vs : List AV) (H : Heap) (N : Nat) (y : MbcS) (h : mbcDec vs H N = some y) : vs = mbcT y ∧ (mbcH y).sub H ∧ N = mbcN y := by
  unfold mbcDec at h
  split at h
  all_goals first
    | (cases h; done)
    | (cases h; refine ⟨rfl, ?_, rfl⟩; repeat (first | exact sub_nil | refine sub_cons (by assumption) ?_))
def mbcO : MbcE → Out
  | .fine => .exit 4
  | .bad => .ret
def mbcV : MbcE → List AV
  | .fine => [.any]
  | .bad => [.bool false]
def mbcG : MbcE → Heap
  | .fine => []
  | .bad => []
def mbcM : MbcE → Nat
  | .fine => 7
  | .bad => 7
def mbcDecE (o : Out) (vs : List AV) (H : Heap) (N : Nat) : Option MbcE := match o, vs, N with
  | .exit 4, [.any], 7 => some (.fine)
  | .ret, [.bool false], 7 => some (.bad)
  | _, _, _ => none
theorem mbcDecE_ok (o : Out) (vs : List AV) (H : Heap) (N : Nat) (z : MbcE) (h : mbcDecE o vs H N = some z) : o = mbcO z ∧ o ≠ .normal ∧ vs = mbcV z ∧ (mbcG z).sub H ∧ N = mbcM z := by
  unfold mbcDecE at h
  split at h
  all_goals first
    | (cases h; done)
    | (cases h; refine ⟨rfl, nofun, rfl, ?_, rfl⟩; repeat (first | exact sub_nil | refine sub_cons (by assumption) ?_))
noncomputable def mbcStep : MbcS → Option (MbcS ⊕ MbcE)
 | .a n tg m d off size v nw mw w f i =>
 (cond (i.slt 4096#64)
 (cond (g_ram n tg m d)
 (cond (f)
 (cond (off.sle i)
 (cond (i.slt (off + size))
 (cond (!v_lV n d i 1#64 == v >>> min (BitVec.signExtend 64 (8#64 * (i - off))).toNat 64 % 256#64)
 (some (Sum.inr MbcE.bad))
 (some (Sum.inl (MbcS.a n tg m d off size v nw mw w f (i + 1#64)))))
 (cond (nonneg IntKind.i64 i && decide (i.toNat < nw))
 (cond (decide (0 + i.toNat < mw))
 (cond (!BitVec.setWidth 8 (v_lV n d i 1#64) == asU8 ((w.getD (0 + i.toNat) []).headD AV.any))
 (some (Sum.inr MbcE.bad))
 (some (Sum.inl (MbcS.a n tg m d off size v nw mw w f (i + 1#64)))))
       none)
      none))
 (cond (nonneg IntKind.i64 i && decide (i.toNat < nw))
 (cond (decide (0 + i.toNat < mw))
 (cond (!BitVec.setWidth 8 (v_lV n d i 1#64) == asU8 ((w.getD (0 + i.toNat) []).headD AV.any))
 (some (Sum.inr MbcE.bad))
 (some (Sum.inl (MbcS.a n tg m d off size v nw mw w f (i + 1#64)))))
      none)
     none))
 (cond (nonneg IntKind.i64 i && decide (i.toNat < nw))
 (cond (decide (0 + i.toNat < mw))
 (cond (!BitVec.setWidth 8 (v_lV n d i 1#64) == asU8 ((w.getD (0 + i.toNat) []).headD AV.any))
 (some (Sum.inr MbcE.bad))
 (some (Sum.inl (MbcS.a n tg m d off size v nw mw w f (i + 1#64)))))
     none)
    none))
  none)
 (some (Sum.inr MbcE.fine)))
end Go.Sx

/- Several texts in one. -/
import Derived.Test.YtkbcfbehebbmhaaGreatSxX
import Derived.Test.YtkbcfbehebbmhaaGreatSxLen2
import Derived.Test.YtkbcfbehebbmhaaGreatSxEC
import Derived.Test.YtkbcfbehebbmhaaGreatVa03
import Derived.Test.YtkbcfbehebbmhaaGreatPlRam4
import Derived.Test.YtkbcfbehebbmhaaGreatVa11
set_option linter.unusedSimpArgs false
set_option linter.unusedVariables false
set_option linter.unnecessarySimpa false
/- What loops do, round by round. -/
namespace Go.Sx
open Go

/-! ### the document: a load, byte by byte -/
inductive MxaS where
  | a (n : Nat) (t : Nat) (m : Nat) (d : List (List AV)) (mt : Nat) (T : List (List AV)) (off : BitVec 64) (v : BitVec 64) (i : BitVec 64)
inductive MxaE where
  | fine (n : Nat) (t : Nat) (m : Nat) (d : List (List AV)) (mt : Nat) (T : List (List AV)) (v : BitVec 64)
def mxaT : MxaS → List AV
  | .a _ _ _ _ _ _ off v i => [.ptr ⟨0, 0, 0, 0, 0⟩, .int .i64 off, .int .u64 v, .int .i64 i]
def mxaH : MxaS → Heap
  | .a n t m d mt T _ _ _ => [(0, ⟨true, [.cell (.slice ⟨1, 0, 0, 1, 0⟩ 1 n), .cell (.slice ⟨2, 0, 0, 1, 0⟩ 1 t)]⟩), (1, ⟨true, [.arr [.int .u8] m d]⟩), (2, ⟨true, [.arr [.bool] mt T]⟩)]
def mxaN : MxaS → Nat
  | .a _ _ _ _ _ _ _ _ _ => 3
def mxaDec (vs : List AV) (H : Heap) (N : Nat) : Option MxaS := match vs, H.find 0, H.find 1, H.find 2, N with
  | [.ptr ⟨0, 0, 0, 0, 0⟩, .int .i64 off, .int .u64 v, .int .i64 i], some ⟨true, [.cell (.slice ⟨1, 0, 0, 1, 0⟩ 1 n), .cell (.slice ⟨2, 0, 0, 1, 0⟩ 1 t)]⟩, some ⟨true, [.arr [.int .u8] m d]⟩, some ⟨true, [.arr [.bool] mt T]⟩, 3 => some (.a n t m d mt T off v i)
  | _, _, _, _, _ => none
theorem mxaDec_ok (vs : List AV) (H : Heap) (N : Nat) (y : MxaS) (h : mxaDec vs H N = some y) : vs = mxaT y ∧ (mxaH y).sub H ∧ N = mxaN y := by
  unfold mxaDec at h
  split at h
  all_goals first
    | (cases h; done)
    | (cases h; refine ⟨rfl, ?_, rfl⟩; repeat (first | exact sub_nil | refine sub_cons (by assumption) ?_))
def mxaO : MxaE → Out
  | .fine _ _ _ _ _ _ _ => .exit 0
def mxaV : MxaE → List AV
  | .fine _ _ _ _ _ _ v => [.int .u64 v]
def mxaG : MxaE → Heap
  | .fine n t m d mt T _ => [(0, ⟨true, [.cell (.slice ⟨1, 0, 0, 1, 0⟩ 1 n), .cell (.slice ⟨2, 0, 0, 1, 0⟩ 1 t)]⟩), (1, ⟨true, [.arr [.int .u8] m d]⟩), (2, ⟨true, [.arr [.bool] mt T]⟩)]
def mxaM : MxaE → Nat
  | .fine _ _ _ _ _ _ _ => 3
def mxaDecE (o : Out) (vs : List AV) (H : Heap) (N : Nat) : Option MxaE := match o, vs, H.find 0, H.find 1, H.find 2, N with
  | .exit 0, [.int .u64 v], some ⟨true, [.cell (.slice ⟨1, 0, 0, 1, 0⟩ 1 n), .cell (.slice ⟨2, 0, 0, 1, 0⟩ 1 t)]⟩, some ⟨true, [.arr [.int .u8] m d]⟩, some ⟨true, [.arr [.bool] mt T]⟩, 3 => some (.fine n t m d mt T v)
  | _, _, _, _, _, _ => none
theorem mxaDecE_ok (o : Out) (vs : List AV) (H : Heap) (N : Nat) (z : MxaE) (h : mxaDecE o vs H N = some z) : o = mxaO z ∧ o ≠ .normal ∧ vs = mxaV z ∧ (mxaG z).sub H ∧ N = mxaM z := by
  unfold mxaDecE at h
  split at h
  all_goals first
    | (cases h; done)
    | (cases h; refine ⟨rfl, nofun, rfl, ?_, rfl⟩; repeat (first | exact sub_nil | refine sub_cons (by assumption) ?_))
noncomputable def mxaStep : MxaS → Option (MxaS ⊕ MxaE)
 | .a n t m d mt T off v i =>
 (cond ((0#64).sle i)
 (cond (nonneg IntKind.i64 (off + i) && decide ((off + i).toNat < n))
 (cond (decide (0 + (off + i).toNat < m))
 (some (Sum.inl (MxaS.a n t m d mt T off (v * 256#64 + BitVec.setWidth 64 (asU8 ((d.getD (0 + (off + i).toNat) []).headD AV.any))) (i - 1#64))))
   none)
  none)
 (some (Sum.inr (MxaE.fine n t m d mt T v))))

/-! ### the document: a store, byte by byte -/
inductive MxbS where
  | a (n : Nat) (t : Nat) (m : Nat) (d : List (List AV)) (mt : Nat) (T : List (List AV)) (off : BitVec 64) (size : BitVec 64) (v : BitVec 64) (i : BitVec 64)
inductive MxbE where
  | fine (n : Nat) (t : Nat) (m : Nat) (d : List (List AV)) (mt : Nat) (T : List (List AV))
def mxbT : MxbS → List AV
  | .a _ _ _ _ _ _ off size v i => [.ptr ⟨0, 0, 0, 0, 0⟩, .int .i64 off, .int .i64 size, .int .u64 v, .int .i64 i]
def mxbH : MxbS → Heap
  | .a n t m d mt T _ _ _ _ => [(0, ⟨true, [.cell (.slice ⟨1, 0, 0, 1, 0⟩ 1 n), .cell (.slice ⟨2, 0, 0, 1, 0⟩ 1 t)]⟩), (1, ⟨true, [.arr [.int .u8] m d]⟩), (2, ⟨true, [.arr [.bool] mt T]⟩)]
def mxbN : MxbS → Nat
  | .a _ _ _ _ _ _ _ _ _ _ => 3
def mxbDec (vs : List AV) (H : Heap) (N : Nat) : Option MxbS := match vs, H.find 0, H.find 1, H.find 2, N with
  | [.ptr ⟨0, 0, 0, 0, 0⟩, .int .i64 off, .int .i64 size, .int .u64 v, .int .i64 i], some ⟨true, [.cell (.slice ⟨1, 0, 0, 1, 0⟩ 1 n), .cell (.slice ⟨2, 0, 0, 1, 0⟩ 1 t)]⟩, some ⟨true, [.arr [.int .u8] m d]⟩, some ⟨true, [.arr [.bool] mt T]⟩, 3 => some (.a n t m d mt T off size v i)
  | _, _, _, _, _ => none
theorem mxbDec_ok (vs : List AV) (H : Heap) (N : Nat) (y : MxbS) (h : mxbDec vs H N = some y) : vs = mxbT y ∧ (mxbH y).sub H ∧ N = mxbN y := by
  unfold mxbDec at h
  split at h
  all_goals first
    | (cases h; done)
    | (cases h; refine ⟨rfl, ?_, rfl⟩; repeat (first | exact sub_nil | refine sub_cons (by assumption) ?_))
def mxbO : MxbE → Out
  | .fine _ _ _ _ _ _ => .exit 0
def mxbV : MxbE → List AV
  | .fine _ _ _ _ _ _ => []
def mxbG : MxbE → Heap
  | .fine n t m d mt T => [(0, ⟨true, [.cell (.slice ⟨1, 0, 0, 1, 0⟩ 1 n), .cell (.slice ⟨2, 0, 0, 1, 0⟩ 1 t)]⟩), (1, ⟨true, [.arr [.int .u8] m d]⟩), (2, ⟨true, [.arr [.bool] mt T]⟩)]
def mxbM : MxbE → Nat
  | .fine _ _ _ _ _ _ => 3
def mxbDecE (o : Out) (vs : List AV) (H : Heap) (N : Nat) : Option MxbE := match o, vs, H.find 0, H.find 1, H.find 2, N with
  | .exit 0, [], some ⟨true, [.cell (.slice ⟨1, 0, 0, 1, 0⟩ 1 n), .cell (.slice ⟨2, 0, 0, 1, 0⟩ 1 t)]⟩, some ⟨true, [.arr [.int .u8] m d]⟩, some ⟨true, [.arr [.bool] mt T]⟩, 3 => some (.fine n t m d mt T)
  | _, _, _, _, _, _ => none
theorem mxbDecE_ok (o : Out) (vs : List AV) (H : Heap) (N : Nat) (z : MxbE) (h : mxbDecE o vs H N = some z) : o = mxbO z ∧ o ≠ .normal ∧ vs = mxbV z ∧ (mxbG z).sub H ∧ N = mxbM z := by
  unfold mxbDecE at h
  split at h
  all_goals first
    | (cases h; done)
    | (cases h; refine ⟨rfl, nofun, rfl, ?_, rfl⟩; repeat (first | exact sub_nil | refine sub_cons (by assumption) ?_))
noncomputable def mxbStep : MxbS → Option (MxbS ⊕ MxbE)
 | .a n t m d mt T off size v i =>
 (cond (i.slt size)
 (cond (nonneg IntKind.i64 (off + i) && decide ((off + i).toNat < n))
 (cond (decide (0 + (off + i).toNat < m) && decide (0 + (off + i).toNat < d.length))
 (cond (nonneg IntKind.i64 ((off + i).sdiv 16#64) && decide (((off + i).sdiv 16#64).toNat < t))
 (cond (decide (0 + ((off + i).sdiv 16#64).toNat < mt) && decide (0 + ((off + i).sdiv 16#64).toNat < T.length))
 (some (Sum.inl (MxbS.a n t m (d.set (0 + (off + i).toNat) [AV.int IntKind.u8 (BitVec.setWidth 8 (v >>> min (BitVec.signExtend 64 (8#64 * i)).toNat 64))]) mt (T.set (0 + ((off + i).sdiv 16#64).toNat) [AV.bool false]) off size v (i + 1#64))))
     none)
    none)
   none)
  none)
 (some (Sum.inr (MxbE.fine n t m d mt T))))

/-! ### the document: tags, one by one -/
inductive MxdS where
  | z (n : Nat) (t : Nat) (m : Nat) (d : List (List AV)) (mt : Nat) (T : List (List AV)) (i : BitVec 64)
  | s (n : Nat) (t : Nat) (m : Nat) (d : List (List AV)) (mt : Nat) (T : List (List AV)) (k : Nat) (kk : Nat) (g : List (List AV)) (i : BitVec 64)
inductive MxdE where
  | z (n : Nat) (t : Nat) (m : Nat) (d : List (List AV)) (mt : Nat) (T : List (List AV))
  | s (n : Nat) (t : Nat) (m : Nat) (d : List (List AV)) (mt : Nat) (T : List (List AV)) (k : Nat) (kk : Nat) (g : List (List AV))
def mxdT : MxdS → List AV
  | .z _ _ _ _ _ _ i => [.ptr ⟨0, 0, 0, 0, 0⟩, .nilslice, .int .i64 i]
  | .s _ _ _ _ _ _ k _ _ i => [.ptr ⟨0, 0, 0, 0, 0⟩, .slice ⟨3, 0, 0, 1, 0⟩ 1 k, .int .i64 i]
def mxdH : MxdS → Heap
  | .z n t m d mt T _ => [(0, ⟨true, [.cell (.slice ⟨1, 0, 0, 1, 0⟩ 1 n), .cell (.slice ⟨2, 0, 0, 1, 0⟩ 1 t)]⟩), (1, ⟨true, [.arr [.int .u8] m d]⟩), (2, ⟨true, [.arr [.bool] mt T]⟩)]
  | .s n t m d mt T _ kk g _ => [(0, ⟨true, [.cell (.slice ⟨1, 0, 0, 1, 0⟩ 1 n), .cell (.slice ⟨2, 0, 0, 1, 0⟩ 1 t)]⟩), (1, ⟨true, [.arr [.int .u8] m d]⟩), (2, ⟨true, [.arr [.bool] mt T]⟩), (3, ⟨true, [.arr [.int .i64] kk g]⟩)]
def mxdN : MxdS → Nat
  | .z _ _ _ _ _ _ _ => 3
  | .s _ _ _ _ _ _ _ _ _ _ => 4
def mxdDec (vs : List AV) (H : Heap) (N : Nat) : Option MxdS := match vs, H.find 0, H.find 1, H.find 2, H.find 3, N with
  | [.ptr ⟨0, 0, 0, 0, 0⟩, .nilslice, .int .i64 i], some ⟨true, [.cell (.slice ⟨1, 0, 0, 1, 0⟩ 1 n), .cell (.slice ⟨2, 0, 0, 1, 0⟩ 1 t)]⟩, some ⟨true, [.arr [.int .u8] m d]⟩, some ⟨true, [.arr [.bool] mt T]⟩, _, 3 => some (.z n t m d mt T i)
  | [.ptr ⟨0, 0, 0, 0, 0⟩, .slice ⟨3, 0, 0, 1, 0⟩ 1 k, .int .i64 i], some ⟨true, [.cell (.slice ⟨1, 0, 0, 1, 0⟩ 1 n), .cell (.slice ⟨2, 0, 0, 1, 0⟩ 1 t)]⟩, some ⟨true, [.arr [.int .u8] m d]⟩, some ⟨true, [.arr [.bool] mt T]⟩, some ⟨true, [.arr [.int .i64] kk g]⟩, 4 => some (.s n t m d mt T k kk g i)
  | _, _, _, _, _, _ => none
theorem mxdDec_ok (vs : List AV) (H : Heap) (N : Nat) (y : MxdS) (h : mxdDec vs H N = some y) : vs = mxdT y ∧ (mxdH y).sub H ∧ N = mxdN y := by
  unfold mxdDec at h
  split at h
  all_goals first
    | (cases h; done)
    | (cases h; refine ⟨rfl, ?_, rfl⟩; repeat (first | exact sub_nil | refine sub_cons (by assumption) ?_))
def mxdO : MxdE → Out
  | .z _ _ _ _ _ _ => .exit 0
  | .s _ _ _ _ _ _ _ _ _ => .exit 0
def mxdV : MxdE → List AV
  | .z _ _ _ _ _ _ => [.nilslice]
  | .s _ _ _ _ _ _ k _ _ => [.slice ⟨3, 0, 0, 1, 0⟩ 1 k]
def mxdG : MxdE → Heap
  | .z n t m d mt T => [(0, ⟨true, [.cell (.slice ⟨1, 0, 0, 1, 0⟩ 1 n), .cell (.slice ⟨2, 0, 0, 1, 0⟩ 1 t)]⟩), (1, ⟨true, [.arr [.int .u8] m d]⟩), (2, ⟨true, [.arr [.bool] mt T]⟩)]
  | .s n t m d mt T _ kk g => [(0, ⟨true, [.cell (.slice ⟨1, 0, 0, 1, 0⟩ 1 n), .cell (.slice ⟨2, 0, 0, 1, 0⟩ 1 t)]⟩), (1, ⟨true, [.arr [.int .u8] m d]⟩), (2, ⟨true, [.arr [.bool] mt T]⟩), (3, ⟨true, [.arr [.int .i64] kk g]⟩)]
def mxdM : MxdE → Nat
  | .z _ _ _ _ _ _ => 3
  | .s _ _ _ _ _ _ _ _ _ => 4
def mxdDecE (o : Out) (vs : List AV) (H : Heap) (N : Nat) : Option MxdE := match o, vs, H.find 0, H.find 1, H.find 2, H.find 3, N with
  | .exit 0, [.nilslice], some ⟨true, [.cell (.slice ⟨1, 0, 0, 1, 0⟩ 1 n), .cell (.slice ⟨2, 0, 0, 1, 0⟩ 1 t)]⟩, some ⟨true, [.arr [.int .u8] m d]⟩, some ⟨true, [.arr [.bool] mt T]⟩, _, 3 => some (.z n t m d mt T)
  | .exit 0, [.slice ⟨3, 0, 0, 1, 0⟩ 1 k], some ⟨true, [.cell (.slice ⟨1, 0, 0, 1, 0⟩ 1 n), .cell (.slice ⟨2, 0, 0, 1, 0⟩ 1 t)]⟩, some ⟨true, [.arr [.int .u8] m d]⟩, some ⟨true, [.arr [.bool] mt T]⟩, some ⟨true, [.arr [.int .i64] kk g]⟩, 4 => some (.s n t m d mt T k kk g)
  | _, _, _, _, _, _, _ => none
theorem mxdDecE_ok (o : Out) (vs : List AV) (H : Heap) (N : Nat) (z : MxdE) (h : mxdDecE o vs H N = some z) : o = mxdO z ∧ o ≠ .normal ∧ vs = mxdV z ∧ (mxdG z).sub H ∧ N = mxdM z := by
  unfold mxdDecE at h
  split at h
  all_goals first
    | (cases h; done)
    | (cases h; refine ⟨rfl, nofun, rfl, ?_, rfl⟩; repeat (first | exact sub_nil | refine sub_cons (by assumption) ?_))
noncomputable def mxdStep : MxdS → Option (MxdS ⊕ MxdE)
 | .z n t m d mt T i =>
 (cond (i.slt (BitVec.ofNat 64 t))
 (cond (nonneg IntKind.i64 i && decide (i.toNat < t))
 (cond (decide (0 + i.toNat < mt))
 (cond (((T.getD (0 + i.toNat) []).headD AV.any).asBool)
 (some (Sum.inl (MxdS.s n t m d mt T 1 1 [[AV.int IntKind.i64 (16#64 * i)]] (i + 1#64))))
 (some (Sum.inl (MxdS.z n t m d mt T (i + 1#64)))))
   none)
  none)
 (some (Sum.inr (MxdE.z n t m d mt T))))
 | .s n t m d mt T k kk g i =>
 (cond (i.slt (BitVec.ofNat 64 t))
 (cond (nonneg IntKind.i64 i && decide (i.toNat < t))
 (cond (decide (0 + i.toNat < mt))
 (cond (((T.getD (0 + i.toNat) []).headD AV.any).asBool)
 (cond (decide (0 + k ≤ kk) && decide (g.length = kk))
 (cond (true && v_room (k + 1) 8)
 (some (Sum.inl (MxdS.s n t m d mt T (k + 1) (k + 1) (List.take k (List.drop 0 g) ++ [[AV.int IntKind.i64 (16#64 * i)]]) (i + 1#64))))
      none)
     none)
 (some (Sum.inl (MxdS.s n t m d mt T k kk g (i + 1#64)))))
   none)
  none)
 (some (Sum.inr (MxdE.s n t m d mt T k kk g))))
end Go.Sx

/- The document's memory: its loops. -/
namespace Go.Sx
open Go
def xgetGo (d : List (List AV)) (o : Nat) : Nat → BitVec 64 → BitVec 64
  | 0, v => v
  | k + 1, v => xgetGo d o k (v * 256#64 + BitVec.setWidth 64 (bA d (o + k)))
def v_xget (d : List (List AV)) (o n : Nat) : BitVec 64 := xgetGo d o n 0#64
theorem add_nat {a b : BitVec 64} (h : a.toNat + b.toNat < 2 ^ 64) : (a + b).toNat = a.toNat + b.toNat := by
  rw [BitVec.toNat_add]; exact Nat.mod_eq_of_lt h
theorem ofNat_dec (k : Nat) : BitVec.ofNat 64 (k + 1) - 1#64 = BitVec.ofNat 64 k := by
  apply BitVec.eq_of_toNat_eq
  simp only [BitVec.toNat_sub, BitVec.toNat_ofNat]
  omega
theorem dec_lt : (0#64).sle (BitVec.ofNat 64 0 - 1#64) = false := by decide
theorem mxa_rn (n t m : Nat) (d : List (List AV)) (mt : Nat) (T : List (List AV)) (off : BitVec 64) (hm : n ≤ m) (hn : n ≤ 65536) : ∀ (k : Nat) (v : BitVec 64), off.toNat + k ≤ n →
    Rn mxaStep (.a n t m d mt T off v (BitVec.ofNat 64 k - 1#64)) (.fine n t m d mt T (xgetGo d off.toNat k v)) := by
  intro k
  induction k with
  | zero => intro v h; refine .last ?_; simp only [mxaStep, dec_lt, cond_false, xgetGo]
  | succ k ih =>
    intro v h
    have hk : (BitVec.ofNat 64 k).toNat = k := ofNat_toNat (by omega)
    have ha : (off + BitVec.ofNat 64 k).toNat = off.toNat + k := by rw [add_nat (by omega), hk]
    rw [ofNat_dec]
    refine .next (y := .a n t m d mt T off (v * 256#64 + BitVec.setWidth 64 (bA d (off.toNat + k))) (BitVec.ofNat 64 k - 1#64)) ?_ (ih _ (by omega))
    simp only [mxaStep]
    rw [sle_nat (by decide) (by omega), nonneg_lt (by omega), ha, hk]
    rw [decide_eq_true (show (0#64).toNat ≤ k by simp), decide_eq_true (show off.toNat + k < n by omega), decide_eq_true (show 0 + (off.toNat + k) < m by omega), Nat.zero_add]
    rfl
def g_xa (n m : Nat) (off c : BitVec 64) : Bool := Nat.ble n m && (Nat.ble n 65536 && Nat.ble (off.toNat + c.toNat) n)
theorem g_xa_iff {n m : Nat} {off c : BitVec 64} : g_xa n m off c = true ↔ n ≤ m ∧ n ≤ 65536 ∧ off.toNat + c.toNat ≤ n := by
  simp only [g_xa, Bool.and_eq_true, Nat.ble_eq]
def mxaCps : Cps MxaS := fun R x K => match x with
  | .a n t m d mt T off v i => cond (g_xa n m off (i + 1#64) && v == 0#64) (K (.exit 0) (tmOf [8] [.int .u64 (v_xget d off.toNat (i + 1#64).toNat)])
      [(0, ⟨true, [.cell (.slice ⟨1, 0, 0, 1, 0⟩ 1 n), .cell (.slice ⟨2, 0, 0, 1, 0⟩ 1 t)]⟩), (1, ⟨true, [.arr [.int .u8] m d]⟩), (2, ⟨true, [.arr [.bool] mt T]⟩)] 3) none
theorem mxaCps_ok (R : Type) (x : MxaS) (K : Out → TM → Heap → Nat → Option R) (r : R) (h : mxaCps R x K = some r) : ∃ z, Rn mxaStep x z ∧ K (mxaO z) (tmOf [8] (mxaV z)) (mxaG z) (mxaM z) = some r := by
  cases x with
  | a n t m d mt T off v i =>
    obtain ⟨hg, hk⟩ := condK h
    simp only [Bool.and_eq_true, beq_iff_eq] at hg
    obtain ⟨hg, rfl⟩ := hg
    obtain ⟨h1, h2, h3⟩ := g_xa_iff.1 hg
    have e : i = BitVec.ofNat 64 (i + 1#64).toNat - 1#64 := by rw [BitVec.ofNat_toNat, BitVec.setWidth_eq]; exact (BitVec.add_sub_cancel i 1#64).symm
    have hr := mxa_rn n t m d mt T off h1 h2 (i + 1#64).toNat 0#64 h3
    rw [← e] at hr
    exact ⟨_, hr, hk⟩
/-! ### a store -/
def v_xclr (T : List (List AV)) (o n : Nat) : List (List AV) := (List.range n).foldl (fun T i => T.set ((o + i) / 16) [.bool false]) T
theorem v_xclr_succ (T : List (List AV)) (o n : Nat) : v_xclr T o (n + 1) = (v_xclr T o n).set ((o + n) / 16) [.bool false] := by
  simp [v_xclr, List.range_succ, List.foldl_append]
theorem v_xclr_len (T : List (List AV)) (o : Nat) : ∀ n, (v_xclr T o n).length = T.length
  | 0 => rfl
  | n + 1 => by rw [v_xclr_succ, List.length_set, v_xclr_len T o n]
theorem div16 (x : BitVec 64) (h : x.toNat < 2 ^ 63) : (x.sdiv 16#64).toNat = x.toNat / 16 := by
  rw [sdivN x 16#64 (by decide) h, BitVec.toNat_udiv]; rfl
theorem mxb_rn (n t m : Nat) (d : List (List AV)) (mt : Nat) (T : List (List AV)) (off size v : BitVec 64) (hm : n ≤ m) (hd : d.length = m) (hn : n ≤ 65536) (ht : n ≤ 16 * t) (hmt : t ≤ mt) (hT : T.length = mt) (hle : off.toNat + size.toNat ≤ n) (h16 : size.toNat ≤ 16) : ∀ (k i : Nat), size.toNat - i = k → i ≤ size.toNat →
    Rn mxbStep (.a n t m (v_put d off.toNat i v) mt (v_xclr T off.toNat i) off size v (BitVec.ofNat 64 i)) (.fine n t m (v_put d off.toNat size.toNat v) mt (v_xclr T off.toNat size.toNat)) := by
  intro k
  induction k with
  | zero =>
    intro i hk hi
    have e : i = size.toNat := by omega
    subst e
    refine .last ?_
    simp only [mxbStep]
    rw [slt_nat (by rw [ofNat_toNat (by omega)]; omega) (by omega), ofNat_toNat (by omega), decide_eq_false (by omega)]; rfl
  | succ k ih =>
    intro i hk hi
    have e := ofNat_inc (i := i) (by omega)
    have hi2 : (BitVec.ofNat 64 i).toNat = i := ofNat_toNat (by omega)
    have ha : (off + BitVec.ofNat 64 i).toNat = off.toNat + i := by rw [add_nat (by omega), hi2]
    have hq := div16 (off + BitVec.ofNat 64 i) (by omega)
    rw [ha] at hq
    refine .next (y := .a n t m (v_put d off.toNat (i + 1) v) mt (v_xclr T off.toNat (i + 1)) off size v (BitVec.ofNat 64 (i + 1))) ?_ (ih (i + 1) (by omega) (by omega))
    simp only [mxbStep]
    have h8 := mul8 (i := i) (by omega)
    rw [slt_nat (by omega) (by omega), nonneg_lt (by omega), nonneg_lt (by omega), ha, hq, hi2, BitVec.signExtend_eq, h8, v_put_len, v_xclr_len, e, v_put_succ, v_xclr_succ]
    rw [decide_eq_true (show i < size.toNat by omega), decide_eq_true (show off.toNat + i < n by omega), decide_eq_true (show 0 + (off.toNat + i) < m by omega), decide_eq_true (show 0 + (off.toNat + i) < d.length by omega), decide_eq_true (show (off.toNat + i) / 16 < t by omega), decide_eq_true (show 0 + (off.toNat + i) / 16 < mt by omega), decide_eq_true (show 0 + (off.toNat + i) / 16 < T.length by omega), Nat.zero_add, Nat.zero_add]
    rfl
def g_xb (n t m : Nat) (d : List (List AV)) (mt : Nat) (T : List (List AV)) (off size : BitVec 64) : Bool :=
  Nat.ble n m && (Nat.beq d.length m && (Nat.ble n 65536 && (Nat.ble n (16 * t) && (Nat.ble t mt && (Nat.beq T.length mt && (Nat.ble (off.toNat + size.toNat) n && Nat.ble size.toNat 16))))))
theorem g_xb_iff {n t m : Nat} {d : List (List AV)} {mt : Nat} {T : List (List AV)} {off size : BitVec 64} : g_xb n t m d mt T off size = true ↔ n ≤ m ∧ d.length = m ∧ n ≤ 65536 ∧ n ≤ 16 * t ∧ t ≤ mt ∧ T.length = mt ∧ off.toNat + size.toNat ≤ n ∧ size.toNat ≤ 16 := by
  simp only [g_xb, Bool.and_eq_true, beq_true, Nat.ble_eq]
def mxbCps : Cps MxbS := fun R x K => match x with
  | .a n t m d mt T off size v i => cond (g_xb n t m d mt T off size && i == 0#64) (K (.exit 0) (tmOf [] [])
      [(0, ⟨true, [.cell (.slice ⟨1, 0, 0, 1, 0⟩ 1 n), .cell (.slice ⟨2, 0, 0, 1, 0⟩ 1 t)]⟩), (1, ⟨true, [.arr [.int .u8] m (v_put d off.toNat size.toNat v)]⟩), (2, ⟨true, [.arr [.bool] mt (v_xclr T off.toNat size.toNat)]⟩)] 3) none
theorem mxbCps_ok (R : Type) (x : MxbS) (K : Out → TM → Heap → Nat → Option R) (r : R) (h : mxbCps R x K = some r) : ∃ z, Rn mxbStep x z ∧ K (mxbO z) (tmOf [] (mxbV z)) (mxbG z) (mxbM z) = some r := by
  cases x with
  | a n t m d mt T off size v i =>
    obtain ⟨hg, hk⟩ := condK h
    simp only [Bool.and_eq_true, beq_iff_eq] at hg
    obtain ⟨hg, rfl⟩ := hg
    obtain ⟨h1, h2, h3, h4, h5, h6, h7, h8⟩ := g_xb_iff.1 hg
    exact ⟨_, mxb_rn n t m d mt T off size v h1 h2 h3 h4 h5 h6 h7 h8 _ 0 rfl (by omega), hk⟩
/-! ### where tags are -/
def cB (T : List (List AV)) (j : Nat) : Bool := ((T.getD j []).headD .any).asBool
def v_xtagged (T : List (List AV)) (t : Nat) : List (List AV) := tgs (cB T) t
def mxdA (n t m : Nat) (d : List (List AV)) (mt : Nat) (T l : List (List AV)) (i : BitVec 64) : MxdS := match l with
  | [] => .z n t m d mt T i
  | _ :: _ => .s n t m d mt T l.length l.length l i
def mxdB (n t m : Nat) (d : List (List AV)) (mt : Nat) (T l : List (List AV)) : MxdE := match l with
  | [] => .z n t m d mt T
  | _ :: _ => .s n t m d mt T l.length l.length l
theorem mxd_step (n t m : Nat) (d : List (List AV)) (mt : Nat) (T l : List (List AV)) (j : Nat) (hj : j < t) (ht : t ≤ mt) (hn : t ≤ 65536) (hl : l.length ≤ j) :
    mxdStep (mxdA n t m d mt T l (BitVec.ofNat 64 j)) = some (.inl (mxdA n t m d mt T (cond (cB T j) (l ++ [[.int .i64 (BitVec.ofNat 64 (16 * j))]]) l) (BitVec.ofNat 64 (j + 1)))) := by
  have hi : (BitVec.ofNat 64 j).toNat = j := ofNat_toNat (by omega)
  have e := ofNat_inc (i := j) (by omega)
  have c1 := slt_len (x := BitVec.ofNat 64 j) (n := t) (by omega) (by omega)
  rw [hi, decide_eq_true hj] at c1
  have c2 := nonneg_lt (x := BitVec.ofNat 64 j) (by omega)
  have e16 : 16#64 * BitVec.ofNat 64 j = BitVec.ofNat 64 (16 * j) := by
    apply BitVec.eq_of_toNat_eq
    rw [BitVec.toNat_mul, hi, ofNat_toNat (n := 16 * j) (by omega), show (16#64).toNat = 16 from rfl]; omega
  cases l with
  | nil =>
    simp only [mxdA, mxdStep, c1, c2, e, e16, hi, decide_eq_true hj, decide_eq_true (show 0 + j < mt by omega), Nat.zero_add, Bool.and_true, cond_true, decide_eq_true (show j < mt by omega)]
    show cond (cB T j) _ _ = _
    cases cB T j <;> rfl
  | cons r l =>
    have c4 : v_room ((r :: l).length + 1) 8 = true := room_le (by omega)
    simp only [mxdA, mxdStep, c1, c2, c4, e, e16, hi, decide_eq_true hj, decide_eq_true (show j < mt by omega), decide_eq_true (show (r :: l).length ≤ (r :: l).length by omega), decide_eq_true (show (r :: l).length = (r :: l).length from rfl), List.drop_zero, List.take_length, Nat.zero_add, Bool.and_true, cond_true]
    show cond (cB T j) _ _ = _
    cases cB T j with
    | true =>
      simp only [cond_true]
      have : (r :: l ++ [[AV.int IntKind.i64 (BitVec.ofNat 64 (16 * j))]]).length = (r :: l).length + 1 := by simp
      show _ = some (Sum.inl (MxdS.s n t m d mt T (r :: l ++ [[AV.int IntKind.i64 (BitVec.ofNat 64 (16 * j))]]).length (r :: l ++ [[AV.int IntKind.i64 (BitVec.ofNat 64 (16 * j))]]).length (r :: l ++ [[AV.int IntKind.i64 (BitVec.ofNat 64 (16 * j))]]) _))
      rw [this]
      rfl
    | false => rfl
theorem mxd_rn (n t m : Nat) (d : List (List AV)) (mt : Nat) (T : List (List AV)) (ht : t ≤ mt) (hn : t ≤ 65536) : ∀ (k j : Nat), t - j = k → j ≤ t →
    Rn mxdStep (mxdA n t m d mt T (tgs (cB T) j) (BitVec.ofNat 64 j)) (mxdB n t m d mt T (v_xtagged T t)) := by
  intro k
  induction k with
  | zero =>
    intro j hk hj
    have e : j = t := by omega
    subst e
    refine .last ?_
    unfold v_xtagged
    have c1 : (BitVec.ofNat 64 j).slt (BitVec.ofNat 64 j) = false := by rw [slt_nat (by rw [ofNat_toNat (by omega)]; omega) (by rw [ofNat_toNat (by omega)]; omega)]; exact decide_eq_false (by omega)
    generalize tgs (cB T) j = l
    cases l <;> simp only [mxdA, mxdB, mxdStep, c1, cond_false]
  | succ k ih =>
    intro j hk hj
    refine .next (mxd_step n t m d mt T _ j (by omega) ht hn (tgs_len _ _)) ?_
    rw [← tgs_succ (cB T) j]
    exact ih (j + 1) (by omega) (by omega)
def g_xd (t mt : Nat) : Bool := Nat.ble t mt && Nat.ble t 65536
def mxdCps : Cps MxdS := fun R x K => match x with
  | .z n t m d mt T i => cond (g_xd t mt && i == 0#64) (cond (v_emp (v_xtagged T t))
      (K (.exit 0) (tmOf [3] [.nilslice]) [(0, ⟨true, [.cell (.slice ⟨1, 0, 0, 1, 0⟩ 1 n), .cell (.slice ⟨2, 0, 0, 1, 0⟩ 1 t)]⟩), (1, ⟨true, [.arr [.int .u8] m d]⟩), (2, ⟨true, [.arr [.bool] mt T]⟩)] 3)
      (K (.exit 0) (tmOf [3] [.slice ⟨3, 0, 0, 1, 0⟩ 1 (v_xtagged T t).length]) [(0, ⟨true, [.cell (.slice ⟨1, 0, 0, 1, 0⟩ 1 n), .cell (.slice ⟨2, 0, 0, 1, 0⟩ 1 t)]⟩), (1, ⟨true, [.arr [.int .u8] m d]⟩), (2, ⟨true, [.arr [.bool] mt T]⟩), (3, ⟨true, [.arr [.int .i64] (v_xtagged T t).length (v_xtagged T t)]⟩)] 4)) none
  | .s .. => none
theorem mxdCps_ok (R : Type) (x : MxdS) (K : Out → TM → Heap → Nat → Option R) (r : R) (h : mxdCps R x K = some r) : ∃ z, Rn mxdStep x z ∧ K (mxdO z) (tmOf [3] (mxdV z)) (mxdG z) (mxdM z) = some r := by
  cases x with
  | s => simp [mxdCps] at h
  | z n t m d mt T i =>
    obtain ⟨hg, hk⟩ := condK h
    clear h
    simp only [g_xd, Bool.and_eq_true, beq_iff_eq, Nat.ble_eq] at hg
    obtain ⟨⟨h1, h2⟩, rfl⟩ := hg
    have hr := mxd_rn n t m d mt T h1 h2 _ 0 rfl (by omega)
    refine ⟨_, hr, ?_⟩
    cases hl : v_xtagged T t with
    | nil => rw [hl] at hk; exact hk
    | cons r l => rw [hl] at hk; exact hk
end Go.Sx

/- What loops do, round by round. -/
namespace Go.Sx
open Go

/-! ### the document: a load -/
inductive MxlS where
  | a (n : Nat) (t : Nat) (m : Nat) (d : List (List AV)) (mt : Nat) (T : List (List AV)) (off : BitVec 64) (size : BitVec 64)
inductive MxlR where
  | a (x : BitVec 64) (r : Bool) (n2 : Nat) (t2 : Nat) (m2 : Nat) (d2 : List (List AV)) (mt2 : Nat) (T2 : List (List AV))
def mxlA : MxlS → List AV
  | .a _ _ _ _ _ _ off size => [.ptr ⟨0, 0, 0, 0, 0⟩, .int .i64 off, .int .i64 size]
def mxlH : MxlS → Heap
  | .a n t m d mt T _ _ => [(0, ⟨true, [.cell (.slice ⟨1, 0, 0, 1, 0⟩ 1 n), .cell (.slice ⟨2, 0, 0, 1, 0⟩ 1 t)]⟩), (1, ⟨true, [.arr [.int .u8] m d]⟩), (2, ⟨true, [.arr [.bool] mt T]⟩)]
def mxlDec (args : List AV) (H : Heap) : Option MxlS := match args, H with
  | [.ptr ⟨0, 0, 0, 0, 0⟩, .int .i64 off, .int .i64 size], [(0, ⟨true, [.cell (.slice ⟨1, 0, 0, 1, 0⟩ 1 n), .cell (.slice ⟨2, 0, 0, 1, 0⟩ 1 t)]⟩), (1, ⟨true, [.arr [.int .u8] m d]⟩), (2, ⟨true, [.arr [.bool] mt T]⟩)] => some (.a n t m d mt T off size)
  | _, _ => none
theorem mxlDec_ok (args : List AV) (H : Heap) (x : MxlS) (h : mxlDec args H = some x) : args = mxlA x ∧ H = mxlH x := by
  unfold mxlDec at h
  split at h
  all_goals first
    | (cases h; done)
    | (cases h; exact ⟨rfl, rfl⟩)
def mxlU : MxlR → AV × Eff × Nat
  | .a x r n2 t2 m2 d2 mt2 T2 => (.tup [.int .u64 x, .bool r], [(2, some ⟨true, [.arr [.bool] mt2 T2]⟩), (1, some ⟨true, [.arr [.int .u8] m2 d2]⟩), (0, some ⟨true, [.cell (.slice ⟨1, 0, 0, 1, 0⟩ 1 n2), .cell (.slice ⟨2, 0, 0, 1, 0⟩ 1 t2)]⟩)], 3)
def mxlDecR (v : AV) (e : Eff) (k : Nat) : Option MxlR := match v, e, k with
  | .tup [.int .u64 x, .bool r], [(2, some ⟨true, [.arr [.bool] mt2 T2]⟩), (1, some ⟨true, [.arr [.int .u8] m2 d2]⟩), (0, some ⟨true, [.cell (.slice ⟨1, 0, 0, 1, 0⟩ 1 n2), .cell (.slice ⟨2, 0, 0, 1, 0⟩ 1 t2)]⟩)], 3 => some (.a x r n2 t2 m2 d2 mt2 T2)
  | _, _, _ => none
theorem mxlDecR_ok (v : AV) (e : Eff) (k : Nat) (z : MxlR) (h : mxlDecR v e k = some z) : (v, e, k) = mxlU z := by
  unfold mxlDecR at h
  split at h
  all_goals first
    | (cases h; done)
    | (cases h; rfl)
noncomputable def mxlStep : MxlS → Option MxlR
 | .a n t m d mt T off size =>
 (cond (!v_r11_sized size)
 (some (MxlR.a (0#64) false n t m d mt T))
 (cond ((0#64).sle off)
 (cond (!off.sle (BitVec.ofNat 64 n - size))
 (some (MxlR.a (0#64) false n t m d mt T))
 (cond (g_xa n m off (size - 1#64 + 1#64) && true)
 (some (MxlR.a (v_xget d off.toNat (size - 1#64 + 1#64).toNat) true n t m d mt T))
    none))
 (some (MxlR.a (0#64) false n t m d mt T))))

/-! ### the document: a store -/
inductive MxsS where
  | a (n : Nat) (t : Nat) (m : Nat) (d : List (List AV)) (mt : Nat) (T : List (List AV)) (off : BitVec 64) (size : BitVec 64) (v : BitVec 64)
inductive MxsR where
  | a (r : Bool) (n2 : Nat) (t2 : Nat) (m2 : Nat) (d2 : List (List AV)) (mt2 : Nat) (T2 : List (List AV))
def mxsA : MxsS → List AV
  | .a _ _ _ _ _ _ off size v => [.ptr ⟨0, 0, 0, 0, 0⟩, .int .i64 off, .int .i64 size, .int .u64 v]
def mxsH : MxsS → Heap
  | .a n t m d mt T _ _ _ => [(0, ⟨true, [.cell (.slice ⟨1, 0, 0, 1, 0⟩ 1 n), .cell (.slice ⟨2, 0, 0, 1, 0⟩ 1 t)]⟩), (1, ⟨true, [.arr [.int .u8] m d]⟩), (2, ⟨true, [.arr [.bool] mt T]⟩)]
def mxsDec (args : List AV) (H : Heap) : Option MxsS := match args, H with
  | [.ptr ⟨0, 0, 0, 0, 0⟩, .int .i64 off, .int .i64 size, .int .u64 v], [(0, ⟨true, [.cell (.slice ⟨1, 0, 0, 1, 0⟩ 1 n), .cell (.slice ⟨2, 0, 0, 1, 0⟩ 1 t)]⟩), (1, ⟨true, [.arr [.int .u8] m d]⟩), (2, ⟨true, [.arr [.bool] mt T]⟩)] => some (.a n t m d mt T off size v)
  | _, _ => none
theorem mxsDec_ok (args : List AV) (H : Heap) (x : MxsS) (h : mxsDec args H = some x) : args = mxsA x ∧ H = mxsH x := by
  unfold mxsDec at h
  split at h
  all_goals first
    | (cases h; done)
    | (cases h; exact ⟨rfl, rfl⟩)
def mxsU : MxsR → AV × Eff × Nat
  | .a r n2 t2 m2 d2 mt2 T2 => (.bool r, [(2, some ⟨true, [.arr [.bool] mt2 T2]⟩), (1, some ⟨true, [.arr [.int .u8] m2 d2]⟩), (0, some ⟨true, [.cell (.slice ⟨1, 0, 0, 1, 0⟩ 1 n2), .cell (.slice ⟨2, 0, 0, 1, 0⟩ 1 t2)]⟩)], 3)
def mxsDecR (v : AV) (e : Eff) (k : Nat) : Option MxsR := match v, e, k with
  | .bool r, [(2, some ⟨true, [.arr [.bool] mt2 T2]⟩), (1, some ⟨true, [.arr [.int .u8] m2 d2]⟩), (0, some ⟨true, [.cell (.slice ⟨1, 0, 0, 1, 0⟩ 1 n2), .cell (.slice ⟨2, 0, 0, 1, 0⟩ 1 t2)]⟩)], 3 => some (.a r n2 t2 m2 d2 mt2 T2)
  | _, _, _ => none
theorem mxsDecR_ok (v : AV) (e : Eff) (k : Nat) (z : MxsR) (h : mxsDecR v e k = some z) : (v, e, k) = mxsU z := by
  unfold mxsDecR at h
  split at h
  all_goals first
    | (cases h; done)
    | (cases h; rfl)
noncomputable def mxsStep : MxsS → Option MxsR
 | .a n t m d mt T off size v =>
 (cond (!v_r11_sized size)
 (some (MxsR.a false n t m d mt T))
 (cond ((0#64).sle off)
 (cond (!off.sle (BitVec.ofNat 64 n - size))
 (some (MxsR.a false n t m d mt T))
 (cond (g_xb n t m d mt T off size && true)
 (some (MxsR.a true n t m (v_put d off.toNat size.toNat v) mt (v_xclr T off.toNat size.toNat)))
    none))
 (some (MxsR.a false n t m d mt T))))
end Go.Sx

/- The document's memory: loads and stores, as answers. -/
namespace Go.Sx
open Go
def g_xram (n t m : Nat) (d : List (List AV)) (mt : Nat) (T : List (List AV)) : Bool :=
  Nat.beq m n && (Nat.beq d.length n && (Nat.beq (16 * t) n && (Nat.beq mt t && (Nat.beq T.length t && (Nat.ble 4096 n && Nat.ble n 65536)))))
theorem g_xram_iff {n t m : Nat} {d : List (List AV)} {mt : Nat} {T : List (List AV)} : g_xram n t m d mt T = true ↔ m = n ∧ d.length = n ∧ 16 * t = n ∧ mt = t ∧ T.length = t ∧ 4096 ≤ n ∧ n ≤ 65536 := by
  simp only [g_xram, Bool.and_eq_true, beq_true, Nat.ble_eq]
theorem r_sized (size : BitVec 64) : v_r11_sized size = v_sized size := by
  unfold v_r11_sized v_sized
  cases size == 1#64 <;> cases size == 2#64 <;> cases size == 4#64 <;> rfl
theorem in_sle (n : Nat) (off size : BitVec 64) : v_in n off size = ((0#64).sle off && off.sle (BitVec.ofNat 64 n - size)) := by
  unfold v_in
  rw [BitVec.sle_eq_not_slt, BitVec.sle_eq_not_slt]
def v_xlV (n : Nat) (d : List (List AV)) (off size : BitVec 64) : BitVec 64 := cond (v_ok n off size) (v_xget d off.toNat size.toNat) 0#64
def mxlCps : ECps MxlS MxlR := fun R x K => match x with
  | .a n t m d mt T off size => cond (g_xram n t m d mt T) (K (.a (v_xlV n d off size) (v_ok n off size) n t m d mt T)) none
theorem mxlCps_ok : ECok mxlStep mxlCps := by
  intro R x K r h
  cases x with
  | a n t m d mt T off size =>
    obtain ⟨hg, hk⟩ := condK h
    obtain ⟨rfl, h1, h2, rfl, h4, h5, h6⟩ := g_xram_iff.1 hg
    refine ⟨_, ?_, hk⟩
    simp only [mxlStep, v_xlV, v_ok, r_sized]
    cases hs : v_sized size with
    | false => rfl
    | true =>
      have hsz := v_sized_nat hs
      have hin := v_in_iff (n := m) (off := off) (size := size) h6 (by omega)
      rw [in_sle] at hin ⊢
      rw [show size - 1#64 + 1#64 = size from BitVec.sub_add_cancel size 1#64]
      cases h0 : (0#64).sle off with
      | false => rfl
      | true =>
        cases h9 : off.sle (BitVec.ofNat 64 m - size) with
        | false => rfl
        | true =>
          have hle := hin.1 (by rw [h0, h9]; rfl)
          have hg2 : g_xa m m off size = true := g_xa_iff.2 ⟨Nat.le_refl _, h6, hle⟩
          rw [hg2]; rfl
def v_xsT (n : Nat) (T : List (List AV)) (off size : BitVec 64) : List (List AV) := cond (v_ok n off size) (v_xclr T off.toNat size.toNat) T
def mxsCps : ECps MxsS MxsR := fun R x K => match x with
  | .a n t m d mt T off size v => cond (g_xram n t m d mt T) (K (.a (v_ok n off size) n t m (v_sD n d off size v) mt (v_xsT n T off size))) none
theorem mxsCps_ok : ECok mxsStep mxsCps := by
  intro R x K r h
  cases x with
  | a n t m d mt T off size v =>
    obtain ⟨hg, hk⟩ := condK h
    obtain ⟨rfl, h1, h2, rfl, h4, h5, h6⟩ := g_xram_iff.1 hg
    refine ⟨_, ?_, hk⟩
    simp only [mxsStep, v_sD, v_xsT, v_ok, r_sized]
    cases hs : v_sized size with
    | false => rfl
    | true =>
      have hsz := v_sized_nat hs
      have hin := v_in_iff (n := m) (off := off) (size := size) h6 (by omega)
      rw [in_sle] at hin ⊢
      cases h0 : (0#64).sle off with
      | false => rfl
      | true =>
        cases h9 : off.sle (BitVec.ofNat 64 m - size) with
        | false => rfl
        | true =>
          have hle := hin.1 (by rw [h0, h9]; rfl)
          have hg2 : g_xb m mt m d mt T off size = true := g_xb_iff.2 ⟨Nat.le_refl _, h1, h6, by omega, Nat.le_refl _, h4, hle, by omega⟩
          rw [hg2]; rfl
end Go.Sx

/- What loops do, round by round. -/
namespace Go.Sx
open Go

/-! ### the document: a granule -/
inductive MxcS where
  | a (n : Nat) (t : Nat) (m : Nat) (d : List (List AV)) (mt : Nat) (T : List (List AV)) (off : BitVec 64)
inductive MxcR where
  | a (tt : Bool) (x : BitVec 64) (y : BitVec 64) (r : Bool) (n2 : Nat) (t2 : Nat) (m2 : Nat) (d2 : List (List AV)) (mt2 : Nat) (T2 : List (List AV))
def mxcA : MxcS → List AV
  | .a _ _ _ _ _ _ off => [.ptr ⟨0, 0, 0, 0, 0⟩, .int .i64 off]
def mxcH : MxcS → Heap
  | .a n t m d mt T _ => [(0, ⟨true, [.cell (.slice ⟨1, 0, 0, 1, 0⟩ 1 n), .cell (.slice ⟨2, 0, 0, 1, 0⟩ 1 t)]⟩), (1, ⟨true, [.arr [.int .u8] m d]⟩), (2, ⟨true, [.arr [.bool] mt T]⟩)]
def mxcDec (args : List AV) (H : Heap) : Option MxcS := match args, H with
  | [.ptr ⟨0, 0, 0, 0, 0⟩, .int .i64 off], [(0, ⟨true, [.cell (.slice ⟨1, 0, 0, 1, 0⟩ 1 n), .cell (.slice ⟨2, 0, 0, 1, 0⟩ 1 t)]⟩), (1, ⟨true, [.arr [.int .u8] m d]⟩), (2, ⟨true, [.arr [.bool] mt T]⟩)] => some (.a n t m d mt T off)
  | _, _ => none
theorem mxcDec_ok (args : List AV) (H : Heap) (x : MxcS) (h : mxcDec args H = some x) : args = mxcA x ∧ H = mxcH x := by
  unfold mxcDec at h
  split at h
  all_goals first
    | (cases h; done)
    | (cases h; exact ⟨rfl, rfl⟩)
def mxcU : MxcR → AV × Eff × Nat
  | .a tt x y r n2 t2 m2 d2 mt2 T2 => (.tup [.bool tt, .int .u64 x, .int .u64 y, .bool r], [(2, some ⟨true, [.arr [.bool] mt2 T2]⟩), (1, some ⟨true, [.arr [.int .u8] m2 d2]⟩), (0, some ⟨true, [.cell (.slice ⟨1, 0, 0, 1, 0⟩ 1 n2), .cell (.slice ⟨2, 0, 0, 1, 0⟩ 1 t2)]⟩)], 3)
def mxcDecR (v : AV) (e : Eff) (k : Nat) : Option MxcR := match v, e, k with
  | .tup [.bool tt, .int .u64 x, .int .u64 y, .bool r], [(2, some ⟨true, [.arr [.bool] mt2 T2]⟩), (1, some ⟨true, [.arr [.int .u8] m2 d2]⟩), (0, some ⟨true, [.cell (.slice ⟨1, 0, 0, 1, 0⟩ 1 n2), .cell (.slice ⟨2, 0, 0, 1, 0⟩ 1 t2)]⟩)], 3 => some (.a tt x y r n2 t2 m2 d2 mt2 T2)
  | _, _, _ => none
theorem mxcDecR_ok (v : AV) (e : Eff) (k : Nat) (z : MxcR) (h : mxcDecR v e k = some z) : (v, e, k) = mxcU z := by
  unfold mxcDecR at h
  split at h
  all_goals first
    | (cases h; done)
    | (cases h; rfl)
noncomputable def mxcStep : MxcS → Option MxcR
 | .a n t m d mt T off =>
 (cond ((0#64).sle off)
 (cond (!off.sle (BitVec.ofNat 64 n - 16#64))
 (some (MxcR.a false (0#64) (0#64) false n t m d mt T))
 (cond (!off.srem 16#64 == 0#64)
 (some (MxcR.a false (0#64) (0#64) false n t m d mt T))
 (cond (g_xram n t m d mt T)
 (cond (g_xram n t m d mt T)
 (cond (nonneg IntKind.i64 (off.sdiv 16#64) && decide ((off.sdiv 16#64).toNat < t))
 (cond (decide (0 + (off.sdiv 16#64).toNat < mt))
 (some (MxcR.a ((T.getD (0 + (off.sdiv 16#64).toNat) []).headD AV.any).asBool (v_xlV n d off 8#64) (v_xlV n d (off + 8#64) 8#64) true n t m d mt T))
       none)
      none)
     none)
    none)))
 (some (MxcR.a false (0#64) (0#64) false n t m d mt T)))

/-! ### the document: a granule laid -/
inductive MxtS where
  | a (n : Nat) (t : Nat) (m : Nat) (d : List (List AV)) (mt : Nat) (T : List (List AV)) (off : BitVec 64) (tt : Bool) (x : BitVec 64) (y : BitVec 64)
inductive MxtR where
  | a (r : Bool) (n2 : Nat) (t2 : Nat) (m2 : Nat) (d2 : List (List AV)) (mt2 : Nat) (T2 : List (List AV))
def mxtA : MxtS → List AV
  | .a _ _ _ _ _ _ off tt x y => [.ptr ⟨0, 0, 0, 0, 0⟩, .int .i64 off, .bool tt, .int .u64 x, .int .u64 y]
def mxtH : MxtS → Heap
  | .a n t m d mt T _ _ _ _ => [(0, ⟨true, [.cell (.slice ⟨1, 0, 0, 1, 0⟩ 1 n), .cell (.slice ⟨2, 0, 0, 1, 0⟩ 1 t)]⟩), (1, ⟨true, [.arr [.int .u8] m d]⟩), (2, ⟨true, [.arr [.bool] mt T]⟩)]
def mxtDec (args : List AV) (H : Heap) : Option MxtS := match args, H with
  | [.ptr ⟨0, 0, 0, 0, 0⟩, .int .i64 off, .bool tt, .int .u64 x, .int .u64 y], [(0, ⟨true, [.cell (.slice ⟨1, 0, 0, 1, 0⟩ 1 n), .cell (.slice ⟨2, 0, 0, 1, 0⟩ 1 t)]⟩), (1, ⟨true, [.arr [.int .u8] m d]⟩), (2, ⟨true, [.arr [.bool] mt T]⟩)] => some (.a n t m d mt T off tt x y)
  | _, _ => none
theorem mxtDec_ok (args : List AV) (H : Heap) (x : MxtS) (h : mxtDec args H = some x) : args = mxtA x ∧ H = mxtH x := by
  unfold mxtDec at h
  split at h
  all_goals first
    | (cases h; done)
    | (cases h; exact ⟨rfl, rfl⟩)
def mxtU : MxtR → AV × Eff × Nat
  | .a r n2 t2 m2 d2 mt2 T2 => (.bool r, [(2, some ⟨true, [.arr [.bool] mt2 T2]⟩), (1, some ⟨true, [.arr [.int .u8] m2 d2]⟩), (0, some ⟨true, [.cell (.slice ⟨1, 0, 0, 1, 0⟩ 1 n2), .cell (.slice ⟨2, 0, 0, 1, 0⟩ 1 t2)]⟩)], 3)
def mxtDecR (v : AV) (e : Eff) (k : Nat) : Option MxtR := match v, e, k with
  | .bool r, [(2, some ⟨true, [.arr [.bool] mt2 T2]⟩), (1, some ⟨true, [.arr [.int .u8] m2 d2]⟩), (0, some ⟨true, [.cell (.slice ⟨1, 0, 0, 1, 0⟩ 1 n2), .cell (.slice ⟨2, 0, 0, 1, 0⟩ 1 t2)]⟩)], 3 => some (.a r n2 t2 m2 d2 mt2 T2)
  | _, _, _ => none
theorem mxtDecR_ok (v : AV) (e : Eff) (k : Nat) (z : MxtR) (h : mxtDecR v e k = some z) : (v, e, k) = mxtU z := by
  unfold mxtDecR at h
  split at h
  all_goals first
    | (cases h; done)
    | (cases h; rfl)
noncomputable def mxtStep : MxtS → Option MxtR
 | .a n t m d mt T off tt x y =>
 (cond ((0#64).sle off)
 (cond (!off.sle (BitVec.ofNat 64 n - 16#64))
 (some (MxtR.a false n t m d mt T))
 (cond (!off.srem 16#64 == 0#64)
 (some (MxtR.a false n t m d mt T))
 (cond (g_xram n t m d mt T)
 (cond (g_xram n t m (v_sD n d off (8#64) x) mt (v_xsT n T off 8#64))
 (cond (nonneg IntKind.i64 (off.sdiv 16#64) && decide ((off.sdiv 16#64).toNat < t))
 (cond (decide (0 + (off.sdiv 16#64).toNat < mt) && decide (0 + (off.sdiv 16#64).toNat < (v_xsT n (v_xsT n T off 8#64) (off + 8#64) 8#64).length))
 (some (MxtR.a true n t m (v_sD n (v_sD n d off (8#64) x) (off + 8#64) (8#64) y) mt ((v_xsT n (v_xsT n T off 8#64) (off + 8#64) 8#64).set (0 + (off.sdiv 16#64).toNat) [AV.bool tt])))
       none)
      none)
     none)
    none)))
 (some (MxtR.a false n t m d mt T)))

/-! ### the document: where tags are -/
inductive MxgS where
  | a (n : Nat) (t : Nat) (m : Nat) (d : List (List AV)) (mt : Nat) (T : List (List AV))
inductive MxgR where
  | z (n2 : Nat) (t2 : Nat) (m2 : Nat) (d2 : List (List AV)) (mt2 : Nat) (T2 : List (List AV))
  | s (n2 : Nat) (t2 : Nat) (m2 : Nat) (d2 : List (List AV)) (mt2 : Nat) (T2 : List (List AV)) (k : Nat) (kk : Nat) (g : List (List AV))
def mxgA : MxgS → List AV
  | .a _ _ _ _ _ _ => [.ptr ⟨0, 0, 0, 0, 0⟩]
def mxgH : MxgS → Heap
  | .a n t m d mt T => [(0, ⟨true, [.cell (.slice ⟨1, 0, 0, 1, 0⟩ 1 n), .cell (.slice ⟨2, 0, 0, 1, 0⟩ 1 t)]⟩), (1, ⟨true, [.arr [.int .u8] m d]⟩), (2, ⟨true, [.arr [.bool] mt T]⟩)]
def mxgDec (args : List AV) (H : Heap) : Option MxgS := match args, H with
  | [.ptr ⟨0, 0, 0, 0, 0⟩], [(0, ⟨true, [.cell (.slice ⟨1, 0, 0, 1, 0⟩ 1 n), .cell (.slice ⟨2, 0, 0, 1, 0⟩ 1 t)]⟩), (1, ⟨true, [.arr [.int .u8] m d]⟩), (2, ⟨true, [.arr [.bool] mt T]⟩)] => some (.a n t m d mt T)
  | _, _ => none
theorem mxgDec_ok (args : List AV) (H : Heap) (x : MxgS) (h : mxgDec args H = some x) : args = mxgA x ∧ H = mxgH x := by
  unfold mxgDec at h
  split at h
  all_goals first
    | (cases h; done)
    | (cases h; exact ⟨rfl, rfl⟩)
def mxgU : MxgR → AV × Eff × Nat
  | .z n2 t2 m2 d2 mt2 T2 => (.nilslice, [(2, some ⟨true, [.arr [.bool] mt2 T2]⟩), (1, some ⟨true, [.arr [.int .u8] m2 d2]⟩), (0, some ⟨true, [.cell (.slice ⟨1, 0, 0, 1, 0⟩ 1 n2), .cell (.slice ⟨2, 0, 0, 1, 0⟩ 1 t2)]⟩)], 3)
  | .s n2 t2 m2 d2 mt2 T2 k kk g => (.slice ⟨3, 0, 0, 1, 0⟩ 1 k, [(3, some ⟨true, [.arr [.int .i64] kk g]⟩), (2, some ⟨true, [.arr [.bool] mt2 T2]⟩), (1, some ⟨true, [.arr [.int .u8] m2 d2]⟩), (0, some ⟨true, [.cell (.slice ⟨1, 0, 0, 1, 0⟩ 1 n2), .cell (.slice ⟨2, 0, 0, 1, 0⟩ 1 t2)]⟩)], 4)
def mxgDecR (v : AV) (e : Eff) (k : Nat) : Option MxgR := match v, e, k with
  | .nilslice, [(2, some ⟨true, [.arr [.bool] mt2 T2]⟩), (1, some ⟨true, [.arr [.int .u8] m2 d2]⟩), (0, some ⟨true, [.cell (.slice ⟨1, 0, 0, 1, 0⟩ 1 n2), .cell (.slice ⟨2, 0, 0, 1, 0⟩ 1 t2)]⟩)], 3 => some (.z n2 t2 m2 d2 mt2 T2)
  | .slice ⟨3, 0, 0, 1, 0⟩ 1 k, [(3, some ⟨true, [.arr [.int .i64] kk g]⟩), (2, some ⟨true, [.arr [.bool] mt2 T2]⟩), (1, some ⟨true, [.arr [.int .u8] m2 d2]⟩), (0, some ⟨true, [.cell (.slice ⟨1, 0, 0, 1, 0⟩ 1 n2), .cell (.slice ⟨2, 0, 0, 1, 0⟩ 1 t2)]⟩)], 4 => some (.s n2 t2 m2 d2 mt2 T2 k kk g)
  | _, _, _ => none
theorem mxgDecR_ok (v : AV) (e : Eff) (k : Nat) (z : MxgR) (h : mxgDecR v e k = some z) : (v, e, k) = mxgU z := by
  unfold mxgDecR at h
  split at h
  all_goals first
    | (cases h; done)
    | (cases h; rfl)
noncomputable def mxgStep : MxgS → Option MxgR
 | .a n t m d mt T =>
 (cond (g_xd t mt && true)
 (cond (v_emp (v_xtagged T t))
 (some (MxgR.z n t m d mt T))
 (some (MxgR.s n t m d mt T (v_xtagged T t).length (v_xtagged T t).length (v_xtagged T t))))
 none)
end Go.Sx

/- The document's memory: granules, as answers. -/
namespace Go.Sx
open Go
def v_xcT (n : Nat) (T : List (List AV)) (off : BitVec 64) : Bool := cond (v_okC n off) (cB T (off.toNat / 16)) false
def v_xcX (n : Nat) (d : List (List AV)) (off : BitVec 64) (k : Nat) : BitVec 64 := cond (v_okC n off) (v_xget d (off.toNat + k) 8) 0#64
theorem ok8 {n : Nat} {off : BitVec 64} (hn : n ≤ 65536) (h : off.toNat + 8 ≤ n) : v_ok n off 8#64 = true := by
  unfold v_ok
  rw [show v_sized 8#64 = true from rfl, Bool.true_and]
  exact (v_in_iff (off := off) (size := 8#64) hn (by rw [show (8#64).toNat = 8 from rfl]; omega)).2 h
def mxcCps : ECps MxcS MxcR := fun R z K => match z with
  | .a n t m d mt T off => cond (g_xram n t m d mt T) (K (.a (v_xcT n T off) (v_xcX n d off 0) (v_xcX n d off 8) (v_okC n off) n t m d mt T)) none
theorem mxcCps_ok : ECok mxcStep mxcCps := by
  intro R z K r h
  cases z with
  | a n t m d mt T off =>
    obtain ⟨hg, hk⟩ := condK h
    have hg' := hg
    obtain ⟨rfl, h1, h2, rfl, h4, h5, h6⟩ := g_xram_iff.1 hg
    refine ⟨_, ?_, hk⟩
    have hin := v_in_iff (n := m) (off := off) (size := 16#64) h6 (by rw [show (16#64).toNat = 16 from rfl]; omega)
    simp only [mxcStep, v_xcT, v_xcX, v_okC]
    rw [in_sle] at hin ⊢
    cases h0 : (0#64).sle off with
    | false => rfl
    | true =>
      cases h9 : off.sle (BitVec.ofNat 64 m - 16#64) with
      | false => rfl
      | true =>
        have hle : off.toNat + 16 ≤ m := hin.1 (by rw [h0, h9]; rfl)
        have e8 : (off + 8#64).toNat = off.toNat + 8 := add_nat (by rw [show (8#64).toNat = 8 from rfl]; omega)
        have hq := div16 off (by omega)
        have o1 := ok8 (n := m) (off := off) h6 (by omega)
        have o2 := ok8 (n := m) (off := off + 8#64) h6 (by omega)
        simp only [hg', hq, v_xlV, o1, o2, e8, nonneg_lt (show (off.sdiv 16#64).toNat < 2 ^ 63 by omega), decide_eq_true (show off.toNat / 16 < mt by omega), decide_eq_true (show 0 + off.toNat / 16 < mt by omega), Nat.zero_add, Bool.and_true, cond_true, cond_false, Bool.not_true, Bool.true_and]
        cases off.srem 16#64 == 0#64 <;> rfl
def v_xtT (n : Nat) (T : List (List AV)) (off : BitVec 64) (tt : Bool) : List (List AV) := cond (v_okC n off) ((v_xclr (v_xclr T off.toNat 8) (off.toNat + 8) 8).set (off.toNat / 16) [.bool tt]) T
def mxtCps : ECps MxtS MxtR := fun R z K => match z with
  | .a n t m d mt T off tt x y => cond (g_xram n t m d mt T) (K (.a (v_okC n off) n t m (v_tD n d off x y) mt (v_xtT n T off tt))) none
theorem mxtCps_ok : ECok mxtStep mxtCps := by
  intro R z K r h
  cases z with
  | a n t m d mt T off tt x y =>
    obtain ⟨hg, hk⟩ := condK h
    have hg' := hg
    obtain ⟨rfl, h1, h2, rfl, h4, h5, h6⟩ := g_xram_iff.1 hg
    refine ⟨_, ?_, hk⟩
    have hin := v_in_iff (n := m) (off := off) (size := 16#64) h6 (by rw [show (16#64).toNat = 16 from rfl]; omega)
    simp only [mxtStep, v_tD, v_xtT, v_okC]
    rw [in_sle] at hin ⊢
    cases h0 : (0#64).sle off with
    | false => rfl
    | true =>
      cases h9 : off.sle (BitVec.ofNat 64 m - 16#64) with
      | false => rfl
      | true =>
        have hle : off.toNat + 16 ≤ m := hin.1 (by rw [h0, h9]; rfl)
        have e8 : (off + 8#64).toNat = off.toNat + 8 := add_nat (by rw [show (8#64).toNat = 8 from rfl]; omega)
        have n8 : (8#64).toNat = 8 := rfl
        have hq := div16 off (by omega)
        have o1 := ok8 (n := m) (off := off) h6 (by omega)
        have o2 := ok8 (n := m) (off := off + 8#64) h6 (by omega)
        have g2 : g_xram m mt m (v_put d off.toNat 8 x) mt (v_xclr T off.toNat 8) = true := g_xram_iff.2 ⟨rfl, by rw [v_put_len]; exact h1, h2, rfl, by rw [v_xclr_len]; exact h4, h5, h6⟩
        simp only [hg', hq, v_sD, v_xsT, o1, o2, e8, n8, g2, v_xclr_len, h4, nonneg_lt (show (off.sdiv 16#64).toNat < 2 ^ 63 by omega), decide_eq_true (show off.toNat / 16 < mt by omega), decide_eq_true (show 0 + off.toNat / 16 < mt by omega), Nat.zero_add, Bool.and_true, cond_true, cond_false, Bool.not_true, Bool.true_and]
        cases off.srem 16#64 == 0#64 <;> rfl
def mxgCps : ECps MxgS MxgR := fun R x K => match x with
  | .a n t m d mt T => cond (g_xd t mt) (cond (v_emp (v_xtagged T t)) (K (.z n t m d mt T)) (K (.s n t m d mt T (v_xtagged T t).length (v_xtagged T t).length (v_xtagged T t)))) none
theorem mxgCps_ok : ECok mxgStep mxgCps := by
  intro R x K r h
  cases x with
  | a n t m d mt T =>
    obtain ⟨hg, hk⟩ := condK h
    simp only [mxgStep, hg, Bool.and_true, cond_true]
    cases he : v_emp (v_xtagged T t) with
    | true => rw [he] at hk; exact ⟨_, rfl, hk⟩
    | false => rw [he] at hk; exact ⟨_, rfl, hk⟩
end Go.Sx


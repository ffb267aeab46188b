/- What loops do, round by round. -/
import Derived.Test.YtaieimjeffedhaaSxX
import Derived.Test.YtaieimjeffedhaaSxSR
import Derived.Test.YtaieimjeffedhaaSxEC
import Derived.Test.YtaieimjeffedhaaVa12
import Derived.Test.YtaieimjeffedhaaPlPlc
set_option linter.unusedSimpArgs false
set_option linter.unusedVariables false
set_option linter.unnecessarySimpa false
namespace Go.Sx
open Go

/-! ### lines, source by source -/
inductive XlS where
  | a (L : List (List AV)) (T : List (List AV)) (m : BitVec 32) (s : BitVec 64)
inductive XlE where
  | fine (L : List (List AV)) (T : List (List AV))
def xlT : XlS → List AV
  | .a _ _ m s => [.ptr ⟨0, 0, 0, 0, 0⟩, .int .u32 m, .int .i64 s]
def xlH : XlS → Heap
  | .a L T _ _ => [(0, ⟨true, [.arr [.int .i64, .bool, .bool, .bool, .bool] 32 L, .arr [.int .i64] 2 T]⟩)]
def xlN : XlS → Nat
  | .a _ _ _ _ => 1
def xlDec (vs : List AV) (H : Heap) (N : Nat) : Option XlS := match vs, H.find 0, N with
  | [.ptr ⟨0, 0, 0, 0, 0⟩, .int .u32 m, .int .i64 s], some ⟨true, [.arr [.int .i64, .bool, .bool, .bool, .bool] 32 L, .arr [.int .i64] 2 T]⟩, 1 => some (.a L T m s)
  | _, _, _ => none
theorem xlDec_ok (vs : List AV) (H : Heap) (N : Nat) (y : XlS) (h : xlDec vs H N = some y) : vs = xlT y ∧ (xlH y).sub H ∧ N = xlN y := by
  unfold xlDec at h
  split at h
  all_goals first
    | (cases h; done)
    | (cases h; refine ⟨rfl, ?_, rfl⟩; repeat (first | exact sub_nil | refine sub_cons (by assumption) ?_))
def xlO : XlE → Out
  | .fine _ _ => .exit 0
def xlV : XlE → List AV
  | .fine _ _ => []
def xlG : XlE → Heap
  | .fine L T => [(0, ⟨true, [.arr [.int .i64, .bool, .bool, .bool, .bool] 32 L, .arr [.int .i64] 2 T]⟩)]
def xlM : XlE → Nat
  | .fine _ _ => 1
def xlDecE (o : Out) (vs : List AV) (H : Heap) (N : Nat) : Option XlE := match o, vs, H.find 0, N with
  | .exit 0, [], some ⟨true, [.arr [.int .i64, .bool, .bool, .bool, .bool] 32 L, .arr [.int .i64] 2 T]⟩, 1 => some (.fine L T)
  | _, _, _, _ => none
theorem xlDecE_ok (o : Out) (vs : List AV) (H : Heap) (N : Nat) (z : XlE) (h : xlDecE o vs H N = some z) : o = xlO z ∧ o ≠ .normal ∧ vs = xlV z ∧ (xlG z).sub H ∧ N = xlM z := by
  unfold xlDecE at h
  split at h
  all_goals first
    | (cases h; done)
    | (cases h; refine ⟨rfl, nofun, rfl, ?_, rfl⟩; repeat (first | exact sub_nil | refine sub_cons (by assumption) ?_))
noncomputable def xlStep : XlS → Option (XlS ⊕ XlE)
 | .a L T m s =>
 (cond (s.slt 32#64)
 (cond (m >>> min (BitVec.signExtend 64 s).toNat 32 % 2#32 == 1#32)
 (cond (nonneg IntKind.i64 s && decide (s.toNat < 32))
 (cond (decide (s.toNat < 32))
 (cond (nonneg IntKind.i64 s && decide (s.toNat < 32))
 (cond (decide (s.toNat < 32) && decide (s.toNat < L.length))
 (some (Sum.inl (XlS.a (L.set s.toNat [AV.int IntKind.i64 (asI64 ((L.getD s.toNat []).headD AV.any)), AV.bool !((L.getD s.toNat []).tail.tail.headD AV.any).asBool, AV.bool ((L.getD s.toNat []).tail.tail.headD AV.any).asBool, AV.bool ((L.getD s.toNat []).tail.tail.tail.headD AV.any).asBool, AV.bool ((L.getD s.toNat []).tail.tail.tail.tail.headD AV.any).asBool]) T m (s + 1#64))))
      none)
     none)
    none)
   none)
 (cond (nonneg IntKind.i64 s && decide (s.toNat < 32))
 (cond (decide (s.toNat < 32) && decide (s.toNat < L.length))
 (some (Sum.inl (XlS.a (L.set s.toNat [AV.int IntKind.i64 (asI64 ((L.getD s.toNat []).headD AV.any)), AV.bool false, AV.bool ((L.getD s.toNat []).tail.tail.headD AV.any).asBool, AV.bool ((L.getD s.toNat []).tail.tail.tail.headD AV.any).asBool, AV.bool ((L.getD s.toNat []).tail.tail.tail.tail.headD AV.any).asBool]) T m (s + 1#64))))
    none)
   none))
 (some (Sum.inr (XlE.fine L T))))

/-! ### the best, source by source -/
inductive XbS where
  | c0 (rw : Bool) (L : List (List AV)) (T : List (List AV)) (be : BitVec 64) (s : BitVec 64)
  | c1 (rw : Bool) (L : List (List AV)) (T : List (List AV)) (be : BitVec 64) (s : BitVec 64)
inductive XbE where
  | fine (rw : Bool) (L : List (List AV)) (T : List (List AV)) (be : BitVec 64)
def xbT : XbS → List AV
  | .c0 _ _ _ be s => [.ptr ⟨0, 0, 0, 0, 0⟩, .int .i64 0#64, .int .i64 be, .int .i64 s]
  | .c1 _ _ _ be s => [.ptr ⟨0, 0, 0, 0, 0⟩, .int .i64 1#64, .int .i64 be, .int .i64 s]
def xbH : XbS → Heap
  | .c0 rw L T _ _ => [(0, ⟨rw, [.arr [.int .i64, .bool, .bool, .bool, .bool] 32 L, .arr [.int .i64] 2 T]⟩)]
  | .c1 rw L T _ _ => [(0, ⟨rw, [.arr [.int .i64, .bool, .bool, .bool, .bool] 32 L, .arr [.int .i64] 2 T]⟩)]
def xbN : XbS → Nat
  | .c0 _ _ _ _ _ => 1
  | .c1 _ _ _ _ _ => 1
def xbDec (vs : List AV) (H : Heap) (N : Nat) : Option XbS := match vs, H.find 0, N with
  | [.ptr ⟨0, 0, 0, 0, 0⟩, .int .i64 cx, .int .i64 be, .int .i64 s], some ⟨rw, [.arr [.int .i64, .bool, .bool, .bool, .bool] 32 L, .arr [.int .i64] 2 T]⟩, 1 => if cx.toNat = 0 then some (.c0 rw L T be s) else if cx.toNat = 1 then some (.c1 rw L T be s) else none
  | _, _, _ => none
theorem xbDec_ok (vs : List AV) (H : Heap) (N : Nat) (y : XbS) (h : xbDec vs H N = some y) : vs = xbT y ∧ (xbH y).sub H ∧ N = xbN y := by
  unfold xbDec at h
  split at h
  all_goals (repeat' split at h)
  all_goals first
    | (cases h; done)
    | (obtain rfl := lit64d (n := 0) (by assumption) (by decide); cases h; refine ⟨rfl, ?_, rfl⟩; repeat (first | exact sub_nil | refine sub_cons (by assumption) ?_))
    | (obtain rfl := lit64d (n := 1) (by assumption) (by decide); cases h; refine ⟨rfl, ?_, rfl⟩; repeat (first | exact sub_nil | refine sub_cons (by assumption) ?_))
    | (cases h; refine ⟨rfl, ?_, rfl⟩; repeat (first | exact sub_nil | refine sub_cons (by assumption) ?_))
def xbO : XbE → Out
  | .fine _ _ _ _ => .exit 0
def xbV : XbE → List AV
  | .fine _ _ _ be => [.int .i64 be]
def xbG : XbE → Heap
  | .fine rw L T _ => [(0, ⟨rw, [.arr [.int .i64, .bool, .bool, .bool, .bool] 32 L, .arr [.int .i64] 2 T]⟩)]
def xbM : XbE → Nat
  | .fine _ _ _ _ => 1
def xbDecE (o : Out) (vs : List AV) (H : Heap) (N : Nat) : Option XbE := match o, vs, H.find 0, N with
  | .exit 0, [.int .i64 be], some ⟨rw, [.arr [.int .i64, .bool, .bool, .bool, .bool] 32 L, .arr [.int .i64] 2 T]⟩, 1 => some (.fine rw L T be)
  | _, _, _, _ => none
theorem xbDecE_ok (o : Out) (vs : List AV) (H : Heap) (N : Nat) (z : XbE) (h : xbDecE o vs H N = some z) : o = xbO z ∧ o ≠ .normal ∧ vs = xbV z ∧ (xbG z).sub H ∧ N = xbM z := by
  unfold xbDecE at h
  split at h
  all_goals first
    | (cases h; done)
    | (cases h; refine ⟨rfl, nofun, rfl, ?_, rfl⟩; repeat (first | exact sub_nil | refine sub_cons (by assumption) ?_))
noncomputable def xbStep : XbS → Option (XbS ⊕ XbE)
 | .c0 rw L T be s =>
 (cond ((1#64).sle s)
 (cond (nonneg IntKind.i64 s && decide (s.toNat < 32))
 (cond (decide (s.toNat < 32))
 (cond (((L.getD s.toNat []).tail.headD AV.any).asBool)
 (cond ((AV.bool ((L.getD s.toNat []).tail.tail.tail.headD AV.any).asBool).asBool)
 (cond ((0#64).slt (asI64 ((L.getD s.toNat []).headD AV.any)))
 (cond (nonneg IntKind.i64 be && decide (be.toNat < 32))
 (cond (decide (be.toNat < 32))
 (cond ((asI64 ((L.getD be.toNat []).headD AV.any)).sle (asI64 ((L.getD s.toNat []).headD AV.any)))
 (some (Sum.inl (XbS.c0 rw L T s (s - 1#64))))
 (some (Sum.inl (XbS.c0 rw L T be (s - 1#64)))))
        none)
       none)
 (some (Sum.inl (XbS.c0 rw L T be (s - 1#64)))))
 (some (Sum.inl (XbS.c0 rw L T be (s - 1#64)))))
 (some (Sum.inl (XbS.c0 rw L T be (s - 1#64)))))
   none)
  none)
 (some (Sum.inr (XbE.fine rw L T be))))
 | .c1 rw L T be s =>
 (cond ((1#64).sle s)
 (cond (nonneg IntKind.i64 s && decide (s.toNat < 32))
 (cond (decide (s.toNat < 32))
 (cond (((L.getD s.toNat []).tail.headD AV.any).asBool)
 (cond ((AV.bool ((L.getD s.toNat []).tail.tail.tail.tail.headD AV.any).asBool).asBool)
 (cond ((0#64).slt (asI64 ((L.getD s.toNat []).headD AV.any)))
 (cond (nonneg IntKind.i64 be && decide (be.toNat < 32))
 (cond (decide (be.toNat < 32))
 (cond ((asI64 ((L.getD be.toNat []).headD AV.any)).sle (asI64 ((L.getD s.toNat []).headD AV.any)))
 (some (Sum.inl (XbS.c1 rw L T s (s - 1#64))))
 (some (Sum.inl (XbS.c1 rw L T be (s - 1#64)))))
        none)
       none)
 (some (Sum.inl (XbS.c1 rw L T be (s - 1#64)))))
 (some (Sum.inl (XbS.c1 rw L T be (s - 1#64)))))
 (some (Sum.inl (XbS.c1 rw L T be (s - 1#64)))))
   none)
  none)
 (some (Sum.inr (XbE.fine rw L T be))))

/-! ### bits, source by source -/
inductive XiS where
  | c0 (rw : Bool) (L : List (List AV)) (T : List (List AV)) (v : BitVec 64) (s : BitVec 64)
  | c1 (rw : Bool) (L : List (List AV)) (T : List (List AV)) (v : BitVec 64) (s : BitVec 64)
  | c2 (rw : Bool) (L : List (List AV)) (T : List (List AV)) (v : BitVec 64) (s : BitVec 64)
inductive XiE where
  | fine (rw : Bool) (L : List (List AV)) (T : List (List AV)) (v : BitVec 64)
def xiT : XiS → List AV
  | .c0 _ _ _ v s => [.ptr ⟨0, 0, 0, 0, 0⟩, .int .i64 0#64, .int .u64 v, .int .i64 s]
  | .c1 _ _ _ v s => [.ptr ⟨0, 0, 0, 0, 0⟩, .int .i64 1#64, .int .u64 v, .int .i64 s]
  | .c2 _ _ _ v s => [.ptr ⟨0, 0, 0, 0, 0⟩, .int .i64 18446744073709551615#64, .int .u64 v, .int .i64 s]
def xiH : XiS → Heap
  | .c0 rw L T _ _ => [(0, ⟨rw, [.arr [.int .i64, .bool, .bool, .bool, .bool] 32 L, .arr [.int .i64] 2 T]⟩)]
  | .c1 rw L T _ _ => [(0, ⟨rw, [.arr [.int .i64, .bool, .bool, .bool, .bool] 32 L, .arr [.int .i64] 2 T]⟩)]
  | .c2 rw L T _ _ => [(0, ⟨rw, [.arr [.int .i64, .bool, .bool, .bool, .bool] 32 L, .arr [.int .i64] 2 T]⟩)]
def xiN : XiS → Nat
  | .c0 _ _ _ _ _ => 1
  | .c1 _ _ _ _ _ => 1
  | .c2 _ _ _ _ _ => 1
def xiDec (vs : List AV) (H : Heap) (N : Nat) : Option XiS := match vs, H.find 0, N with
  | [.ptr ⟨0, 0, 0, 0, 0⟩, .int .i64 cx, .int .u64 v, .int .i64 s], some ⟨rw, [.arr [.int .i64, .bool, .bool, .bool, .bool] 32 L, .arr [.int .i64] 2 T]⟩, 1 => if cx.toNat = 0 then some (.c0 rw L T v s) else if cx.toNat = 1 then some (.c1 rw L T v s) else if cx.toNat = 18446744073709551615 then some (.c2 rw L T v s) else none
  | _, _, _ => none
theorem xiDec_ok (vs : List AV) (H : Heap) (N : Nat) (y : XiS) (h : xiDec vs H N = some y) : vs = xiT y ∧ (xiH y).sub H ∧ N = xiN y := by
  unfold xiDec at h
  split at h
  all_goals (repeat' split at h)
  all_goals first
    | (cases h; done)
    | (obtain rfl := lit64d (n := 0) (by assumption) (by decide); cases h; refine ⟨rfl, ?_, rfl⟩; repeat (first | exact sub_nil | refine sub_cons (by assumption) ?_))
    | (obtain rfl := lit64d (n := 1) (by assumption) (by decide); cases h; refine ⟨rfl, ?_, rfl⟩; repeat (first | exact sub_nil | refine sub_cons (by assumption) ?_))
    | (obtain rfl := lit64d (n := 18446744073709551615) (by assumption) (by decide); cases h; refine ⟨rfl, ?_, rfl⟩; repeat (first | exact sub_nil | refine sub_cons (by assumption) ?_))
    | (cases h; refine ⟨rfl, ?_, rfl⟩; repeat (first | exact sub_nil | refine sub_cons (by assumption) ?_))
def xiO : XiE → Out
  | .fine _ _ _ _ => .exit 0
def xiV : XiE → List AV
  | .fine _ _ _ v => [.int .u64 v]
def xiG : XiE → Heap
  | .fine rw L T _ => [(0, ⟨rw, [.arr [.int .i64, .bool, .bool, .bool, .bool] 32 L, .arr [.int .i64] 2 T]⟩)]
def xiM : XiE → Nat
  | .fine _ _ _ _ => 1
def xiDecE (o : Out) (vs : List AV) (H : Heap) (N : Nat) : Option XiE := match o, vs, H.find 0, N with
  | .exit 0, [.int .u64 v], some ⟨rw, [.arr [.int .i64, .bool, .bool, .bool, .bool] 32 L, .arr [.int .i64] 2 T]⟩, 1 => some (.fine rw L T v)
  | _, _, _, _ => none
theorem xiDecE_ok (o : Out) (vs : List AV) (H : Heap) (N : Nat) (z : XiE) (h : xiDecE o vs H N = some z) : o = xiO z ∧ o ≠ .normal ∧ vs = xiV z ∧ (xiG z).sub H ∧ N = xiM z := by
  unfold xiDecE at h
  split at h
  all_goals first
    | (cases h; done)
    | (cases h; refine ⟨rfl, nofun, rfl, ?_, rfl⟩; repeat (first | exact sub_nil | refine sub_cons (by assumption) ?_))
noncomputable def xiStep : XiS → Option (XiS ⊕ XiE)
 | .c0 rw L T v s =>
 (cond ((0#64).sle s)
 (cond (nonneg IntKind.i64 s && decide (s.toNat < 32))
 (cond (decide (s.toNat < 32))
 (cond (((L.getD s.toNat []).tail.tail.tail.headD AV.any).asBool)
 (some (Sum.inl (XiS.c0 rw L T (2#64 * v + 1#64) (s - 1#64))))
 (some (Sum.inl (XiS.c0 rw L T (2#64 * v) (s - 1#64)))))
   none)
  none)
 (some (Sum.inr (XiE.fine rw L T v))))
 | .c1 rw L T v s =>
 (cond ((0#64).sle s)
 (cond (nonneg IntKind.i64 s && decide (s.toNat < 32))
 (cond (decide (s.toNat < 32))
 (cond (((L.getD s.toNat []).tail.tail.tail.tail.headD AV.any).asBool)
 (some (Sum.inl (XiS.c1 rw L T (2#64 * v + 1#64) (s - 1#64))))
 (some (Sum.inl (XiS.c1 rw L T (2#64 * v) (s - 1#64)))))
   none)
  none)
 (some (Sum.inr (XiE.fine rw L T v))))
 | .c2 rw L T v s =>
 (cond ((0#64).sle s)
 (cond (nonneg IntKind.i64 s && decide (s.toNat < 32))
 (cond (decide (s.toNat < 32))
 (cond (((L.getD s.toNat []).tail.headD AV.any).asBool)
 (some (Sum.inl (XiS.c2 rw L T (2#64 * v + 1#64) (s - 1#64))))
 (some (Sum.inl (XiS.c2 rw L T (2#64 * v) (s - 1#64)))))
   none)
  none)
 (some (Sum.inr (XiE.fine rw L T v))))

/-! ### enabled, source by source -/
inductive XeS where
  | c0 (L : List (List AV)) (T : List (List AV)) (v : BitVec 64) (s : BitVec 64)
  | c1 (L : List (List AV)) (T : List (List AV)) (v : BitVec 64) (s : BitVec 64)
inductive XeE where
  | fine (L : List (List AV)) (T : List (List AV))
def xeT : XeS → List AV
  | .c0 _ _ v s => [.ptr ⟨0, 0, 0, 0, 0⟩, .int .i64 0#64, .int .u64 v, .int .i64 s]
  | .c1 _ _ v s => [.ptr ⟨0, 0, 0, 0, 0⟩, .int .i64 1#64, .int .u64 v, .int .i64 s]
def xeH : XeS → Heap
  | .c0 L T _ _ => [(0, ⟨true, [.arr [.int .i64, .bool, .bool, .bool, .bool] 32 L, .arr [.int .i64] 2 T]⟩)]
  | .c1 L T _ _ => [(0, ⟨true, [.arr [.int .i64, .bool, .bool, .bool, .bool] 32 L, .arr [.int .i64] 2 T]⟩)]
def xeN : XeS → Nat
  | .c0 _ _ _ _ => 1
  | .c1 _ _ _ _ => 1
def xeDec (vs : List AV) (H : Heap) (N : Nat) : Option XeS := match vs, H.find 0, N with
  | [.ptr ⟨0, 0, 0, 0, 0⟩, .int .i64 cx, .int .u64 v, .int .i64 s], some ⟨true, [.arr [.int .i64, .bool, .bool, .bool, .bool] 32 L, .arr [.int .i64] 2 T]⟩, 1 => if cx.toNat = 0 then some (.c0 L T v s) else if cx.toNat = 1 then some (.c1 L T v s) else none
  | _, _, _ => none
theorem xeDec_ok (vs : List AV) (H : Heap) (N : Nat) (y : XeS) (h : xeDec vs H N = some y) : vs = xeT y ∧ (xeH y).sub H ∧ N = xeN y := by
  unfold xeDec at h
  split at h
  all_goals (repeat' split at h)
  all_goals first
    | (cases h; done)
    | (obtain rfl := lit64d (n := 0) (by assumption) (by decide); cases h; refine ⟨rfl, ?_, rfl⟩; repeat (first | exact sub_nil | refine sub_cons (by assumption) ?_))
    | (obtain rfl := lit64d (n := 1) (by assumption) (by decide); cases h; refine ⟨rfl, ?_, rfl⟩; repeat (first | exact sub_nil | refine sub_cons (by assumption) ?_))
    | (cases h; refine ⟨rfl, ?_, rfl⟩; repeat (first | exact sub_nil | refine sub_cons (by assumption) ?_))
def xeO : XeE → Out
  | .fine _ _ => .exit 0
def xeV : XeE → List AV
  | .fine _ _ => []
def xeG : XeE → Heap
  | .fine L T => [(0, ⟨true, [.arr [.int .i64, .bool, .bool, .bool, .bool] 32 L, .arr [.int .i64] 2 T]⟩)]
def xeM : XeE → Nat
  | .fine _ _ => 1
def xeDecE (o : Out) (vs : List AV) (H : Heap) (N : Nat) : Option XeE := match o, vs, H.find 0, N with
  | .exit 0, [], some ⟨true, [.arr [.int .i64, .bool, .bool, .bool, .bool] 32 L, .arr [.int .i64] 2 T]⟩, 1 => some (.fine L T)
  | _, _, _, _ => none
theorem xeDecE_ok (o : Out) (vs : List AV) (H : Heap) (N : Nat) (z : XeE) (h : xeDecE o vs H N = some z) : o = xeO z ∧ o ≠ .normal ∧ vs = xeV z ∧ (xeG z).sub H ∧ N = xeM z := by
  unfold xeDecE at h
  split at h
  all_goals first
    | (cases h; done)
    | (cases h; refine ⟨rfl, nofun, rfl, ?_, rfl⟩; repeat (first | exact sub_nil | refine sub_cons (by assumption) ?_))
noncomputable def xeStep : XeS → Option (XeS ⊕ XeE)
 | .c0 L T v s =>
 (cond (s.slt 32#64)
 (cond (nonneg IntKind.i64 s && decide (s.toNat < 32))
 (cond (decide (s.toNat < 32) && decide (s.toNat < L.length))
 (some (Sum.inl (XeS.c0 (L.set s.toNat [AV.int IntKind.i64 (asI64 ((L.getD s.toNat []).headD AV.any)), AV.bool ((L.getD s.toNat []).tail.headD AV.any).asBool, AV.bool ((L.getD s.toNat []).tail.tail.headD AV.any).asBool, AV.bool (v >>> min (BitVec.signExtend 64 s).toNat 64 % 2#64 == 1#64), AV.bool ((L.getD s.toNat []).tail.tail.tail.tail.headD AV.any).asBool]) T v (s + 1#64))))
   none)
  none)
 (some (Sum.inr (XeE.fine L T))))
 | .c1 L T v s =>
 (cond (s.slt 32#64)
 (cond (nonneg IntKind.i64 s && decide (s.toNat < 32))
 (cond (decide (s.toNat < 32) && decide (s.toNat < L.length))
 (some (Sum.inl (XeS.c1 (L.set s.toNat [AV.int IntKind.i64 (asI64 ((L.getD s.toNat []).headD AV.any)), AV.bool ((L.getD s.toNat []).tail.headD AV.any).asBool, AV.bool ((L.getD s.toNat []).tail.tail.headD AV.any).asBool, AV.bool ((L.getD s.toNat []).tail.tail.tail.headD AV.any).asBool, AV.bool (v >>> min (BitVec.signExtend 64 s).toNat 64 % 2#64 == 1#64)]) T v (s + 1#64))))
   none)
  none)
 (some (Sum.inr (XeE.fine L T))))

/-! ### pending, source by source -/
inductive XpS where
  | c0 (rw : Bool) (L : List (List AV)) (T : List (List AV)) (s : BitVec 64)
  | c1 (rw : Bool) (L : List (List AV)) (T : List (List AV)) (s : BitVec 64)
inductive XpE where
  | no (rw : Bool) (L : List (List AV)) (T : List (List AV))
  | yes (rw : Bool) (L : List (List AV)) (T : List (List AV)) (nn : Nat)
def xpT : XpS → List AV
  | .c0 _ _ _ s => [.ptr ⟨0, 0, 0, 0, 0⟩, .int .i64 0#64, .int .i64 s]
  | .c1 _ _ _ s => [.ptr ⟨0, 0, 0, 0, 0⟩, .int .i64 1#64, .int .i64 s]
def xpH : XpS → Heap
  | .c0 rw L T _ => [(0, ⟨rw, [.arr [.int .i64, .bool, .bool, .bool, .bool] 32 L, .arr [.int .i64] 2 T]⟩)]
  | .c1 rw L T _ => [(0, ⟨rw, [.arr [.int .i64, .bool, .bool, .bool, .bool] 32 L, .arr [.int .i64] 2 T]⟩)]
def xpN : XpS → Nat
  | .c0 _ _ _ _ => 1
  | .c1 _ _ _ _ => 1
def xpDec (vs : List AV) (H : Heap) (N : Nat) : Option XpS := match vs, H.find 0, N with
  | [.ptr ⟨0, 0, 0, 0, 0⟩, .int .i64 cx, .int .i64 s], some ⟨rw, [.arr [.int .i64, .bool, .bool, .bool, .bool] 32 L, .arr [.int .i64] 2 T]⟩, 1 => if cx.toNat = 0 then some (.c0 rw L T s) else if cx.toNat = 1 then some (.c1 rw L T s) else none
  | _, _, _ => none
theorem xpDec_ok (vs : List AV) (H : Heap) (N : Nat) (y : XpS) (h : xpDec vs H N = some y) : vs = xpT y ∧ (xpH y).sub H ∧ N = xpN y := by
  unfold xpDec at h
  split at h
  all_goals (repeat' split at h)
  all_goals first
    | (cases h; done)
    | (obtain rfl := lit64d (n := 0) (by assumption) (by decide); cases h; refine ⟨rfl, ?_, rfl⟩; repeat (first | exact sub_nil | refine sub_cons (by assumption) ?_))
    | (obtain rfl := lit64d (n := 1) (by assumption) (by decide); cases h; refine ⟨rfl, ?_, rfl⟩; repeat (first | exact sub_nil | refine sub_cons (by assumption) ?_))
    | (cases h; refine ⟨rfl, ?_, rfl⟩; repeat (first | exact sub_nil | refine sub_cons (by assumption) ?_))
def xpO : XpE → Out
  | .no _ _ _ => .exit 0
  | .yes _ _ _ _ => .ret
def xpV : XpE → List AV
  | .no _ _ _ => [.any]
  | .yes _ _ _ _ => [.bool true]
def xpG : XpE → Heap
  | .no rw L T => [(0, ⟨rw, [.arr [.int .i64, .bool, .bool, .bool, .bool] 32 L, .arr [.int .i64] 2 T]⟩)]
  | .yes rw L T _ => [(0, ⟨rw, [.arr [.int .i64, .bool, .bool, .bool, .bool] 32 L, .arr [.int .i64] 2 T]⟩)]
def xpM : XpE → Nat
  | .no _ _ _ => 1
  | .yes _ _ _ nn => nn
def xpDecE (o : Out) (vs : List AV) (H : Heap) (N : Nat) : Option XpE := match o, vs, H.find 0, N with
  | .exit 0, [.any], some ⟨rw, [.arr [.int .i64, .bool, .bool, .bool, .bool] 32 L, .arr [.int .i64] 2 T]⟩, 1 => some (.no rw L T)
  | .ret, [.bool true], some ⟨rw, [.arr [.int .i64, .bool, .bool, .bool, .bool] 32 L, .arr [.int .i64] 2 T]⟩, nn => some (.yes rw L T nn)
  | _, _, _, _ => none
theorem xpDecE_ok (o : Out) (vs : List AV) (H : Heap) (N : Nat) (z : XpE) (h : xpDecE o vs H N = some z) : o = xpO z ∧ o ≠ .normal ∧ vs = xpV z ∧ (xpG z).sub H ∧ N = xpM z := by
  unfold xpDecE at h
  split at h
  all_goals first
    | (cases h; done)
    | (cases h; refine ⟨rfl, nofun, rfl, ?_, rfl⟩; repeat (first | exact sub_nil | refine sub_cons (by assumption) ?_))
noncomputable def xpStep : XpS → Option (XpS ⊕ XpE)
 | .c0 rw L T s =>
 (cond (s.slt 32#64)
 (cond (nonneg IntKind.i64 s && decide (s.toNat < 32))
 (cond (decide (s.toNat < 32))
 (cond (((L.getD s.toNat []).tail.headD AV.any).asBool)
 (cond ((AV.bool ((L.getD s.toNat []).tail.tail.tail.headD AV.any).asBool).asBool)
 (cond ((asI64 ((T.getD 0 []).headD AV.any)).slt (asI64 ((L.getD s.toNat []).headD AV.any)))
 (some (Sum.inr (XpE.yes rw L T 2)))
 (some (Sum.inl (XpS.c0 rw L T (s + 1#64)))))
 (some (Sum.inl (XpS.c0 rw L T (s + 1#64)))))
 (some (Sum.inl (XpS.c0 rw L T (s + 1#64)))))
   none)
  none)
 (some (Sum.inr (XpE.no rw L T))))
 | .c1 rw L T s =>
 (cond (s.slt 32#64)
 (cond (nonneg IntKind.i64 s && decide (s.toNat < 32))
 (cond (decide (s.toNat < 32))
 (cond (((L.getD s.toNat []).tail.headD AV.any).asBool)
 (cond ((AV.bool ((L.getD s.toNat []).tail.tail.tail.tail.headD AV.any).asBool).asBool)
 (cond ((asI64 ((T.getD 1 []).headD AV.any)).slt (asI64 ((L.getD s.toNat []).headD AV.any)))
 (some (Sum.inr (XpE.yes rw L T 2)))
 (some (Sum.inl (XpS.c1 rw L T (s + 1#64)))))
 (some (Sum.inl (XpS.c1 rw L T (s + 1#64)))))
 (some (Sum.inl (XpS.c1 rw L T (s + 1#64)))))
   none)
  none)
 (some (Sum.inr (XpE.no rw L T))))
end Go.Sx

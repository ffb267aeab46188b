/- What loops do, round by round. -/
import Derived.Test.YtaieimjeffedhaaSxX
import Derived.Test.YtaieimjeffedhaaSxSR
import Derived.Test.YtaieimjeffedhaaSxEC
import Derived.Test.YtaieimjeffedhaaVa12
import Derived.Test.YtaieimjeffedhaaPlPlr2
set_option linter.unusedSimpArgs false
set_option linter.unusedVariables false
set_option linter.unnecessarySimpa false
namespace Go.Sx
open Go

/-! ### lines -/
inductive LnqS where
  | a (pr : List (List AV)) (pe : BitVec 32) (se : BitVec 32) (en : List (List AV)) (th : List (List AV)) (m : BitVec 32)
inductive LnqR where
  | r (pr2 : List (List AV)) (pe2 : BitVec 32) (se2 : BitVec 32) (en2 : List (List AV)) (th2 : List (List AV))
def lnqA : LnqS → List AV
  | .a _ _ _ _ _ m => [.ptr ⟨0, 0, 0, 0, 0⟩, .int .u32 m]
def lnqH : LnqS → Heap
  | .a pr pe se en th _ => [(0, ⟨true, [.arr [.int .u32] 32 pr, .cell (.int .u32 pe), .cell (.int .u32 se), .arr [.int .u32] 2 en, .arr [.int .u32] 2 th]⟩)]
def lnqDec (args : List AV) (H : Heap) : Option LnqS := match args, H with
  | [.ptr ⟨0, 0, 0, 0, 0⟩, .int .u32 m], [(0, ⟨true, [.arr [.int .u32] 32 pr, .cell (.int .u32 pe), .cell (.int .u32 se), .arr [.int .u32] 2 en, .arr [.int .u32] 2 th]⟩)] => some (.a pr pe se en th m)
  | _, _ => none
theorem lnqDec_ok (args : List AV) (H : Heap) (x : LnqS) (h : lnqDec args H = some x) : args = lnqA x ∧ H = lnqH x := by
  unfold lnqDec at h
  split at h
  all_goals first
    | (cases h; done)
    | (cases h; exact ⟨rfl, rfl⟩)
def lnqU : LnqR → AV × Eff × Nat
  | .r pr2 pe2 se2 en2 th2 => (.tup [], [(0, some ⟨true, [.arr [.int .u32] 32 pr2, .cell (.int .u32 pe2), .cell (.int .u32 se2), .arr [.int .u32] 2 en2, .arr [.int .u32] 2 th2]⟩)], 1)
def lnqDecR (v : AV) (e : Eff) (k : Nat) : Option LnqR := match v, e, k with
  | .tup [], [(0, some ⟨true, [.arr [.int .u32] 32 pr2, .cell (.int .u32 pe2), .cell (.int .u32 se2), .arr [.int .u32] 2 en2, .arr [.int .u32] 2 th2]⟩)], 1 => some (.r pr2 pe2 se2 en2 th2)
  | _, _, _ => none
theorem lnqDecR_ok (v : AV) (e : Eff) (k : Nat) (z : LnqR) (h : lnqDecR v e k = some z) : (v, e, k) = lnqU z := by
  unfold lnqDecR at h
  split at h
  all_goals first
    | (cases h; done)
    | (cases h; rfl)
noncomputable def lnqStep : LnqS → Option LnqR
 | .a pr _ se en th m =>
 (some (LnqR.r pr (m &&& ~~~(1#32 ||| se)) se en th))

/-! ### the document: lines -/
inductive XlnS where
  | a (L : List (List AV)) (T : List (List AV)) (m : BitVec 32)
inductive XlnR where
  | r (L2 : List (List AV)) (T2 : List (List AV))
def xlnA : XlnS → List AV
  | .a _ _ m => [.ptr ⟨0, 0, 0, 0, 0⟩, .int .u32 m]
def xlnH : XlnS → Heap
  | .a L T _ => [(0, ⟨true, [.arr [.int .i64, .bool, .bool, .bool, .bool] 32 L, .arr [.int .i64] 2 T]⟩)]
def xlnDec (args : List AV) (H : Heap) : Option XlnS := match args, H with
  | [.ptr ⟨0, 0, 0, 0, 0⟩, .int .u32 m], [(0, ⟨true, [.arr [.int .i64, .bool, .bool, .bool, .bool] 32 L, .arr [.int .i64] 2 T]⟩)] => some (.a L T m)
  | _, _ => none
theorem xlnDec_ok (args : List AV) (H : Heap) (x : XlnS) (h : xlnDec args H = some x) : args = xlnA x ∧ H = xlnH x := by
  unfold xlnDec at h
  split at h
  all_goals first
    | (cases h; done)
    | (cases h; exact ⟨rfl, rfl⟩)
def xlnU : XlnR → AV × Eff × Nat
  | .r L2 T2 => (.tup [], [(0, some ⟨true, [.arr [.int .i64, .bool, .bool, .bool, .bool] 32 L2, .arr [.int .i64] 2 T2]⟩)], 1)
def xlnDecR (v : AV) (e : Eff) (k : Nat) : Option XlnR := match v, e, k with
  | .tup [], [(0, some ⟨true, [.arr [.int .i64, .bool, .bool, .bool, .bool] 32 L2, .arr [.int .i64] 2 T2]⟩)], 1 => some (.r L2 T2)
  | _, _, _ => none
theorem xlnDecR_ok (v : AV) (e : Eff) (k : Nat) (z : XlnR) (h : xlnDecR v e k = some z) : (v, e, k) = xlnU z := by
  unfold xlnDecR at h
  split at h
  all_goals first
    | (cases h; done)
    | (cases h; rfl)
noncomputable def xlnStep : XlnS → Option XlnR
 | .a L T m =>
 (cond (L.length.beq 32 && true)
 (some (XlnR.r (v_xl L m 1#64) T))
 none)

/-! ### interrupted? -/
inductive PdqS where
  | a (pr : List (List AV)) (pe : BitVec 32) (se : BitVec 32) (en : List (List AV)) (th : List (List AV)) (cx : BitVec 64)
inductive PdqR where
  | r (b : Bool) (pr2 : List (List AV)) (pe2 : BitVec 32) (se2 : BitVec 32) (en2 : List (List AV)) (th2 : List (List AV))
def pdqA : PdqS → List AV
  | .a _ _ _ _ _ cx => [.ptr ⟨0, 0, 0, 0, 0⟩, .int .i64 cx]
def pdqH : PdqS → Heap
  | .a pr pe se en th _ => [(0, ⟨true, [.arr [.int .u32] 32 pr, .cell (.int .u32 pe), .cell (.int .u32 se), .arr [.int .u32] 2 en, .arr [.int .u32] 2 th]⟩)]
def pdqDec (args : List AV) (H : Heap) : Option PdqS := match args, H with
  | [.ptr ⟨0, 0, 0, 0, 0⟩, .int .i64 cx], [(0, ⟨true, [.arr [.int .u32] 32 pr, .cell (.int .u32 pe), .cell (.int .u32 se), .arr [.int .u32] 2 en, .arr [.int .u32] 2 th]⟩)] => some (.a pr pe se en th cx)
  | _, _ => none
theorem pdqDec_ok (args : List AV) (H : Heap) (x : PdqS) (h : pdqDec args H = some x) : args = pdqA x ∧ H = pdqH x := by
  unfold pdqDec at h
  split at h
  all_goals first
    | (cases h; done)
    | (cases h; exact ⟨rfl, rfl⟩)
def pdqU : PdqR → AV × Eff × Nat
  | .r b pr2 pe2 se2 en2 th2 => (.bool b, [(0, some ⟨true, [.arr [.int .u32] 32 pr2, .cell (.int .u32 pe2), .cell (.int .u32 se2), .arr [.int .u32] 2 en2, .arr [.int .u32] 2 th2]⟩)], 1)
def pdqDecR (v : AV) (e : Eff) (k : Nat) : Option PdqR := match v, e, k with
  | .bool b, [(0, some ⟨true, [.arr [.int .u32] 32 pr2, .cell (.int .u32 pe2), .cell (.int .u32 se2), .arr [.int .u32] 2 en2, .arr [.int .u32] 2 th2]⟩)], 1 => some (.r b pr2 pe2 se2 en2 th2)
  | _, _, _ => none
theorem pdqDecR_ok (v : AV) (e : Eff) (k : Nat) (z : PdqR) (h : pdqDecR v e k = some z) : (v, e, k) = pdqU z := by
  unfold pdqDecR at h
  split at h
  all_goals first
    | (cases h; done)
    | (cases h; rfl)
noncomputable def pdqStep : PdqS → Option PdqR
 | .a pr pe se en th cx =>
 (cond ((0#64).sle cx)
 (cond (cx.slt 2#64)
 (cond (nonneg IntKind.i64 cx && decide (cx.toNat < 2))
 (cond (decide (cx.toNat < 2))
 (cond (nonneg IntKind.i64 cx && decide (cx.toNat < 2))
 (cond (decide (cx.toNat < 2))
 (some (PdqR.r ((0#32).ult (v_best pr (pe &&& asU32 ((en.getD cx.toNat []).headD AV.any)) (asU32 ((th.getD cx.toNat []).headD AV.any)) 0#32 1#32)) pr pe se en th))
      none)
     none)
    none)
   none)
 (some (PdqR.r false pr pe se en th)))
 (some (PdqR.r false pr pe se en th)))

/-! ### the document: is 0 interrupted? -/
inductive Xq0S where
  | a (L : List (List AV)) (T : List (List AV))
inductive Xq0R where
  | r (b : Bool) (L2 : List (List AV)) (T2 : List (List AV))
def xq0A : Xq0S → List AV
  | .a _ _ => [.ptr ⟨0, 0, 0, 0, 0⟩, .int .i64 0#64]
def xq0H : Xq0S → Heap
  | .a L T => [(0, ⟨true, [.arr [.int .i64, .bool, .bool, .bool, .bool] 32 L, .arr [.int .i64] 2 T]⟩)]
def xq0Dec (args : List AV) (H : Heap) : Option Xq0S := match args, H with
  | [.ptr ⟨0, 0, 0, 0, 0⟩, .int .i64 cx], [(0, ⟨true, [.arr [.int .i64, .bool, .bool, .bool, .bool] 32 L, .arr [.int .i64] 2 T]⟩)] => if cx.toNat = 0 then some (.a L T) else none
  | _, _ => none
theorem xq0Dec_ok (args : List AV) (H : Heap) (x : Xq0S) (h : xq0Dec args H = some x) : args = xq0A x ∧ H = xq0H x := by
  unfold xq0Dec at h
  split at h
  all_goals (repeat' split at h)
  all_goals first
    | (cases h; done)
    | (obtain rfl := lit64d (n := 0) (by assumption) (by decide); cases h; exact ⟨rfl, rfl⟩)
    | (cases h; exact ⟨rfl, rfl⟩)
def xq0U : Xq0R → AV × Eff × Nat
  | .r b L2 T2 => (.bool b, [(0, some ⟨true, [.arr [.int .i64, .bool, .bool, .bool, .bool] 32 L2, .arr [.int .i64] 2 T2]⟩)], 1)
def xq0DecR (v : AV) (e : Eff) (k : Nat) : Option Xq0R := match v, e, k with
  | .bool b, [(0, some ⟨true, [.arr [.int .i64, .bool, .bool, .bool, .bool] 32 L2, .arr [.int .i64] 2 T2]⟩)], 1 => some (.r b L2 T2)
  | _, _, _ => none
theorem xq0DecR_ok (v : AV) (e : Eff) (k : Nat) (z : Xq0R) (h : xq0DecR v e k = some z) : (v, e, k) = xq0U z := by
  unfold xq0DecR at h
  split at h
  all_goals first
    | (cases h; done)
    | (cases h; rfl)
noncomputable def xq0Step : Xq0S → Option Xq0R
 | .a L T =>
 (cond (v_xp L (fun s => ((L.getD s []).tail.tail.tail.headD AV.any).asBool) (asI64 ((T.getD 0 []).headD AV.any)))
 (some (Xq0R.r true L T))
 (some (Xq0R.r false L T)))

/-! ### the document: is 1 interrupted? -/
inductive Xq1S where
  | a (L : List (List AV)) (T : List (List AV))
inductive Xq1R where
  | r (b : Bool) (L2 : List (List AV)) (T2 : List (List AV))
def xq1A : Xq1S → List AV
  | .a _ _ => [.ptr ⟨0, 0, 0, 0, 0⟩, .int .i64 1#64]
def xq1H : Xq1S → Heap
  | .a L T => [(0, ⟨true, [.arr [.int .i64, .bool, .bool, .bool, .bool] 32 L, .arr [.int .i64] 2 T]⟩)]
def xq1Dec (args : List AV) (H : Heap) : Option Xq1S := match args, H with
  | [.ptr ⟨0, 0, 0, 0, 0⟩, .int .i64 cx], [(0, ⟨true, [.arr [.int .i64, .bool, .bool, .bool, .bool] 32 L, .arr [.int .i64] 2 T]⟩)] => if cx.toNat = 1 then some (.a L T) else none
  | _, _ => none
theorem xq1Dec_ok (args : List AV) (H : Heap) (x : Xq1S) (h : xq1Dec args H = some x) : args = xq1A x ∧ H = xq1H x := by
  unfold xq1Dec at h
  split at h
  all_goals (repeat' split at h)
  all_goals first
    | (cases h; done)
    | (obtain rfl := lit64d (n := 1) (by assumption) (by decide); cases h; exact ⟨rfl, rfl⟩)
    | (cases h; exact ⟨rfl, rfl⟩)
def xq1U : Xq1R → AV × Eff × Nat
  | .r b L2 T2 => (.bool b, [(0, some ⟨true, [.arr [.int .i64, .bool, .bool, .bool, .bool] 32 L2, .arr [.int .i64] 2 T2]⟩)], 1)
def xq1DecR (v : AV) (e : Eff) (k : Nat) : Option Xq1R := match v, e, k with
  | .bool b, [(0, some ⟨true, [.arr [.int .i64, .bool, .bool, .bool, .bool] 32 L2, .arr [.int .i64] 2 T2]⟩)], 1 => some (.r b L2 T2)
  | _, _, _ => none
theorem xq1DecR_ok (v : AV) (e : Eff) (k : Nat) (z : Xq1R) (h : xq1DecR v e k = some z) : (v, e, k) = xq1U z := by
  unfold xq1DecR at h
  split at h
  all_goals first
    | (cases h; done)
    | (cases h; rfl)
noncomputable def xq1Step : Xq1S → Option Xq1R
 | .a L T =>
 (cond (v_xp L (fun s => ((L.getD s []).tail.tail.tail.tail.headD AV.any).asBool) (asI64 ((T.getD 1 []).headD AV.any)))
 (some (Xq1R.r true L T))
 (some (Xq1R.r false L T)))

/-! ### the document: another context -/
inductive XqoS where
  | a (L : List (List AV)) (T : List (List AV)) (cx : BitVec 64)
inductive XqoR where
  | r (b : Bool) (L2 : List (List AV)) (T2 : List (List AV))
def xqoA : XqoS → List AV
  | .a _ _ cx => [.ptr ⟨0, 0, 0, 0, 0⟩, .int .i64 cx]
def xqoH : XqoS → Heap
  | .a L T _ => [(0, ⟨true, [.arr [.int .i64, .bool, .bool, .bool, .bool] 32 L, .arr [.int .i64] 2 T]⟩)]
def xqoDec (args : List AV) (H : Heap) : Option XqoS := match args, H with
  | [.ptr ⟨0, 0, 0, 0, 0⟩, .int .i64 cx], [(0, ⟨true, [.arr [.int .i64, .bool, .bool, .bool, .bool] 32 L, .arr [.int .i64] 2 T]⟩)] => some (.a L T cx)
  | _, _ => none
theorem xqoDec_ok (args : List AV) (H : Heap) (x : XqoS) (h : xqoDec args H = some x) : args = xqoA x ∧ H = xqoH x := by
  unfold xqoDec at h
  split at h
  all_goals first
    | (cases h; done)
    | (cases h; exact ⟨rfl, rfl⟩)
def xqoU : XqoR → AV × Eff × Nat
  | .r b L2 T2 => (.bool b, [(0, some ⟨true, [.arr [.int .i64, .bool, .bool, .bool, .bool] 32 L2, .arr [.int .i64] 2 T2]⟩)], 1)
def xqoDecR (v : AV) (e : Eff) (k : Nat) : Option XqoR := match v, e, k with
  | .bool b, [(0, some ⟨true, [.arr [.int .i64, .bool, .bool, .bool, .bool] 32 L2, .arr [.int .i64] 2 T2]⟩)], 1 => some (.r b L2 T2)
  | _, _, _ => none
theorem xqoDecR_ok (v : AV) (e : Eff) (k : Nat) (z : XqoR) (h : xqoDecR v e k = some z) : (v, e, k) = xqoU z := by
  unfold xqoDecR at h
  split at h
  all_goals first
    | (cases h; done)
    | (cases h; rfl)
noncomputable def xqoStep : XqoS → Option XqoR
 | .a L T cx =>
 (cond (!cx == 0#64)
 (cond (!cx == 1#64)
 (some (XqoR.r false L T))
  none)
 none)
end Go.Sx

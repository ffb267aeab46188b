/- What loops do, round by round. -/
import Derived.Test.YtaieimjeffedhaaSxX
import Derived.Test.YtaieimjeffedhaaSxSR
import Derived.Test.YtaieimjeffedhaaSxEC
import Derived.Test.YtaieimjeffedhaaVa12
import Derived.Test.YtaieimjeffedhaaPlPlr
import Derived.Test.YtaieimjeffedhaaPlPlc7
set_option linter.unusedSimpArgs false
set_option linter.unusedVariables false
set_option linter.unnecessarySimpa false
namespace Go.Sx
open Go

/-! ### a load -/
inductive LdqS where
  | a (pr : List (List AV)) (pe : BitVec 32) (se : BitVec 32) (en : List (List AV)) (th : List (List AV)) (off : BitVec 64) (size : BitVec 64)
inductive LdqR where
  | r (rv : BitVec 64) (b : Bool) (pr2 : List (List AV)) (pe2 : BitVec 32) (se2 : BitVec 32) (en2 : List (List AV)) (th2 : List (List AV))
def ldqA : LdqS → List AV
  | .a _ _ _ _ _ off size => [.ptr ⟨0, 0, 0, 0, 0⟩, .int .i64 off, .int .i64 size]
def ldqH : LdqS → Heap
  | .a pr pe se en th _ _ => [(0, ⟨true, [.arr [.int .u32] 32 pr, .cell (.int .u32 pe), .cell (.int .u32 se), .arr [.int .u32] 2 en, .arr [.int .u32] 2 th]⟩)]
def ldqDec (args : List AV) (H : Heap) : Option LdqS := match args, H with
  | [.ptr ⟨0, 0, 0, 0, 0⟩, .int .i64 off, .int .i64 size], [(0, ⟨true, [.arr [.int .u32] 32 pr, .cell (.int .u32 pe), .cell (.int .u32 se), .arr [.int .u32] 2 en, .arr [.int .u32] 2 th]⟩)] => some (.a pr pe se en th off size)
  | _, _ => none
theorem ldqDec_ok (args : List AV) (H : Heap) (x : LdqS) (h : ldqDec args H = some x) : args = ldqA x ∧ H = ldqH x := by
  unfold ldqDec at h
  split at h
  all_goals first
    | (cases h; done)
    | (cases h; exact ⟨rfl, rfl⟩)
def ldqU : LdqR → AV × Eff × Nat
  | .r rv b pr2 pe2 se2 en2 th2 => (.tup [.int .u64 rv, .bool b], [(0, some ⟨true, [.arr [.int .u32] 32 pr2, .cell (.int .u32 pe2), .cell (.int .u32 se2), .arr [.int .u32] 2 en2, .arr [.int .u32] 2 th2]⟩)], 1)
def ldqDecR (v : AV) (e : Eff) (k : Nat) : Option LdqR := match v, e, k with
  | .tup [.int .u64 rv, .bool b], [(0, some ⟨true, [.arr [.int .u32] 32 pr2, .cell (.int .u32 pe2), .cell (.int .u32 se2), .arr [.int .u32] 2 en2, .arr [.int .u32] 2 th2]⟩)], 1 => some (.r rv b pr2 pe2 se2 en2 th2)
  | _, _, _ => none
theorem ldqDecR_ok (v : AV) (e : Eff) (k : Nat) (z : LdqR) (h : ldqDecR v e k = some z) : (v, e, k) = ldqU z := by
  unfold ldqDecR at h
  split at h
  all_goals first
    | (cases h; done)
    | (cases h; rfl)
noncomputable def ldqStep : LdqS → Option LdqR
 | .a pr pe se en th off size =>
 (cond ((v_plic_which off size).fst == 0#64)
 (some (LdqR.r (0#64) false pr pe se en th))
 (cond ((v_plic_which off size).fst == 1#64)
 (cond (nonneg IntKind.i64 (v_plic_which off size).snd && decide ((v_plic_which off size).snd.toNat < 32))
 (cond (decide ((v_plic_which off size).snd.toNat < 32))
 (some (LdqR.r (BitVec.setWidth 64 (asU32 ((pr.getD (v_plic_which off size).snd.toNat []).headD AV.any))) true pr pe se en th))
    none)
   none)
 (cond ((v_plic_which off size).fst == 2#64)
 (some (LdqR.r (BitVec.setWidth 64 pe) true pr pe se en th))
 (cond ((v_plic_which off size).fst == 3#64)
 (cond (nonneg IntKind.i64 (v_plic_which off size).snd && decide ((v_plic_which off size).snd.toNat < 2))
 (cond (decide ((v_plic_which off size).snd.toNat < 2))
 (some (LdqR.r (BitVec.setWidth 64 (asU32 ((en.getD (v_plic_which off size).snd.toNat []).headD AV.any))) true pr pe se en th))
      none)
     none)
 (cond ((v_plic_which off size).fst == 4#64)
 (cond (nonneg IntKind.i64 (v_plic_which off size).snd && decide ((v_plic_which off size).snd.toNat < 2))
 (cond (decide ((v_plic_which off size).snd.toNat < 2))
 (some (LdqR.r (BitVec.setWidth 64 (asU32 ((th.getD (v_plic_which off size).snd.toNat []).headD AV.any))) true pr pe se en th))
       none)
      none)
 (cond ((v_plic_which off size).fst == 5#64)
 (cond (nonneg IntKind.i64 (v_plic_which off size).snd && decide ((v_plic_which off size).snd.toNat < 2))
 (cond (decide ((v_plic_which off size).snd.toNat < 2))
 (cond ((0#32).ult (v_best pr (pe &&& asU32 ((en.getD (v_plic_which off size).snd.toNat []).headD AV.any)) 0#32 0#32 1#32))
 (some (LdqR.r (BitVec.setWidth 64 (v_best pr (pe &&& asU32 ((en.getD (v_plic_which off size).snd.toNat []).headD AV.any)) 0#32 0#32 1#32)) true pr (pe &&& ~~~(1#32 <<< min (v_best pr (pe &&& asU32 ((en.getD (v_plic_which off size).snd.toNat []).headD AV.any)) 0#32 0#32 1#32).toNat 32)) (se ||| 1#32 <<< min (v_best pr (pe &&& asU32 ((en.getD (v_plic_which off size).snd.toNat []).headD AV.any)) 0#32 0#32 1#32).toNat 32) en th))
 (some (LdqR.r (BitVec.setWidth 64 (v_best pr (pe &&& asU32 ((en.getD (v_plic_which off size).snd.toNat []).headD AV.any)) 0#32 0#32 1#32)) true pr pe se en th)))
        none)
       none)
 (some (LdqR.r (0#64) true pr pe se en th))))))))

/-! ### the document: a load -/
inductive XldS where
  | a (L : List (List AV)) (T : List (List AV)) (off : BitVec 64) (size : BitVec 64)
inductive XldR where
  | r (rv : BitVec 64) (b : Bool) (L2 : List (List AV)) (T2 : List (List AV))
def xldA : XldS → List AV
  | .a _ _ off size => [.ptr ⟨0, 0, 0, 0, 0⟩, .int .i64 off, .int .i64 size]
def xldH : XldS → Heap
  | .a L T _ _ => [(0, ⟨true, [.arr [.int .i64, .bool, .bool, .bool, .bool] 32 L, .arr [.int .i64] 2 T]⟩)]
def xldDec (args : List AV) (H : Heap) : Option XldS := match args, H with
  | [.ptr ⟨0, 0, 0, 0, 0⟩, .int .i64 off, .int .i64 size], [(0, ⟨true, [.arr [.int .i64, .bool, .bool, .bool, .bool] 32 L, .arr [.int .i64] 2 T]⟩)] => some (.a L T off size)
  | _, _ => none
theorem xldDec_ok (args : List AV) (H : Heap) (x : XldS) (h : xldDec args H = some x) : args = xldA x ∧ H = xldH x := by
  unfold xldDec at h
  split at h
  all_goals first
    | (cases h; done)
    | (cases h; exact ⟨rfl, rfl⟩)
def xldU : XldR → AV × Eff × Nat
  | .r rv b L2 T2 => (.tup [.int .u64 rv, .bool b], [(0, some ⟨true, [.arr [.int .i64, .bool, .bool, .bool, .bool] 32 L2, .arr [.int .i64] 2 T2]⟩)], 1)
def xldDecR (v : AV) (e : Eff) (k : Nat) : Option XldR := match v, e, k with
  | .tup [.int .u64 rv, .bool b], [(0, some ⟨true, [.arr [.int .i64, .bool, .bool, .bool, .bool] 32 L2, .arr [.int .i64] 2 T2]⟩)], 1 => some (.r rv b L2 T2)
  | _, _, _ => none
theorem xldDecR_ok (v : AV) (e : Eff) (k : Nat) (z : XldR) (h : xldDecR v e k = some z) : (v, e, k) = xldU z := by
  unfold xldDecR at h
  split at h
  all_goals first
    | (cases h; done)
    | (cases h; rfl)
noncomputable def xldStep : XldS → Option XldR
 | .a L T off size =>
 (cond (!size == 4#64)
 (some (XldR.r (0#64) false L T))
 (cond ((0#64).sle off)
 (cond (off.slt 128#64)
 (cond (off.srem 4#64 == 0#64)
 (cond (nonneg IntKind.i64 (off.sdiv 4#64) && decide ((off.sdiv 4#64).toNat < 32))
 (cond (decide ((off.sdiv 4#64).toNat < 32))
 (some (XldR.r (BitVec.signExtend 64 (asI64 ((L.getD (off.sdiv 4#64).toNat []).headD AV.any))) true L T))
      none)
     none)
 (cond (off == 4096#64)
 (some (XldR.r (v_xi (fun s => ((L.getD s []).tail.headD AV.any).asBool) 0#64) true L T))
 (cond (off == 8192#64)
 (some (XldR.r (v_xi (fun s => ((L.getD s []).tail.tail.tail.headD AV.any).asBool) 0#64) true L T))
 (cond (off == 8320#64)
 (some (XldR.r (v_xi (fun s => ((L.getD s []).tail.tail.tail.tail.headD AV.any).asBool) 0#64) true L T))
 (cond (off == 2097152#64)
 (some (XldR.r (BitVec.signExtend 64 (asI64 ((T.getD 0 []).headD AV.any))) true L T))
 (cond (off == 2101248#64)
 (some (XldR.r (BitVec.signExtend 64 (asI64 ((T.getD 1 []).headD AV.any))) true L T))
 (cond (off == 2097156#64)
 (cond ((0#64).slt (v_xb L fun s => ((L.getD s []).tail.tail.tail.headD AV.any).asBool))
 (cond (nonneg IntKind.i64 (v_xb L fun s => ((L.getD s []).tail.tail.tail.headD AV.any).asBool) && decide ((v_xb L fun s => ((L.getD s []).tail.tail.tail.headD AV.any).asBool).toNat < 32))
 (cond (decide ((v_xb L fun s => ((L.getD s []).tail.tail.tail.headD AV.any).asBool).toNat < 32) && decide ((v_xb L fun s => ((L.getD s []).tail.tail.tail.headD AV.any).asBool).toNat < L.length))
 (cond (nonneg IntKind.i64 (v_xb L fun s => ((L.getD s []).tail.tail.tail.headD AV.any).asBool) && decide ((v_xb L fun s => ((L.getD s []).tail.tail.tail.headD AV.any).asBool).toNat < 32))
 (cond (decide ((v_xb L fun s => ((L.getD s []).tail.tail.tail.headD AV.any).asBool).toNat < 32) && decide ((v_xb L fun s => ((L.getD s []).tail.tail.tail.headD AV.any).asBool).toNat < (L.set (v_xb L fun s => ((L.getD s []).tail.tail.tail.headD AV.any).asBool).toNat [AV.int IntKind.i64 (asI64 ((L.getD (v_xb L fun s => ((L.getD s []).tail.tail.tail.headD AV.any).asBool).toNat []).headD AV.any)), AV.bool false, AV.bool ((L.getD (v_xb L fun s => ((L.getD s []).tail.tail.tail.headD AV.any).asBool).toNat []).tail.tail.headD AV.any).asBool, AV.bool ((L.getD (v_xb L fun s => ((L.getD s []).tail.tail.tail.headD AV.any).asBool).toNat []).tail.tail.tail.headD AV.any).asBool, AV.bool ((L.getD (v_xb L fun s => ((L.getD s []).tail.tail.tail.headD AV.any).asBool).toNat []).tail.tail.tail.tail.headD AV.any).asBool]).length))
 (some (XldR.r (BitVec.signExtend 64 (v_xb L fun s => ((L.getD s []).tail.tail.tail.headD AV.any).asBool)) true ((L.set (v_xb L fun s => ((L.getD s []).tail.tail.tail.headD AV.any).asBool).toNat [AV.int IntKind.i64 (asI64 ((L.getD (v_xb L fun s => ((L.getD s []).tail.tail.tail.headD AV.any).asBool).toNat []).headD AV.any)), AV.bool false, AV.bool ((L.getD (v_xb L fun s => ((L.getD s []).tail.tail.tail.headD AV.any).asBool).toNat []).tail.tail.headD AV.any).asBool, AV.bool ((L.getD (v_xb L fun s => ((L.getD s []).tail.tail.tail.headD AV.any).asBool).toNat []).tail.tail.tail.headD AV.any).asBool, AV.bool ((L.getD (v_xb L fun s => ((L.getD s []).tail.tail.tail.headD AV.any).asBool).toNat []).tail.tail.tail.tail.headD AV.any).asBool]).set (v_xb L fun s => ((L.getD s []).tail.tail.tail.headD AV.any).asBool).toNat [AV.int IntKind.i64 (asI64 (((L.set (v_xb L fun s => ((L.getD s []).tail.tail.tail.headD AV.any).asBool).toNat [AV.int IntKind.i64 (asI64 ((L.getD (v_xb L fun s => ((L.getD s []).tail.tail.tail.headD AV.any).asBool).toNat []).headD AV.any)), AV.bool false, AV.bool ((L.getD (v_xb L fun s => ((L.getD s []).tail.tail.tail.headD AV.any).asBool).toNat []).tail.tail.headD AV.any).asBool, AV.bool ((L.getD (v_xb L fun s => ((L.getD s []).tail.tail.tail.headD AV.any).asBool).toNat []).tail.tail.tail.headD AV.any).asBool, AV.bool ((L.getD (v_xb L fun s => ((L.getD s []).tail.tail.tail.headD AV.any).asBool).toNat []).tail.tail.tail.tail.headD AV.any).asBool]).getD (v_xb L fun s => ((L.getD s []).tail.tail.tail.headD AV.any).asBool).toNat []).headD AV.any)), AV.bool (((L.set (v_xb L fun s => ((L.getD s []).tail.tail.tail.headD AV.any).asBool).toNat [AV.int IntKind.i64 (asI64 ((L.getD (v_xb L fun s => ((L.getD s []).tail.tail.tail.headD AV.any).asBool).toNat []).headD AV.any)), AV.bool false, AV.bool ((L.getD (v_xb L fun s => ((L.getD s []).tail.tail.tail.headD AV.any).asBool).toNat []).tail.tail.headD AV.any).asBool, AV.bool ((L.getD (v_xb L fun s => ((L.getD s []).tail.tail.tail.headD AV.any).asBool).toNat []).tail.tail.tail.headD AV.any).asBool, AV.bool ((L.getD (v_xb L fun s => ((L.getD s []).tail.tail.tail.headD AV.any).asBool).toNat []).tail.tail.tail.tail.headD AV.any).asBool]).getD (v_xb L fun s => ((L.getD s []).tail.tail.tail.headD AV.any).asBool).toNat []).tail.headD AV.any).asBool, AV.bool true, AV.bool (((L.set (v_xb L fun s => ((L.getD s []).tail.tail.tail.headD AV.any).asBool).toNat [AV.int IntKind.i64 (asI64 ((L.getD (v_xb L fun s => ((L.getD s []).tail.tail.tail.headD AV.any).asBool).toNat []).headD AV.any)), AV.bool false, AV.bool ((L.getD (v_xb L fun s => ((L.getD s []).tail.tail.tail.headD AV.any).asBool).toNat []).tail.tail.headD AV.any).asBool, AV.bool ((L.getD (v_xb L fun s => ((L.getD s []).tail.tail.tail.headD AV.any).asBool).toNat []).tail.tail.tail.headD AV.any).asBool, AV.bool ((L.getD (v_xb L fun s => ((L.getD s []).tail.tail.tail.headD AV.any).asBool).toNat []).tail.tail.tail.tail.headD AV.any).asBool]).getD (v_xb L fun s => ((L.getD s []).tail.tail.tail.headD AV.any).asBool).toNat []).tail.tail.tail.headD AV.any).asBool, AV.bool (((L.set (v_xb L fun s => ((L.getD s []).tail.tail.tail.headD AV.any).asBool).toNat [AV.int IntKind.i64 (asI64 ((L.getD (v_xb L fun s => ((L.getD s []).tail.tail.tail.headD AV.any).asBool).toNat []).headD AV.any)), AV.bool false, AV.bool ((L.getD (v_xb L fun s => ((L.getD s []).tail.tail.tail.headD AV.any).asBool).toNat []).tail.tail.headD AV.any).asBool, AV.bool ((L.getD (v_xb L fun s => ((L.getD s []).tail.tail.tail.headD AV.any).asBool).toNat []).tail.tail.tail.headD AV.any).asBool, AV.bool ((L.getD (v_xb L fun s => ((L.getD s []).tail.tail.tail.headD AV.any).asBool).toNat []).tail.tail.tail.tail.headD AV.any).asBool]).getD (v_xb L fun s => ((L.getD s []).tail.tail.tail.headD AV.any).asBool).toNat []).tail.tail.tail.tail.headD AV.any).asBool]) T))
               none)
              none)
             none)
            none)
 (some (XldR.r (BitVec.signExtend 64 (v_xb L fun s => ((L.getD s []).tail.tail.tail.headD AV.any).asBool)) true L T)))
 (cond (off == 2101252#64)
 (cond ((0#64).slt (v_xb L fun s => ((L.getD s []).tail.tail.tail.tail.headD AV.any).asBool))
 (cond (nonneg IntKind.i64 (v_xb L fun s => ((L.getD s []).tail.tail.tail.tail.headD AV.any).asBool) && decide ((v_xb L fun s => ((L.getD s []).tail.tail.tail.tail.headD AV.any).asBool).toNat < 32))
 (cond (decide ((v_xb L fun s => ((L.getD s []).tail.tail.tail.tail.headD AV.any).asBool).toNat < 32) && decide ((v_xb L fun s => ((L.getD s []).tail.tail.tail.tail.headD AV.any).asBool).toNat < L.length))
 (cond (nonneg IntKind.i64 (v_xb L fun s => ((L.getD s []).tail.tail.tail.tail.headD AV.any).asBool) && decide ((v_xb L fun s => ((L.getD s []).tail.tail.tail.tail.headD AV.any).asBool).toNat < 32))
 (cond (decide ((v_xb L fun s => ((L.getD s []).tail.tail.tail.tail.headD AV.any).asBool).toNat < 32) && decide ((v_xb L fun s => ((L.getD s []).tail.tail.tail.tail.headD AV.any).asBool).toNat < (L.set (v_xb L fun s => ((L.getD s []).tail.tail.tail.tail.headD AV.any).asBool).toNat [AV.int IntKind.i64 (asI64 ((L.getD (v_xb L fun s => ((L.getD s []).tail.tail.tail.tail.headD AV.any).asBool).toNat []).headD AV.any)), AV.bool false, AV.bool ((L.getD (v_xb L fun s => ((L.getD s []).tail.tail.tail.tail.headD AV.any).asBool).toNat []).tail.tail.headD AV.any).asBool, AV.bool ((L.getD (v_xb L fun s => ((L.getD s []).tail.tail.tail.tail.headD AV.any).asBool).toNat []).tail.tail.tail.headD AV.any).asBool, AV.bool ((L.getD (v_xb L fun s => ((L.getD s []).tail.tail.tail.tail.headD AV.any).asBool).toNat []).tail.tail.tail.tail.headD AV.any).asBool]).length))
 (some (XldR.r (BitVec.signExtend 64 (v_xb L fun s => ((L.getD s []).tail.tail.tail.tail.headD AV.any).asBool)) true ((L.set (v_xb L fun s => ((L.getD s []).tail.tail.tail.tail.headD AV.any).asBool).toNat [AV.int IntKind.i64 (asI64 ((L.getD (v_xb L fun s => ((L.getD s []).tail.tail.tail.tail.headD AV.any).asBool).toNat []).headD AV.any)), AV.bool false, AV.bool ((L.getD (v_xb L fun s => ((L.getD s []).tail.tail.tail.tail.headD AV.any).asBool).toNat []).tail.tail.headD AV.any).asBool, AV.bool ((L.getD (v_xb L fun s => ((L.getD s []).tail.tail.tail.tail.headD AV.any).asBool).toNat []).tail.tail.tail.headD AV.any).asBool, AV.bool ((L.getD (v_xb L fun s => ((L.getD s []).tail.tail.tail.tail.headD AV.any).asBool).toNat []).tail.tail.tail.tail.headD AV.any).asBool]).set (v_xb L fun s => ((L.getD s []).tail.tail.tail.tail.headD AV.any).asBool).toNat [AV.int IntKind.i64 (asI64 (((L.set (v_xb L fun s => ((L.getD s []).tail.tail.tail.tail.headD AV.any).asBool).toNat [AV.int IntKind.i64 (asI64 ((L.getD (v_xb L fun s => ((L.getD s []).tail.tail.tail.tail.headD AV.any).asBool).toNat []).headD AV.any)), AV.bool false, AV.bool ((L.getD (v_xb L fun s => ((L.getD s []).tail.tail.tail.tail.headD AV.any).asBool).toNat []).tail.tail.headD AV.any).asBool, AV.bool ((L.getD (v_xb L fun s => ((L.getD s []).tail.tail.tail.tail.headD AV.any).asBool).toNat []).tail.tail.tail.headD AV.any).asBool, AV.bool ((L.getD (v_xb L fun s => ((L.getD s []).tail.tail.tail.tail.headD AV.any).asBool).toNat []).tail.tail.tail.tail.headD AV.any).asBool]).getD (v_xb L fun s => ((L.getD s []).tail.tail.tail.tail.headD AV.any).asBool).toNat []).headD AV.any)), AV.bool (((L.set (v_xb L fun s => ((L.getD s []).tail.tail.tail.tail.headD AV.any).asBool).toNat [AV.int IntKind.i64 (asI64 ((L.getD (v_xb L fun s => ((L.getD s []).tail.tail.tail.tail.headD AV.any).asBool).toNat []).headD AV.any)), AV.bool false, AV.bool ((L.getD (v_xb L fun s => ((L.getD s []).tail.tail.tail.tail.headD AV.any).asBool).toNat []).tail.tail.headD AV.any).asBool, AV.bool ((L.getD (v_xb L fun s => ((L.getD s []).tail.tail.tail.tail.headD AV.any).asBool).toNat []).tail.tail.tail.headD AV.any).asBool, AV.bool ((L.getD (v_xb L fun s => ((L.getD s []).tail.tail.tail.tail.headD AV.any).asBool).toNat []).tail.tail.tail.tail.headD AV.any).asBool]).getD (v_xb L fun s => ((L.getD s []).tail.tail.tail.tail.headD AV.any).asBool).toNat []).tail.headD AV.any).asBool, AV.bool true, AV.bool (((L.set (v_xb L fun s => ((L.getD s []).tail.tail.tail.tail.headD AV.any).asBool).toNat [AV.int IntKind.i64 (asI64 ((L.getD (v_xb L fun s => ((L.getD s []).tail.tail.tail.tail.headD AV.any).asBool).toNat []).headD AV.any)), AV.bool false, AV.bool ((L.getD (v_xb L fun s => ((L.getD s []).tail.tail.tail.tail.headD AV.any).asBool).toNat []).tail.tail.headD AV.any).asBool, AV.bool ((L.getD (v_xb L fun s => ((L.getD s []).tail.tail.tail.tail.headD AV.any).asBool).toNat []).tail.tail.tail.headD AV.any).asBool, AV.bool ((L.getD (v_xb L fun s => ((L.getD s []).tail.tail.tail.tail.headD AV.any).asBool).toNat []).tail.tail.tail.tail.headD AV.any).asBool]).getD (v_xb L fun s => ((L.getD s []).tail.tail.tail.tail.headD AV.any).asBool).toNat []).tail.tail.tail.headD AV.any).asBool, AV.bool (((L.set (v_xb L fun s => ((L.getD s []).tail.tail.tail.tail.headD AV.any).asBool).toNat [AV.int IntKind.i64 (asI64 ((L.getD (v_xb L fun s => ((L.getD s []).tail.tail.tail.tail.headD AV.any).asBool).toNat []).headD AV.any)), AV.bool false, AV.bool ((L.getD (v_xb L fun s => ((L.getD s []).tail.tail.tail.tail.headD AV.any).asBool).toNat []).tail.tail.headD AV.any).asBool, AV.bool ((L.getD (v_xb L fun s => ((L.getD s []).tail.tail.tail.tail.headD AV.any).asBool).toNat []).tail.tail.tail.headD AV.any).asBool, AV.bool ((L.getD (v_xb L fun s => ((L.getD s []).tail.tail.tail.tail.headD AV.any).asBool).toNat []).tail.tail.tail.tail.headD AV.any).asBool]).getD (v_xb L fun s => ((L.getD s []).tail.tail.tail.tail.headD AV.any).asBool).toNat []).tail.tail.tail.tail.headD AV.any).asBool]) T))
                none)
               none)
              none)
             none)
 (some (XldR.r (BitVec.signExtend 64 (v_xb L fun s => ((L.getD s []).tail.tail.tail.tail.headD AV.any).asBool)) true L T)))
 (some (XldR.r (0#64) false L T))))))))))
 (cond (off == 4096#64)
 (some (XldR.r (v_xi (fun s => ((L.getD s []).tail.headD AV.any).asBool) 0#64) true L T))
 (cond (off == 8192#64)
 (some (XldR.r (v_xi (fun s => ((L.getD s []).tail.tail.tail.headD AV.any).asBool) 0#64) true L T))
 (cond (off == 8320#64)
 (some (XldR.r (v_xi (fun s => ((L.getD s []).tail.tail.tail.tail.headD AV.any).asBool) 0#64) true L T))
 (cond (off == 2097152#64)
 (some (XldR.r (BitVec.signExtend 64 (asI64 ((T.getD 0 []).headD AV.any))) true L T))
 (cond (off == 2101248#64)
 (some (XldR.r (BitVec.signExtend 64 (asI64 ((T.getD 1 []).headD AV.any))) true L T))
 (cond (off == 2097156#64)
 (cond ((0#64).slt (v_xb L fun s => ((L.getD s []).tail.tail.tail.headD AV.any).asBool))
 (cond (nonneg IntKind.i64 (v_xb L fun s => ((L.getD s []).tail.tail.tail.headD AV.any).asBool) && decide ((v_xb L fun s => ((L.getD s []).tail.tail.tail.headD AV.any).asBool).toNat < 32))
 (cond (decide ((v_xb L fun s => ((L.getD s []).tail.tail.tail.headD AV.any).asBool).toNat < 32) && decide ((v_xb L fun s => ((L.getD s []).tail.tail.tail.headD AV.any).asBool).toNat < L.length))
 (cond (nonneg IntKind.i64 (v_xb L fun s => ((L.getD s []).tail.tail.tail.headD AV.any).asBool) && decide ((v_xb L fun s => ((L.getD s []).tail.tail.tail.headD AV.any).asBool).toNat < 32))
 (cond (decide ((v_xb L fun s => ((L.getD s []).tail.tail.tail.headD AV.any).asBool).toNat < 32) && decide ((v_xb L fun s => ((L.getD s []).tail.tail.tail.headD AV.any).asBool).toNat < (L.set (v_xb L fun s => ((L.getD s []).tail.tail.tail.headD AV.any).asBool).toNat [AV.int IntKind.i64 (asI64 ((L.getD (v_xb L fun s => ((L.getD s []).tail.tail.tail.headD AV.any).asBool).toNat []).headD AV.any)), AV.bool false, AV.bool ((L.getD (v_xb L fun s => ((L.getD s []).tail.tail.tail.headD AV.any).asBool).toNat []).tail.tail.headD AV.any).asBool, AV.bool ((L.getD (v_xb L fun s => ((L.getD s []).tail.tail.tail.headD AV.any).asBool).toNat []).tail.tail.tail.headD AV.any).asBool, AV.bool ((L.getD (v_xb L fun s => ((L.getD s []).tail.tail.tail.headD AV.any).asBool).toNat []).tail.tail.tail.tail.headD AV.any).asBool]).length))
 (some (XldR.r (BitVec.signExtend 64 (v_xb L fun s => ((L.getD s []).tail.tail.tail.headD AV.any).asBool)) true ((L.set (v_xb L fun s => ((L.getD s []).tail.tail.tail.headD AV.any).asBool).toNat [AV.int IntKind.i64 (asI64 ((L.getD (v_xb L fun s => ((L.getD s []).tail.tail.tail.headD AV.any).asBool).toNat []).headD AV.any)), AV.bool false, AV.bool ((L.getD (v_xb L fun s => ((L.getD s []).tail.tail.tail.headD AV.any).asBool).toNat []).tail.tail.headD AV.any).asBool, AV.bool ((L.getD (v_xb L fun s => ((L.getD s []).tail.tail.tail.headD AV.any).asBool).toNat []).tail.tail.tail.headD AV.any).asBool, AV.bool ((L.getD (v_xb L fun s => ((L.getD s []).tail.tail.tail.headD AV.any).asBool).toNat []).tail.tail.tail.tail.headD AV.any).asBool]).set (v_xb L fun s => ((L.getD s []).tail.tail.tail.headD AV.any).asBool).toNat [AV.int IntKind.i64 (asI64 (((L.set (v_xb L fun s => ((L.getD s []).tail.tail.tail.headD AV.any).asBool).toNat [AV.int IntKind.i64 (asI64 ((L.getD (v_xb L fun s => ((L.getD s []).tail.tail.tail.headD AV.any).asBool).toNat []).headD AV.any)), AV.bool false, AV.bool ((L.getD (v_xb L fun s => ((L.getD s []).tail.tail.tail.headD AV.any).asBool).toNat []).tail.tail.headD AV.any).asBool, AV.bool ((L.getD (v_xb L fun s => ((L.getD s []).tail.tail.tail.headD AV.any).asBool).toNat []).tail.tail.tail.headD AV.any).asBool, AV.bool ((L.getD (v_xb L fun s => ((L.getD s []).tail.tail.tail.headD AV.any).asBool).toNat []).tail.tail.tail.tail.headD AV.any).asBool]).getD (v_xb L fun s => ((L.getD s []).tail.tail.tail.headD AV.any).asBool).toNat []).headD AV.any)), AV.bool (((L.set (v_xb L fun s => ((L.getD s []).tail.tail.tail.headD AV.any).asBool).toNat [AV.int IntKind.i64 (asI64 ((L.getD (v_xb L fun s => ((L.getD s []).tail.tail.tail.headD AV.any).asBool).toNat []).headD AV.any)), AV.bool false, AV.bool ((L.getD (v_xb L fun s => ((L.getD s []).tail.tail.tail.headD AV.any).asBool).toNat []).tail.tail.headD AV.any).asBool, AV.bool ((L.getD (v_xb L fun s => ((L.getD s []).tail.tail.tail.headD AV.any).asBool).toNat []).tail.tail.tail.headD AV.any).asBool, AV.bool ((L.getD (v_xb L fun s => ((L.getD s []).tail.tail.tail.headD AV.any).asBool).toNat []).tail.tail.tail.tail.headD AV.any).asBool]).getD (v_xb L fun s => ((L.getD s []).tail.tail.tail.headD AV.any).asBool).toNat []).tail.headD AV.any).asBool, AV.bool true, AV.bool (((L.set (v_xb L fun s => ((L.getD s []).tail.tail.tail.headD AV.any).asBool).toNat [AV.int IntKind.i64 (asI64 ((L.getD (v_xb L fun s => ((L.getD s []).tail.tail.tail.headD AV.any).asBool).toNat []).headD AV.any)), AV.bool false, AV.bool ((L.getD (v_xb L fun s => ((L.getD s []).tail.tail.tail.headD AV.any).asBool).toNat []).tail.tail.headD AV.any).asBool, AV.bool ((L.getD (v_xb L fun s => ((L.getD s []).tail.tail.tail.headD AV.any).asBool).toNat []).tail.tail.tail.headD AV.any).asBool, AV.bool ((L.getD (v_xb L fun s => ((L.getD s []).tail.tail.tail.headD AV.any).asBool).toNat []).tail.tail.tail.tail.headD AV.any).asBool]).getD (v_xb L fun s => ((L.getD s []).tail.tail.tail.headD AV.any).asBool).toNat []).tail.tail.tail.headD AV.any).asBool, AV.bool (((L.set (v_xb L fun s => ((L.getD s []).tail.tail.tail.headD AV.any).asBool).toNat [AV.int IntKind.i64 (asI64 ((L.getD (v_xb L fun s => ((L.getD s []).tail.tail.tail.headD AV.any).asBool).toNat []).headD AV.any)), AV.bool false, AV.bool ((L.getD (v_xb L fun s => ((L.getD s []).tail.tail.tail.headD AV.any).asBool).toNat []).tail.tail.headD AV.any).asBool, AV.bool ((L.getD (v_xb L fun s => ((L.getD s []).tail.tail.tail.headD AV.any).asBool).toNat []).tail.tail.tail.headD AV.any).asBool, AV.bool ((L.getD (v_xb L fun s => ((L.getD s []).tail.tail.tail.headD AV.any).asBool).toNat []).tail.tail.tail.tail.headD AV.any).asBool]).getD (v_xb L fun s => ((L.getD s []).tail.tail.tail.headD AV.any).asBool).toNat []).tail.tail.tail.tail.headD AV.any).asBool]) T))
              none)
             none)
            none)
           none)
 (some (XldR.r (BitVec.signExtend 64 (v_xb L fun s => ((L.getD s []).tail.tail.tail.headD AV.any).asBool)) true L T)))
 (cond (off == 2101252#64)
 (cond ((0#64).slt (v_xb L fun s => ((L.getD s []).tail.tail.tail.tail.headD AV.any).asBool))
 (cond (nonneg IntKind.i64 (v_xb L fun s => ((L.getD s []).tail.tail.tail.tail.headD AV.any).asBool) && decide ((v_xb L fun s => ((L.getD s []).tail.tail.tail.tail.headD AV.any).asBool).toNat < 32))
 (cond (decide ((v_xb L fun s => ((L.getD s []).tail.tail.tail.tail.headD AV.any).asBool).toNat < 32) && decide ((v_xb L fun s => ((L.getD s []).tail.tail.tail.tail.headD AV.any).asBool).toNat < L.length))
 (cond (nonneg IntKind.i64 (v_xb L fun s => ((L.getD s []).tail.tail.tail.tail.headD AV.any).asBool) && decide ((v_xb L fun s => ((L.getD s []).tail.tail.tail.tail.headD AV.any).asBool).toNat < 32))
 (cond (decide ((v_xb L fun s => ((L.getD s []).tail.tail.tail.tail.headD AV.any).asBool).toNat < 32) && decide ((v_xb L fun s => ((L.getD s []).tail.tail.tail.tail.headD AV.any).asBool).toNat < (L.set (v_xb L fun s => ((L.getD s []).tail.tail.tail.tail.headD AV.any).asBool).toNat [AV.int IntKind.i64 (asI64 ((L.getD (v_xb L fun s => ((L.getD s []).tail.tail.tail.tail.headD AV.any).asBool).toNat []).headD AV.any)), AV.bool false, AV.bool ((L.getD (v_xb L fun s => ((L.getD s []).tail.tail.tail.tail.headD AV.any).asBool).toNat []).tail.tail.headD AV.any).asBool, AV.bool ((L.getD (v_xb L fun s => ((L.getD s []).tail.tail.tail.tail.headD AV.any).asBool).toNat []).tail.tail.tail.headD AV.any).asBool, AV.bool ((L.getD (v_xb L fun s => ((L.getD s []).tail.tail.tail.tail.headD AV.any).asBool).toNat []).tail.tail.tail.tail.headD AV.any).asBool]).length))
 (some (XldR.r (BitVec.signExtend 64 (v_xb L fun s => ((L.getD s []).tail.tail.tail.tail.headD AV.any).asBool)) true ((L.set (v_xb L fun s => ((L.getD s []).tail.tail.tail.tail.headD AV.any).asBool).toNat [AV.int IntKind.i64 (asI64 ((L.getD (v_xb L fun s => ((L.getD s []).tail.tail.tail.tail.headD AV.any).asBool).toNat []).headD AV.any)), AV.bool false, AV.bool ((L.getD (v_xb L fun s => ((L.getD s []).tail.tail.tail.tail.headD AV.any).asBool).toNat []).tail.tail.headD AV.any).asBool, AV.bool ((L.getD (v_xb L fun s => ((L.getD s []).tail.tail.tail.tail.headD AV.any).asBool).toNat []).tail.tail.tail.headD AV.any).asBool, AV.bool ((L.getD (v_xb L fun s => ((L.getD s []).tail.tail.tail.tail.headD AV.any).asBool).toNat []).tail.tail.tail.tail.headD AV.any).asBool]).set (v_xb L fun s => ((L.getD s []).tail.tail.tail.tail.headD AV.any).asBool).toNat [AV.int IntKind.i64 (asI64 (((L.set (v_xb L fun s => ((L.getD s []).tail.tail.tail.tail.headD AV.any).asBool).toNat [AV.int IntKind.i64 (asI64 ((L.getD (v_xb L fun s => ((L.getD s []).tail.tail.tail.tail.headD AV.any).asBool).toNat []).headD AV.any)), AV.bool false, AV.bool ((L.getD (v_xb L fun s => ((L.getD s []).tail.tail.tail.tail.headD AV.any).asBool).toNat []).tail.tail.headD AV.any).asBool, AV.bool ((L.getD (v_xb L fun s => ((L.getD s []).tail.tail.tail.tail.headD AV.any).asBool).toNat []).tail.tail.tail.headD AV.any).asBool, AV.bool ((L.getD (v_xb L fun s => ((L.getD s []).tail.tail.tail.tail.headD AV.any).asBool).toNat []).tail.tail.tail.tail.headD AV.any).asBool]).getD (v_xb L fun s => ((L.getD s []).tail.tail.tail.tail.headD AV.any).asBool).toNat []).headD AV.any)), AV.bool (((L.set (v_xb L fun s => ((L.getD s []).tail.tail.tail.tail.headD AV.any).asBool).toNat [AV.int IntKind.i64 (asI64 ((L.getD (v_xb L fun s => ((L.getD s []).tail.tail.tail.tail.headD AV.any).asBool).toNat []).headD AV.any)), AV.bool false, AV.bool ((L.getD (v_xb L fun s => ((L.getD s []).tail.tail.tail.tail.headD AV.any).asBool).toNat []).tail.tail.headD AV.any).asBool, AV.bool ((L.getD (v_xb L fun s => ((L.getD s []).tail.tail.tail.tail.headD AV.any).asBool).toNat []).tail.tail.tail.headD AV.any).asBool, AV.bool ((L.getD (v_xb L fun s => ((L.getD s []).tail.tail.tail.tail.headD AV.any).asBool).toNat []).tail.tail.tail.tail.headD AV.any).asBool]).getD (v_xb L fun s => ((L.getD s []).tail.tail.tail.tail.headD AV.any).asBool).toNat []).tail.headD AV.any).asBool, AV.bool true, AV.bool (((L.set (v_xb L fun s => ((L.getD s []).tail.tail.tail.tail.headD AV.any).asBool).toNat [AV.int IntKind.i64 (asI64 ((L.getD (v_xb L fun s => ((L.getD s []).tail.tail.tail.tail.headD AV.any).asBool).toNat []).headD AV.any)), AV.bool false, AV.bool ((L.getD (v_xb L fun s => ((L.getD s []).tail.tail.tail.tail.headD AV.any).asBool).toNat []).tail.tail.headD AV.any).asBool, AV.bool ((L.getD (v_xb L fun s => ((L.getD s []).tail.tail.tail.tail.headD AV.any).asBool).toNat []).tail.tail.tail.headD AV.any).asBool, AV.bool ((L.getD (v_xb L fun s => ((L.getD s []).tail.tail.tail.tail.headD AV.any).asBool).toNat []).tail.tail.tail.tail.headD AV.any).asBool]).getD (v_xb L fun s => ((L.getD s []).tail.tail.tail.tail.headD AV.any).asBool).toNat []).tail.tail.tail.headD AV.any).asBool, AV.bool (((L.set (v_xb L fun s => ((L.getD s []).tail.tail.tail.tail.headD AV.any).asBool).toNat [AV.int IntKind.i64 (asI64 ((L.getD (v_xb L fun s => ((L.getD s []).tail.tail.tail.tail.headD AV.any).asBool).toNat []).headD AV.any)), AV.bool false, AV.bool ((L.getD (v_xb L fun s => ((L.getD s []).tail.tail.tail.tail.headD AV.any).asBool).toNat []).tail.tail.headD AV.any).asBool, AV.bool ((L.getD (v_xb L fun s => ((L.getD s []).tail.tail.tail.tail.headD AV.any).asBool).toNat []).tail.tail.tail.headD AV.any).asBool, AV.bool ((L.getD (v_xb L fun s => ((L.getD s []).tail.tail.tail.tail.headD AV.any).asBool).toNat []).tail.tail.tail.tail.headD AV.any).asBool]).getD (v_xb L fun s => ((L.getD s []).tail.tail.tail.tail.headD AV.any).asBool).toNat []).tail.tail.tail.tail.headD AV.any).asBool]) T))
               none)
              none)
             none)
            none)
 (some (XldR.r (BitVec.signExtend 64 (v_xb L fun s => ((L.getD s []).tail.tail.tail.tail.headD AV.any).asBool)) true L T)))
 (some (XldR.r (0#64) false L T))))))))))
 (cond (off == 4096#64)
 (some (XldR.r (v_xi (fun s => ((L.getD s []).tail.headD AV.any).asBool) 0#64) true L T))
 (cond (off == 8192#64)
 (some (XldR.r (v_xi (fun s => ((L.getD s []).tail.tail.tail.headD AV.any).asBool) 0#64) true L T))
 (cond (off == 8320#64)
 (some (XldR.r (v_xi (fun s => ((L.getD s []).tail.tail.tail.tail.headD AV.any).asBool) 0#64) true L T))
 (cond (off == 2097152#64)
 (some (XldR.r (BitVec.signExtend 64 (asI64 ((T.getD 0 []).headD AV.any))) true L T))
 (cond (off == 2101248#64)
 (some (XldR.r (BitVec.signExtend 64 (asI64 ((T.getD 1 []).headD AV.any))) true L T))
 (cond (off == 2097156#64)
 (cond ((0#64).slt (v_xb L fun s => ((L.getD s []).tail.tail.tail.headD AV.any).asBool))
 (cond (nonneg IntKind.i64 (v_xb L fun s => ((L.getD s []).tail.tail.tail.headD AV.any).asBool) && decide ((v_xb L fun s => ((L.getD s []).tail.tail.tail.headD AV.any).asBool).toNat < 32))
 (cond (decide ((v_xb L fun s => ((L.getD s []).tail.tail.tail.headD AV.any).asBool).toNat < 32) && decide ((v_xb L fun s => ((L.getD s []).tail.tail.tail.headD AV.any).asBool).toNat < L.length))
 (cond (nonneg IntKind.i64 (v_xb L fun s => ((L.getD s []).tail.tail.tail.headD AV.any).asBool) && decide ((v_xb L fun s => ((L.getD s []).tail.tail.tail.headD AV.any).asBool).toNat < 32))
 (cond (decide ((v_xb L fun s => ((L.getD s []).tail.tail.tail.headD AV.any).asBool).toNat < 32) && decide ((v_xb L fun s => ((L.getD s []).tail.tail.tail.headD AV.any).asBool).toNat < (L.set (v_xb L fun s => ((L.getD s []).tail.tail.tail.headD AV.any).asBool).toNat [AV.int IntKind.i64 (asI64 ((L.getD (v_xb L fun s => ((L.getD s []).tail.tail.tail.headD AV.any).asBool).toNat []).headD AV.any)), AV.bool false, AV.bool ((L.getD (v_xb L fun s => ((L.getD s []).tail.tail.tail.headD AV.any).asBool).toNat []).tail.tail.headD AV.any).asBool, AV.bool ((L.getD (v_xb L fun s => ((L.getD s []).tail.tail.tail.headD AV.any).asBool).toNat []).tail.tail.tail.headD AV.any).asBool, AV.bool ((L.getD (v_xb L fun s => ((L.getD s []).tail.tail.tail.headD AV.any).asBool).toNat []).tail.tail.tail.tail.headD AV.any).asBool]).length))
 (some (XldR.r (BitVec.signExtend 64 (v_xb L fun s => ((L.getD s []).tail.tail.tail.headD AV.any).asBool)) true ((L.set (v_xb L fun s => ((L.getD s []).tail.tail.tail.headD AV.any).asBool).toNat [AV.int IntKind.i64 (asI64 ((L.getD (v_xb L fun s => ((L.getD s []).tail.tail.tail.headD AV.any).asBool).toNat []).headD AV.any)), AV.bool false, AV.bool ((L.getD (v_xb L fun s => ((L.getD s []).tail.tail.tail.headD AV.any).asBool).toNat []).tail.tail.headD AV.any).asBool, AV.bool ((L.getD (v_xb L fun s => ((L.getD s []).tail.tail.tail.headD AV.any).asBool).toNat []).tail.tail.tail.headD AV.any).asBool, AV.bool ((L.getD (v_xb L fun s => ((L.getD s []).tail.tail.tail.headD AV.any).asBool).toNat []).tail.tail.tail.tail.headD AV.any).asBool]).set (v_xb L fun s => ((L.getD s []).tail.tail.tail.headD AV.any).asBool).toNat [AV.int IntKind.i64 (asI64 (((L.set (v_xb L fun s => ((L.getD s []).tail.tail.tail.headD AV.any).asBool).toNat [AV.int IntKind.i64 (asI64 ((L.getD (v_xb L fun s => ((L.getD s []).tail.tail.tail.headD AV.any).asBool).toNat []).headD AV.any)), AV.bool false, AV.bool ((L.getD (v_xb L fun s => ((L.getD s []).tail.tail.tail.headD AV.any).asBool).toNat []).tail.tail.headD AV.any).asBool, AV.bool ((L.getD (v_xb L fun s => ((L.getD s []).tail.tail.tail.headD AV.any).asBool).toNat []).tail.tail.tail.headD AV.any).asBool, AV.bool ((L.getD (v_xb L fun s => ((L.getD s []).tail.tail.tail.headD AV.any).asBool).toNat []).tail.tail.tail.tail.headD AV.any).asBool]).getD (v_xb L fun s => ((L.getD s []).tail.tail.tail.headD AV.any).asBool).toNat []).headD AV.any)), AV.bool (((L.set (v_xb L fun s => ((L.getD s []).tail.tail.tail.headD AV.any).asBool).toNat [AV.int IntKind.i64 (asI64 ((L.getD (v_xb L fun s => ((L.getD s []).tail.tail.tail.headD AV.any).asBool).toNat []).headD AV.any)), AV.bool false, AV.bool ((L.getD (v_xb L fun s => ((L.getD s []).tail.tail.tail.headD AV.any).asBool).toNat []).tail.tail.headD AV.any).asBool, AV.bool ((L.getD (v_xb L fun s => ((L.getD s []).tail.tail.tail.headD AV.any).asBool).toNat []).tail.tail.tail.headD AV.any).asBool, AV.bool ((L.getD (v_xb L fun s => ((L.getD s []).tail.tail.tail.headD AV.any).asBool).toNat []).tail.tail.tail.tail.headD AV.any).asBool]).getD (v_xb L fun s => ((L.getD s []).tail.tail.tail.headD AV.any).asBool).toNat []).tail.headD AV.any).asBool, AV.bool true, AV.bool (((L.set (v_xb L fun s => ((L.getD s []).tail.tail.tail.headD AV.any).asBool).toNat [AV.int IntKind.i64 (asI64 ((L.getD (v_xb L fun s => ((L.getD s []).tail.tail.tail.headD AV.any).asBool).toNat []).headD AV.any)), AV.bool false, AV.bool ((L.getD (v_xb L fun s => ((L.getD s []).tail.tail.tail.headD AV.any).asBool).toNat []).tail.tail.headD AV.any).asBool, AV.bool ((L.getD (v_xb L fun s => ((L.getD s []).tail.tail.tail.headD AV.any).asBool).toNat []).tail.tail.tail.headD AV.any).asBool, AV.bool ((L.getD (v_xb L fun s => ((L.getD s []).tail.tail.tail.headD AV.any).asBool).toNat []).tail.tail.tail.tail.headD AV.any).asBool]).getD (v_xb L fun s => ((L.getD s []).tail.tail.tail.headD AV.any).asBool).toNat []).tail.tail.tail.headD AV.any).asBool, AV.bool (((L.set (v_xb L fun s => ((L.getD s []).tail.tail.tail.headD AV.any).asBool).toNat [AV.int IntKind.i64 (asI64 ((L.getD (v_xb L fun s => ((L.getD s []).tail.tail.tail.headD AV.any).asBool).toNat []).headD AV.any)), AV.bool false, AV.bool ((L.getD (v_xb L fun s => ((L.getD s []).tail.tail.tail.headD AV.any).asBool).toNat []).tail.tail.headD AV.any).asBool, AV.bool ((L.getD (v_xb L fun s => ((L.getD s []).tail.tail.tail.headD AV.any).asBool).toNat []).tail.tail.tail.headD AV.any).asBool, AV.bool ((L.getD (v_xb L fun s => ((L.getD s []).tail.tail.tail.headD AV.any).asBool).toNat []).tail.tail.tail.tail.headD AV.any).asBool]).getD (v_xb L fun s => ((L.getD s []).tail.tail.tail.headD AV.any).asBool).toNat []).tail.tail.tail.tail.headD AV.any).asBool]) T))
             none)
            none)
           none)
          none)
 (some (XldR.r (BitVec.signExtend 64 (v_xb L fun s => ((L.getD s []).tail.tail.tail.headD AV.any).asBool)) true L T)))
 (cond (off == 2101252#64)
 (cond ((0#64).slt (v_xb L fun s => ((L.getD s []).tail.tail.tail.tail.headD AV.any).asBool))
 (cond (nonneg IntKind.i64 (v_xb L fun s => ((L.getD s []).tail.tail.tail.tail.headD AV.any).asBool) && decide ((v_xb L fun s => ((L.getD s []).tail.tail.tail.tail.headD AV.any).asBool).toNat < 32))
 (cond (decide ((v_xb L fun s => ((L.getD s []).tail.tail.tail.tail.headD AV.any).asBool).toNat < 32) && decide ((v_xb L fun s => ((L.getD s []).tail.tail.tail.tail.headD AV.any).asBool).toNat < L.length))
 (cond (nonneg IntKind.i64 (v_xb L fun s => ((L.getD s []).tail.tail.tail.tail.headD AV.any).asBool) && decide ((v_xb L fun s => ((L.getD s []).tail.tail.tail.tail.headD AV.any).asBool).toNat < 32))
 (cond (decide ((v_xb L fun s => ((L.getD s []).tail.tail.tail.tail.headD AV.any).asBool).toNat < 32) && decide ((v_xb L fun s => ((L.getD s []).tail.tail.tail.tail.headD AV.any).asBool).toNat < (L.set (v_xb L fun s => ((L.getD s []).tail.tail.tail.tail.headD AV.any).asBool).toNat [AV.int IntKind.i64 (asI64 ((L.getD (v_xb L fun s => ((L.getD s []).tail.tail.tail.tail.headD AV.any).asBool).toNat []).headD AV.any)), AV.bool false, AV.bool ((L.getD (v_xb L fun s => ((L.getD s []).tail.tail.tail.tail.headD AV.any).asBool).toNat []).tail.tail.headD AV.any).asBool, AV.bool ((L.getD (v_xb L fun s => ((L.getD s []).tail.tail.tail.tail.headD AV.any).asBool).toNat []).tail.tail.tail.headD AV.any).asBool, AV.bool ((L.getD (v_xb L fun s => ((L.getD s []).tail.tail.tail.tail.headD AV.any).asBool).toNat []).tail.tail.tail.tail.headD AV.any).asBool]).length))
 (some (XldR.r (BitVec.signExtend 64 (v_xb L fun s => ((L.getD s []).tail.tail.tail.tail.headD AV.any).asBool)) true ((L.set (v_xb L fun s => ((L.getD s []).tail.tail.tail.tail.headD AV.any).asBool).toNat [AV.int IntKind.i64 (asI64 ((L.getD (v_xb L fun s => ((L.getD s []).tail.tail.tail.tail.headD AV.any).asBool).toNat []).headD AV.any)), AV.bool false, AV.bool ((L.getD (v_xb L fun s => ((L.getD s []).tail.tail.tail.tail.headD AV.any).asBool).toNat []).tail.tail.headD AV.any).asBool, AV.bool ((L.getD (v_xb L fun s => ((L.getD s []).tail.tail.tail.tail.headD AV.any).asBool).toNat []).tail.tail.tail.headD AV.any).asBool, AV.bool ((L.getD (v_xb L fun s => ((L.getD s []).tail.tail.tail.tail.headD AV.any).asBool).toNat []).tail.tail.tail.tail.headD AV.any).asBool]).set (v_xb L fun s => ((L.getD s []).tail.tail.tail.tail.headD AV.any).asBool).toNat [AV.int IntKind.i64 (asI64 (((L.set (v_xb L fun s => ((L.getD s []).tail.tail.tail.tail.headD AV.any).asBool).toNat [AV.int IntKind.i64 (asI64 ((L.getD (v_xb L fun s => ((L.getD s []).tail.tail.tail.tail.headD AV.any).asBool).toNat []).headD AV.any)), AV.bool false, AV.bool ((L.getD (v_xb L fun s => ((L.getD s []).tail.tail.tail.tail.headD AV.any).asBool).toNat []).tail.tail.headD AV.any).asBool, AV.bool ((L.getD (v_xb L fun s => ((L.getD s []).tail.tail.tail.tail.headD AV.any).asBool).toNat []).tail.tail.tail.headD AV.any).asBool, AV.bool ((L.getD (v_xb L fun s => ((L.getD s []).tail.tail.tail.tail.headD AV.any).asBool).toNat []).tail.tail.tail.tail.headD AV.any).asBool]).getD (v_xb L fun s => ((L.getD s []).tail.tail.tail.tail.headD AV.any).asBool).toNat []).headD AV.any)), AV.bool (((L.set (v_xb L fun s => ((L.getD s []).tail.tail.tail.tail.headD AV.any).asBool).toNat [AV.int IntKind.i64 (asI64 ((L.getD (v_xb L fun s => ((L.getD s []).tail.tail.tail.tail.headD AV.any).asBool).toNat []).headD AV.any)), AV.bool false, AV.bool ((L.getD (v_xb L fun s => ((L.getD s []).tail.tail.tail.tail.headD AV.any).asBool).toNat []).tail.tail.headD AV.any).asBool, AV.bool ((L.getD (v_xb L fun s => ((L.getD s []).tail.tail.tail.tail.headD AV.any).asBool).toNat []).tail.tail.tail.headD AV.any).asBool, AV.bool ((L.getD (v_xb L fun s => ((L.getD s []).tail.tail.tail.tail.headD AV.any).asBool).toNat []).tail.tail.tail.tail.headD AV.any).asBool]).getD (v_xb L fun s => ((L.getD s []).tail.tail.tail.tail.headD AV.any).asBool).toNat []).tail.headD AV.any).asBool, AV.bool true, AV.bool (((L.set (v_xb L fun s => ((L.getD s []).tail.tail.tail.tail.headD AV.any).asBool).toNat [AV.int IntKind.i64 (asI64 ((L.getD (v_xb L fun s => ((L.getD s []).tail.tail.tail.tail.headD AV.any).asBool).toNat []).headD AV.any)), AV.bool false, AV.bool ((L.getD (v_xb L fun s => ((L.getD s []).tail.tail.tail.tail.headD AV.any).asBool).toNat []).tail.tail.headD AV.any).asBool, AV.bool ((L.getD (v_xb L fun s => ((L.getD s []).tail.tail.tail.tail.headD AV.any).asBool).toNat []).tail.tail.tail.headD AV.any).asBool, AV.bool ((L.getD (v_xb L fun s => ((L.getD s []).tail.tail.tail.tail.headD AV.any).asBool).toNat []).tail.tail.tail.tail.headD AV.any).asBool]).getD (v_xb L fun s => ((L.getD s []).tail.tail.tail.tail.headD AV.any).asBool).toNat []).tail.tail.tail.headD AV.any).asBool, AV.bool (((L.set (v_xb L fun s => ((L.getD s []).tail.tail.tail.tail.headD AV.any).asBool).toNat [AV.int IntKind.i64 (asI64 ((L.getD (v_xb L fun s => ((L.getD s []).tail.tail.tail.tail.headD AV.any).asBool).toNat []).headD AV.any)), AV.bool false, AV.bool ((L.getD (v_xb L fun s => ((L.getD s []).tail.tail.tail.tail.headD AV.any).asBool).toNat []).tail.tail.headD AV.any).asBool, AV.bool ((L.getD (v_xb L fun s => ((L.getD s []).tail.tail.tail.tail.headD AV.any).asBool).toNat []).tail.tail.tail.headD AV.any).asBool, AV.bool ((L.getD (v_xb L fun s => ((L.getD s []).tail.tail.tail.tail.headD AV.any).asBool).toNat []).tail.tail.tail.tail.headD AV.any).asBool]).getD (v_xb L fun s => ((L.getD s []).tail.tail.tail.tail.headD AV.any).asBool).toNat []).tail.tail.tail.tail.headD AV.any).asBool]) T))
              none)
             none)
            none)
           none)
 (some (XldR.r (BitVec.signExtend 64 (v_xb L fun s => ((L.getD s []).tail.tail.tail.tail.headD AV.any).asBool)) true L T)))
 (some (XldR.r (0#64) false L T)))))))))))

/-! ### the document: a store -/
inductive XstS where
  | a (L : List (List AV)) (T : List (List AV)) (off : BitVec 64) (size : BitVec 64) (v : BitVec 64)
inductive XstR where
  | r (b : Bool) (L2 : List (List AV)) (T2 : List (List AV))
def xstA : XstS → List AV
  | .a _ _ off size v => [.ptr ⟨0, 0, 0, 0, 0⟩, .int .i64 off, .int .i64 size, .int .u64 v]
def xstH : XstS → Heap
  | .a L T _ _ _ => [(0, ⟨true, [.arr [.int .i64, .bool, .bool, .bool, .bool] 32 L, .arr [.int .i64] 2 T]⟩)]
def xstDec (args : List AV) (H : Heap) : Option XstS := match args, H with
  | [.ptr ⟨0, 0, 0, 0, 0⟩, .int .i64 off, .int .i64 size, .int .u64 v], [(0, ⟨true, [.arr [.int .i64, .bool, .bool, .bool, .bool] 32 L, .arr [.int .i64] 2 T]⟩)] => some (.a L T off size v)
  | _, _ => none
theorem xstDec_ok (args : List AV) (H : Heap) (x : XstS) (h : xstDec args H = some x) : args = xstA x ∧ H = xstH x := by
  unfold xstDec at h
  split at h
  all_goals first
    | (cases h; done)
    | (cases h; exact ⟨rfl, rfl⟩)
def xstU : XstR → AV × Eff × Nat
  | .r b L2 T2 => (.bool b, [(0, some ⟨true, [.arr [.int .i64, .bool, .bool, .bool, .bool] 32 L2, .arr [.int .i64] 2 T2]⟩)], 1)
def xstDecR (v : AV) (e : Eff) (k : Nat) : Option XstR := match v, e, k with
  | .bool b, [(0, some ⟨true, [.arr [.int .i64, .bool, .bool, .bool, .bool] 32 L2, .arr [.int .i64] 2 T2]⟩)], 1 => some (.r b L2 T2)
  | _, _, _ => none
theorem xstDecR_ok (v : AV) (e : Eff) (k : Nat) (z : XstR) (h : xstDecR v e k = some z) : (v, e, k) = xstU z := by
  unfold xstDecR at h
  split at h
  all_goals first
    | (cases h; done)
    | (cases h; rfl)
noncomputable def xstStep : XstS → Option XstR
 | .a L T off size v =>
 (cond (!size == 4#64)
 (some (XstR.r false L T))
 (cond ((0#64).sle off)
 (cond (off.slt 128#64)
 (cond (off.srem 4#64 == 0#64)
 (cond ((0#64).slt off)
 (cond (nonneg IntKind.i64 (off.sdiv 4#64) && decide ((off.sdiv 4#64).toNat < 32))
 (cond (decide ((off.sdiv 4#64).toNat < 32) && decide ((off.sdiv 4#64).toNat < L.length))
 (some (XstR.r true (L.set (off.sdiv 4#64).toNat [AV.int IntKind.i64 (BitVec.setWidth 64 (v % 8#64)), AV.bool ((L.getD (off.sdiv 4#64).toNat []).tail.headD AV.any).asBool, AV.bool ((L.getD (off.sdiv 4#64).toNat []).tail.tail.headD AV.any).asBool, AV.bool ((L.getD (off.sdiv 4#64).toNat []).tail.tail.tail.headD AV.any).asBool, AV.bool ((L.getD (off.sdiv 4#64).toNat []).tail.tail.tail.tail.headD AV.any).asBool]) T))
       none)
      none)
 (some (XstR.r true L T)))
 (cond (off == 4096#64)
 (some (XstR.r true L T))
 (cond (off == 8192#64)
 (cond (L.length.beq 32 && true)
 (some (XstR.r true (v_xeA L v 1#64) T))
       none)
 (cond (off == 8320#64)
 (cond (L.length.beq 32 && true)
 (some (XstR.r true (v_xeB L v 1#64) T))
        none)
 (cond (off == 2097152#64)
 (cond (true && decide (0 < T.length))
 (some (XstR.r true L (T.set 0 [AV.int IntKind.i64 (BitVec.setWidth 64 (v % 8#64))])))
         none)
 (cond (off == 2101248#64)
 (cond (true && decide (1 < T.length))
 (some (XstR.r true L (T.set 1 [AV.int IntKind.i64 (BitVec.setWidth 64 (v % 8#64))])))
          none)
 (cond (off == 2097156#64)
 (cond ((v % 4294967296#64).ult 32#64)
 (cond (nonneg IntKind.i64 (BitVec.setWidth 64 (v % 4294967296#64)) && decide ((BitVec.setWidth 64 (v % 4294967296#64)).toNat < 32))
 (cond (decide ((BitVec.setWidth 64 (v % 4294967296#64)).toNat < 32))
 (cond (((L.getD (BitVec.setWidth 64 (v % 4294967296#64)).toNat []).tail.tail.tail.headD AV.any).asBool)
 (cond (nonneg IntKind.i64 (BitVec.setWidth 64 (v % 4294967296#64)) && decide ((BitVec.setWidth 64 (v % 4294967296#64)).toNat < 32))
 (cond (decide ((BitVec.setWidth 64 (v % 4294967296#64)).toNat < 32) && decide ((BitVec.setWidth 64 (v % 4294967296#64)).toNat < L.length))
 (some (XstR.r true (L.set (BitVec.setWidth 64 (v % 4294967296#64)).toNat [AV.int IntKind.i64 (asI64 ((L.getD (BitVec.setWidth 64 (v % 4294967296#64)).toNat []).headD AV.any)), AV.bool ((L.getD (BitVec.setWidth 64 (v % 4294967296#64)).toNat []).tail.headD AV.any).asBool, AV.bool false, AV.bool ((L.getD (BitVec.setWidth 64 (v % 4294967296#64)).toNat []).tail.tail.tail.headD AV.any).asBool, AV.bool ((L.getD (BitVec.setWidth 64 (v % 4294967296#64)).toNat []).tail.tail.tail.tail.headD AV.any).asBool]) T))
                none)
               none)
 (some (XstR.r true L T)))
             none)
            none)
 (some (XstR.r true L T)))
 (cond (off == 2101252#64)
 (cond ((v % 4294967296#64).ult 32#64)
 (cond (nonneg IntKind.i64 (BitVec.setWidth 64 (v % 4294967296#64)) && decide ((BitVec.setWidth 64 (v % 4294967296#64)).toNat < 32))
 (cond (decide ((BitVec.setWidth 64 (v % 4294967296#64)).toNat < 32))
 (cond (((L.getD (BitVec.setWidth 64 (v % 4294967296#64)).toNat []).tail.tail.tail.tail.headD AV.any).asBool)
 (cond (nonneg IntKind.i64 (BitVec.setWidth 64 (v % 4294967296#64)) && decide ((BitVec.setWidth 64 (v % 4294967296#64)).toNat < 32))
 (cond (decide ((BitVec.setWidth 64 (v % 4294967296#64)).toNat < 32) && decide ((BitVec.setWidth 64 (v % 4294967296#64)).toNat < L.length))
 (some (XstR.r true (L.set (BitVec.setWidth 64 (v % 4294967296#64)).toNat [AV.int IntKind.i64 (asI64 ((L.getD (BitVec.setWidth 64 (v % 4294967296#64)).toNat []).headD AV.any)), AV.bool ((L.getD (BitVec.setWidth 64 (v % 4294967296#64)).toNat []).tail.headD AV.any).asBool, AV.bool false, AV.bool ((L.getD (BitVec.setWidth 64 (v % 4294967296#64)).toNat []).tail.tail.tail.headD AV.any).asBool, AV.bool ((L.getD (BitVec.setWidth 64 (v % 4294967296#64)).toNat []).tail.tail.tail.tail.headD AV.any).asBool]) T))
                 none)
                none)
 (some (XstR.r true L T)))
              none)
             none)
 (some (XstR.r true L T)))
 (some (XstR.r false L T))))))))))
 (cond (off == 4096#64)
 (some (XstR.r true L T))
 (cond (off == 8192#64)
 (cond (L.length.beq 32 && true)
 (some (XstR.r true (v_xeA L v 1#64) T))
      none)
 (cond (off == 8320#64)
 (cond (L.length.beq 32 && true)
 (some (XstR.r true (v_xeB L v 1#64) T))
       none)
 (cond (off == 2097152#64)
 (cond (true && decide (0 < T.length))
 (some (XstR.r true L (T.set 0 [AV.int IntKind.i64 (BitVec.setWidth 64 (v % 8#64))])))
        none)
 (cond (off == 2101248#64)
 (cond (true && decide (1 < T.length))
 (some (XstR.r true L (T.set 1 [AV.int IntKind.i64 (BitVec.setWidth 64 (v % 8#64))])))
         none)
 (cond (off == 2097156#64)
 (cond ((v % 4294967296#64).ult 32#64)
 (cond (nonneg IntKind.i64 (BitVec.setWidth 64 (v % 4294967296#64)) && decide ((BitVec.setWidth 64 (v % 4294967296#64)).toNat < 32))
 (cond (decide ((BitVec.setWidth 64 (v % 4294967296#64)).toNat < 32))
 (cond (((L.getD (BitVec.setWidth 64 (v % 4294967296#64)).toNat []).tail.tail.tail.headD AV.any).asBool)
 (cond (nonneg IntKind.i64 (BitVec.setWidth 64 (v % 4294967296#64)) && decide ((BitVec.setWidth 64 (v % 4294967296#64)).toNat < 32))
 (cond (decide ((BitVec.setWidth 64 (v % 4294967296#64)).toNat < 32) && decide ((BitVec.setWidth 64 (v % 4294967296#64)).toNat < L.length))
 (some (XstR.r true (L.set (BitVec.setWidth 64 (v % 4294967296#64)).toNat [AV.int IntKind.i64 (asI64 ((L.getD (BitVec.setWidth 64 (v % 4294967296#64)).toNat []).headD AV.any)), AV.bool ((L.getD (BitVec.setWidth 64 (v % 4294967296#64)).toNat []).tail.headD AV.any).asBool, AV.bool false, AV.bool ((L.getD (BitVec.setWidth 64 (v % 4294967296#64)).toNat []).tail.tail.tail.headD AV.any).asBool, AV.bool ((L.getD (BitVec.setWidth 64 (v % 4294967296#64)).toNat []).tail.tail.tail.tail.headD AV.any).asBool]) T))
               none)
              none)
 (some (XstR.r true L T)))
            none)
           none)
 (some (XstR.r true L T)))
 (cond (off == 2101252#64)
 (cond ((v % 4294967296#64).ult 32#64)
 (cond (nonneg IntKind.i64 (BitVec.setWidth 64 (v % 4294967296#64)) && decide ((BitVec.setWidth 64 (v % 4294967296#64)).toNat < 32))
 (cond (decide ((BitVec.setWidth 64 (v % 4294967296#64)).toNat < 32))
 (cond (((L.getD (BitVec.setWidth 64 (v % 4294967296#64)).toNat []).tail.tail.tail.tail.headD AV.any).asBool)
 (cond (nonneg IntKind.i64 (BitVec.setWidth 64 (v % 4294967296#64)) && decide ((BitVec.setWidth 64 (v % 4294967296#64)).toNat < 32))
 (cond (decide ((BitVec.setWidth 64 (v % 4294967296#64)).toNat < 32) && decide ((BitVec.setWidth 64 (v % 4294967296#64)).toNat < L.length))
 (some (XstR.r true (L.set (BitVec.setWidth 64 (v % 4294967296#64)).toNat [AV.int IntKind.i64 (asI64 ((L.getD (BitVec.setWidth 64 (v % 4294967296#64)).toNat []).headD AV.any)), AV.bool ((L.getD (BitVec.setWidth 64 (v % 4294967296#64)).toNat []).tail.headD AV.any).asBool, AV.bool false, AV.bool ((L.getD (BitVec.setWidth 64 (v % 4294967296#64)).toNat []).tail.tail.tail.headD AV.any).asBool, AV.bool ((L.getD (BitVec.setWidth 64 (v % 4294967296#64)).toNat []).tail.tail.tail.tail.headD AV.any).asBool]) T))
                none)
               none)
 (some (XstR.r true L T)))
             none)
            none)
 (some (XstR.r true L T)))
 (some (XstR.r false L T))))))))))
 (cond (off == 4096#64)
 (some (XstR.r true L T))
 (cond (off == 8192#64)
 (cond (L.length.beq 32 && true)
 (some (XstR.r true (v_xeA L v 1#64) T))
     none)
 (cond (off == 8320#64)
 (cond (L.length.beq 32 && true)
 (some (XstR.r true (v_xeB L v 1#64) T))
      none)
 (cond (off == 2097152#64)
 (cond (true && decide (0 < T.length))
 (some (XstR.r true L (T.set 0 [AV.int IntKind.i64 (BitVec.setWidth 64 (v % 8#64))])))
       none)
 (cond (off == 2101248#64)
 (cond (true && decide (1 < T.length))
 (some (XstR.r true L (T.set 1 [AV.int IntKind.i64 (BitVec.setWidth 64 (v % 8#64))])))
        none)
 (cond (off == 2097156#64)
 (cond ((v % 4294967296#64).ult 32#64)
 (cond (nonneg IntKind.i64 (BitVec.setWidth 64 (v % 4294967296#64)) && decide ((BitVec.setWidth 64 (v % 4294967296#64)).toNat < 32))
 (cond (decide ((BitVec.setWidth 64 (v % 4294967296#64)).toNat < 32))
 (cond (((L.getD (BitVec.setWidth 64 (v % 4294967296#64)).toNat []).tail.tail.tail.headD AV.any).asBool)
 (cond (nonneg IntKind.i64 (BitVec.setWidth 64 (v % 4294967296#64)) && decide ((BitVec.setWidth 64 (v % 4294967296#64)).toNat < 32))
 (cond (decide ((BitVec.setWidth 64 (v % 4294967296#64)).toNat < 32) && decide ((BitVec.setWidth 64 (v % 4294967296#64)).toNat < L.length))
 (some (XstR.r true (L.set (BitVec.setWidth 64 (v % 4294967296#64)).toNat [AV.int IntKind.i64 (asI64 ((L.getD (BitVec.setWidth 64 (v % 4294967296#64)).toNat []).headD AV.any)), AV.bool ((L.getD (BitVec.setWidth 64 (v % 4294967296#64)).toNat []).tail.headD AV.any).asBool, AV.bool false, AV.bool ((L.getD (BitVec.setWidth 64 (v % 4294967296#64)).toNat []).tail.tail.tail.headD AV.any).asBool, AV.bool ((L.getD (BitVec.setWidth 64 (v % 4294967296#64)).toNat []).tail.tail.tail.tail.headD AV.any).asBool]) T))
              none)
             none)
 (some (XstR.r true L T)))
           none)
          none)
 (some (XstR.r true L T)))
 (cond (off == 2101252#64)
 (cond ((v % 4294967296#64).ult 32#64)
 (cond (nonneg IntKind.i64 (BitVec.setWidth 64 (v % 4294967296#64)) && decide ((BitVec.setWidth 64 (v % 4294967296#64)).toNat < 32))
 (cond (decide ((BitVec.setWidth 64 (v % 4294967296#64)).toNat < 32))
 (cond (((L.getD (BitVec.setWidth 64 (v % 4294967296#64)).toNat []).tail.tail.tail.tail.headD AV.any).asBool)
 (cond (nonneg IntKind.i64 (BitVec.setWidth 64 (v % 4294967296#64)) && decide ((BitVec.setWidth 64 (v % 4294967296#64)).toNat < 32))
 (cond (decide ((BitVec.setWidth 64 (v % 4294967296#64)).toNat < 32) && decide ((BitVec.setWidth 64 (v % 4294967296#64)).toNat < L.length))
 (some (XstR.r true (L.set (BitVec.setWidth 64 (v % 4294967296#64)).toNat [AV.int IntKind.i64 (asI64 ((L.getD (BitVec.setWidth 64 (v % 4294967296#64)).toNat []).headD AV.any)), AV.bool ((L.getD (BitVec.setWidth 64 (v % 4294967296#64)).toNat []).tail.headD AV.any).asBool, AV.bool false, AV.bool ((L.getD (BitVec.setWidth 64 (v % 4294967296#64)).toNat []).tail.tail.tail.headD AV.any).asBool, AV.bool ((L.getD (BitVec.setWidth 64 (v % 4294967296#64)).toNat []).tail.tail.tail.tail.headD AV.any).asBool]) T))
               none)
              none)
 (some (XstR.r true L T)))
            none)
           none)
 (some (XstR.r true L T)))
 (some (XstR.r false L T)))))))))))
end Go.Sx

/- What loops do, round by round. -/
import Derived.Test.YtaieimjeffedhaaSxX
import Derived.Test.YtaieimjeffedhaaSxSR
import Derived.Test.YtaieimjeffedhaaSxEC
import Derived.Test.YtaieimjeffedhaaVa12
set_option linter.unusedSimpArgs false
set_option linter.unusedVariables false
set_option linter.unnecessarySimpa false
namespace Go.Sx
open Go

/-! ### a store -/
inductive StqS where
  | a (pr : List (List AV)) (pe : BitVec 32) (se : BitVec 32) (en : List (List AV)) (th : List (List AV)) (off : BitVec 64) (size : BitVec 64) (v : BitVec 64)
inductive StqR where
  | r (b : Bool) (pr2 : List (List AV)) (pe2 : BitVec 32) (se2 : BitVec 32) (en2 : List (List AV)) (th2 : List (List AV))
def stqA : StqS → List AV
  | .a _ _ _ _ _ off size v => [.ptr ⟨0, 0, 0, 0, 0⟩, .int .i64 off, .int .i64 size, .int .u64 v]
def stqH : StqS → Heap
  | .a pr pe se en th _ _ _ => [(0, ⟨true, [.arr [.int .u32] 32 pr, .cell (.int .u32 pe), .cell (.int .u32 se), .arr [.int .u32] 2 en, .arr [.int .u32] 2 th]⟩)]
def stqDec (args : List AV) (H : Heap) : Option StqS := match args, H with
  | [.ptr ⟨0, 0, 0, 0, 0⟩, .int .i64 off, .int .i64 size, .int .u64 v], [(0, ⟨true, [.arr [.int .u32] 32 pr, .cell (.int .u32 pe), .cell (.int .u32 se), .arr [.int .u32] 2 en, .arr [.int .u32] 2 th]⟩)] => some (.a pr pe se en th off size v)
  | _, _ => none
theorem stqDec_ok (args : List AV) (H : Heap) (x : StqS) (h : stqDec args H = some x) : args = stqA x ∧ H = stqH x := by
  unfold stqDec at h
  split at h
  all_goals first
    | (cases h; done)
    | (cases h; exact ⟨rfl, rfl⟩)
def stqU : StqR → AV × Eff × Nat
  | .r b pr2 pe2 se2 en2 th2 => (.bool b, [(0, some ⟨true, [.arr [.int .u32] 32 pr2, .cell (.int .u32 pe2), .cell (.int .u32 se2), .arr [.int .u32] 2 en2, .arr [.int .u32] 2 th2]⟩)], 1)
def stqDecR (v : AV) (e : Eff) (k : Nat) : Option StqR := match v, e, k with
  | .bool b, [(0, some ⟨true, [.arr [.int .u32] 32 pr2, .cell (.int .u32 pe2), .cell (.int .u32 se2), .arr [.int .u32] 2 en2, .arr [.int .u32] 2 th2]⟩)], 1 => some (.r b pr2 pe2 se2 en2 th2)
  | _, _, _ => none
theorem stqDecR_ok (v : AV) (e : Eff) (k : Nat) (z : StqR) (h : stqDecR v e k = some z) : (v, e, k) = stqU z := by
  unfold stqDecR at h
  split at h
  all_goals first
    | (cases h; done)
    | (cases h; rfl)
noncomputable def stqStep : StqS → Option StqR
 | .a pr pe se en th off size v =>
 (cond ((v_plic_which off size).fst == 0#64)
 (some (StqR.r false pr pe se en th))
 (cond ((v_plic_which off size).fst == 1#64)
 (cond ((0#64).slt (v_plic_which off size).snd)
 (cond (nonneg IntKind.i64 (v_plic_which off size).snd && decide ((v_plic_which off size).snd.toNat < 32))
 (cond (decide ((v_plic_which off size).snd.toNat < 32) && decide ((v_plic_which off size).snd.toNat < pr.length))
 (some (StqR.r true (pr.set (v_plic_which off size).snd.toNat [AV.int IntKind.u32 (BitVec.setWidth 32 (v &&& 7#64))]) pe se en th))
     none)
    none)
 (some (StqR.r true pr pe se en th)))
 (cond ((v_plic_which off size).fst == 3#64)
 (cond (nonneg IntKind.i64 (v_plic_which off size).snd && decide ((v_plic_which off size).snd.toNat < 2))
 (cond (decide ((v_plic_which off size).snd.toNat < 2) && decide ((v_plic_which off size).snd.toNat < en.length))
 (some (StqR.r true pr pe se (en.set (v_plic_which off size).snd.toNat [AV.int IntKind.u32 (BitVec.setWidth 32 v &&& 4294967294#32)]) th))
     none)
    none)
 (cond ((v_plic_which off size).fst == 4#64)
 (cond (nonneg IntKind.i64 (v_plic_which off size).snd && decide ((v_plic_which off size).snd.toNat < 2))
 (cond (decide ((v_plic_which off size).snd.toNat < 2) && decide ((v_plic_which off size).snd.toNat < th.length))
 (some (StqR.r true pr pe se en (th.set (v_plic_which off size).snd.toNat [AV.int IntKind.u32 (BitVec.setWidth 32 (v &&& 7#64))])))
      none)
     none)
 (cond ((v_plic_which off size).fst == 5#64)
 (cond ((BitVec.setWidth 32 v).ult 32#32)
 (cond (nonneg IntKind.i64 (v_plic_which off size).snd && decide ((v_plic_which off size).snd.toNat < 2))
 (cond (decide ((v_plic_which off size).snd.toNat < 2))
 (some (StqR.r true pr pe (se &&& ~~~(1#32 <<< min (BitVec.setWidth 32 v).toNat 32 &&& asU32 ((en.getD (v_plic_which off size).snd.toNat []).headD AV.any))) en th))
        none)
       none)
 (some (StqR.r true pr pe se en th)))
 (some (StqR.r true pr pe se en th)))))))
end Go.Sx

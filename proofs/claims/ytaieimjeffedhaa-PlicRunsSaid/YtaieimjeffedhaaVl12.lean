/- What loops do, round by round. -/
import Derived.Test.YtaieimjeffedhaaSxX
import Derived.Test.YtaieimjeffedhaaSxSR
import Derived.Test.YtaieimjeffedhaaSxEC
import Derived.Test.YtaieimjeffedhaaVa12
set_option linter.unusedSimpArgs false
set_option linter.unusedVariables false
set_option linter.unnecessarySimpa false
namespace Go.Sx
open Go

/-! ### the best source -/
inductive BtS where
  | a (rw : Bool) (pr : List (List AV)) (pe : BitVec 32) (se : BitVec 32) (en : List (List AV)) (th : List (List AV)) (of : BitVec 32) (ab : BitVec 32) (be : BitVec 32) (s : BitVec 32)
inductive BtE where
  | fine (rw : Bool) (pr : List (List AV)) (pe : BitVec 32) (se : BitVec 32) (en : List (List AV)) (th : List (List AV)) (be : BitVec 32)
def btT : BtS → List AV
  | .a _ _ _ _ _ _ of ab be s => [.ptr ⟨0, 0, 0, 0, 0⟩, .int .u32 of, .int .u32 ab, .int .u32 be, .int .u32 s]
def btH : BtS → Heap
  | .a rw pr pe se en th _ _ _ _ => [(0, ⟨rw, [.arr [.int .u32] 32 pr, .cell (.int .u32 pe), .cell (.int .u32 se), .arr [.int .u32] 2 en, .arr [.int .u32] 2 th]⟩)]
def btN : BtS → Nat
  | .a _ _ _ _ _ _ _ _ _ _ => 1
def btDec (vs : List AV) (H : Heap) (N : Nat) : Option BtS := match vs, H.find 0, N with
  | [.ptr ⟨0, 0, 0, 0, 0⟩, .int .u32 of, .int .u32 ab, .int .u32 be, .int .u32 s], some ⟨rw, [.arr [.int .u32] 32 pr, .cell (.int .u32 pe), .cell (.int .u32 se), .arr [.int .u32] 2 en, .arr [.int .u32] 2 th]⟩, 1 => some (.a rw pr pe se en th of ab be s)
  | _, _, _ => none
theorem btDec_ok (vs : List AV) (H : Heap) (N : Nat) (y : BtS) (h : btDec vs H N = some y) : vs = btT y ∧ (btH y).sub H ∧ N = btN y := by
  unfold btDec at h
  split at h
  all_goals first
    | (cases h; done)
    | (cases h; refine ⟨rfl, ?_, rfl⟩; repeat (first | exact sub_nil | refine sub_cons (by assumption) ?_))
def btO : BtE → Out
  | .fine _ _ _ _ _ _ _ => .exit 0
def btV : BtE → List AV
  | .fine _ _ _ _ _ _ be => [.int .u32 be]
def btG : BtE → Heap
  | .fine rw pr pe se en th _ => [(0, ⟨rw, [.arr [.int .u32] 32 pr, .cell (.int .u32 pe), .cell (.int .u32 se), .arr [.int .u32] 2 en, .arr [.int .u32] 2 th]⟩)]
def btM : BtE → Nat
  | .fine _ _ _ _ _ _ _ => 1
def btDecE (o : Out) (vs : List AV) (H : Heap) (N : Nat) : Option BtE := match o, vs, H.find 0, N with
  | .exit 0, [.int .u32 be], some ⟨rw, [.arr [.int .u32] 32 pr, .cell (.int .u32 pe), .cell (.int .u32 se), .arr [.int .u32] 2 en, .arr [.int .u32] 2 th]⟩, 1 => some (.fine rw pr pe se en th be)
  | _, _, _, _ => none
theorem btDecE_ok (o : Out) (vs : List AV) (H : Heap) (N : Nat) (z : BtE) (h : btDecE o vs H N = some z) : o = btO z ∧ o ≠ .normal ∧ vs = btV z ∧ (btG z).sub H ∧ N = btM z := by
  unfold btDecE at h
  split at h
  all_goals first
    | (cases h; done)
    | (cases h; refine ⟨rfl, nofun, rfl, ?_, rfl⟩; repeat (first | exact sub_nil | refine sub_cons (by assumption) ?_))
noncomputable def btStep : BtS → Option (BtS ⊕ BtE)
 | .a rw pr pe se en th of ab be s =>
 (cond (s.ult 32#32)
 (cond (of >>> min s.toNat 32 &&& 1#32 == 1#32)
 (cond (nonneg IntKind.u32 s && decide (s.toNat < 32))
 (cond (decide (s.toNat < 32))
 (cond (ab.ult (asU32 ((pr.getD s.toNat []).headD AV.any)))
 (cond (nonneg IntKind.u32 s && decide (s.toNat < 32))
 (cond (decide (s.toNat < 32))
 (some (Sum.inl (BtS.a rw pr pe se en th of (asU32 ((pr.getD s.toNat []).headD AV.any)) s (s + 1#32))))
       none)
      none)
 (some (Sum.inl (BtS.a rw pr pe se en th of ab be (s + 1#32)))))
    none)
   none)
 (some (Sum.inl (BtS.a rw pr pe se en th of ab be (s + 1#32)))))
 (some (Sum.inr (BtE.fine rw pr pe se en th be))))
end Go.Sx

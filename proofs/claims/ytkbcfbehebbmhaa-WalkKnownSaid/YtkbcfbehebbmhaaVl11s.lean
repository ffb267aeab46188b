/- What loops do, round by round. -/
import Derived.Test.YtkbcfbehebbmhaaSxX
import Derived.Test.YtkbcfbehebbmhaaSxLen2
import Derived.Test.YtkbcfbehebbmhaaSxEC
import Derived.Test.YtkbcfbehebbmhaaVa03
set_option linter.unusedSimpArgs false
set_option linter.unusedVariables false
set_option linter.unnecessarySimpa false
namespace Go.Sx
open Go

/-! ### lists, one by one -/
inductive MslS where
  | a (ra : Bool) (ma : Nat) (da : List (List AV)) (rb : Bool) (mb : Nat) (db : List (List AV)) (na : Nat) (nb : Nat) (i : BitVec 64)
inductive MslE where
  | fine (ra : Bool) (ma : Nat) (da : List (List AV)) (rb : Bool) (mb : Nat) (db : List (List AV))
  | bad (ra : Bool) (ma : Nat) (da : List (List AV)) (rb : Bool) (mb : Nat) (db : List (List AV))
def mslT : MslS → List AV
  | .a _ _ _ _ _ _ na nb i => [.slice ⟨0, 0, 0, 1, 0⟩ 1 na, .slice ⟨1, 0, 0, 1, 0⟩ 1 nb, .int .i64 i]
def mslH : MslS → Heap
  | .a ra ma da rb mb db _ _ _ => [(0, ⟨ra, [.arr [.int .i64] ma da]⟩), (1, ⟨rb, [.arr [.int .i64] mb db]⟩)]
def mslN : MslS → Nat
  | .a _ _ _ _ _ _ _ _ _ => 2
def mslDec (vs : List AV) (H : Heap) (N : Nat) : Option MslS := match vs, H.find 0, H.find 1, N with
  | [.slice ⟨0, 0, 0, 1, 0⟩ 1 na, .slice ⟨1, 0, 0, 1, 0⟩ 1 nb, .int .i64 i], some ⟨ra, [.arr [.int .i64] ma da]⟩, some ⟨rb, [.arr [.int .i64] mb db]⟩, 2 => some (.a ra ma da rb mb db na nb i)
  | _, _, _, _ => none
theorem mslDec_ok (vs : List AV) (H : Heap) (N : Nat) (y : MslS) (h : mslDec vs H N = some y) : vs = mslT y ∧ (mslH y).sub H ∧ N = mslN y := by
  unfold mslDec at h
  split at h
  all_goals first
    | (cases h; done)
    | (cases h; refine ⟨rfl, ?_, rfl⟩; repeat (first | exact sub_nil | refine sub_cons (by assumption) ?_))
def mslO : MslE → Out
  | .fine _ _ _ _ _ _ => .exit 0
  | .bad _ _ _ _ _ _ => .ret
def mslV : MslE → List AV
  | .fine _ _ _ _ _ _ => [.any]
  | .bad _ _ _ _ _ _ => [.bool false]
def mslG : MslE → Heap
  | .fine ra ma da rb mb db => [(0, ⟨ra, [.arr [.int .i64] ma da]⟩), (1, ⟨rb, [.arr [.int .i64] mb db]⟩)]
  | .bad ra ma da rb mb db => [(0, ⟨ra, [.arr [.int .i64] ma da]⟩), (1, ⟨rb, [.arr [.int .i64] mb db]⟩)]
def mslM : MslE → Nat
  | .fine _ _ _ _ _ _ => 2
  | .bad _ _ _ _ _ _ => 2
def mslDecE (o : Out) (vs : List AV) (H : Heap) (N : Nat) : Option MslE := match o, vs, H.find 0, H.find 1, N with
  | .exit 0, [.any], some ⟨ra, [.arr [.int .i64] ma da]⟩, some ⟨rb, [.arr [.int .i64] mb db]⟩, 2 => some (.fine ra ma da rb mb db)
  | .ret, [.bool false], some ⟨ra, [.arr [.int .i64] ma da]⟩, some ⟨rb, [.arr [.int .i64] mb db]⟩, 2 => some (.bad ra ma da rb mb db)
  | _, _, _, _, _ => none
theorem mslDecE_ok (o : Out) (vs : List AV) (H : Heap) (N : Nat) (z : MslE) (h : mslDecE o vs H N = some z) : o = mslO z ∧ o ≠ .normal ∧ vs = mslV z ∧ (mslG z).sub H ∧ N = mslM z := by
  unfold mslDecE at h
  split at h
  all_goals first
    | (cases h; done)
    | (cases h; refine ⟨rfl, nofun, rfl, ?_, rfl⟩; repeat (first | exact sub_nil | refine sub_cons (by assumption) ?_))
noncomputable def mslStep : MslS → Option (MslS ⊕ MslE)
 | .a ra ma da rb mb db na nb i =>
 (cond (i.slt (BitVec.ofNat 64 na))
 (cond (nonneg IntKind.i64 i && decide (i.toNat < na))
 (cond (decide (0 + i.toNat < ma))
 (cond (nonneg IntKind.i64 i && decide (i.toNat < nb))
 (cond (decide (0 + i.toNat < mb))
 (cond (!asI64 ((da.getD (0 + i.toNat) []).headD AV.any) == asI64 ((db.getD (0 + i.toNat) []).headD AV.any))
 (some (Sum.inr (MslE.bad ra ma da rb mb db)))
 (some (Sum.inl (MslS.a ra ma da rb mb db na nb (i + 1#64)))))
     none)
    none)
   none)
  none)
 (some (Sum.inr (MslE.fine ra ma da rb mb db))))
end Go.Sx

/- What loops do, round by round. -/
import Derived.Test.YtaieimjeffedhaaSxX
import Derived.Test.YtaieimjeffedhaaSxSR
import Derived.Test.YtaieimjeffedhaaVa12
import Derived.Test.YtaieimjeffedhaaPlPlc3
set_option linter.unusedSimpArgs false
set_option linter.unusedVariables false
set_option linter.unnecessarySimpa false
namespace Go.Sx
open Go

/-! ### behind a claim -/
inductive OcS where
  | a (n : Nat) (m : Nat) (d : List (List AV)) (pr : List (List AV)) (pe : BitVec 32) (se : BitVec 32) (en : List (List AV)) (th : List (List AV)) (ctx : BitVec 64) (s : BitVec 64) (i : BitVec 64)
inductive OcE where
  | fine (pr : List (List AV)) (pe : BitVec 32) (se : BitVec 32) (en : List (List AV)) (th : List (List AV)) (ctx : BitVec 64) (s : BitVec 64)
  | bad (ctx : BitVec 64) (s : BitVec 64) (nn : Nat)
def ocT : OcS → List AV
  | .a n _ _ _ _ _ _ _ ctx s i => [.slice ⟨2, 0, 0, 1, 0⟩ 1 n, .ptr ⟨3, 0, 0, 0, 0⟩, .int .i64 ctx, .int .u64 s, .int .i64 i]
def ocH : OcS → Heap
  | .a _ m d pr pe se en th _ _ _ => [(2, ⟨false, [.arr [.int .u32] m d]⟩), (3, ⟨true, [.arr [.int .u32] 32 pr, .cell (.int .u32 pe), .cell (.int .u32 se), .arr [.int .u32] 2 en, .arr [.int .u32] 2 th]⟩)]
def ocN : OcS → Nat
  | .a _ _ _ _ _ _ _ _ _ _ _ => 4
def ocDec (vs : List AV) (H : Heap) (N : Nat) : Option OcS := match vs, H.find 2, H.find 3, N with
  | [.slice ⟨2, 0, 0, 1, 0⟩ 1 n, .ptr ⟨3, 0, 0, 0, 0⟩, .int .i64 ctx, .int .u64 s, .int .i64 i], some ⟨false, [.arr [.int .u32] m d]⟩, some ⟨true, [.arr [.int .u32] 32 pr, .cell (.int .u32 pe), .cell (.int .u32 se), .arr [.int .u32] 2 en, .arr [.int .u32] 2 th]⟩, 4 => some (.a n m d pr pe se en th ctx s i)
  | _, _, _, _ => none
theorem ocDec_ok (vs : List AV) (H : Heap) (N : Nat) (y : OcS) (h : ocDec vs H N = some y) : vs = ocT y ∧ (ocH y).sub H ∧ N = ocN y := by
  unfold ocDec at h
  split at h
  all_goals first
    | (cases h; done)
    | (cases h; refine ⟨rfl, ?_, rfl⟩; repeat (first | exact sub_nil | refine sub_cons (by assumption) ?_))
def ocO : OcE → Out
  | .fine _ _ _ _ _ _ _ => .exit 0
  | .bad _ _ _ => .ret
def ocV : OcE → List AV
  | .fine _ _ _ _ _ ctx s => [.any, .ptr ⟨3, 0, 0, 0, 0⟩, .int .i64 ctx, .int .u64 s]
  | .bad ctx s _ => [.bool false, .ptr ⟨3, 0, 0, 0, 0⟩, .int .i64 ctx, .int .u64 s]
def ocG : OcE → Heap
  | .fine pr pe se en th _ _ => [(3, ⟨true, [.arr [.int .u32] 32 pr, .cell (.int .u32 pe), .cell (.int .u32 se), .arr [.int .u32] 2 en, .arr [.int .u32] 2 th]⟩)]
  | .bad _ _ _ => []
def ocM : OcE → Nat
  | .fine _ _ _ _ _ _ _ => 4
  | .bad _ _ nn => nn
def ocDecE (o : Out) (vs : List AV) (H : Heap) (N : Nat) : Option OcE := match o, vs, H.find 3, N with
  | .exit 0, [.any, .ptr ⟨3, 0, 0, 0, 0⟩, .int .i64 ctx, .int .u64 s], some ⟨true, [.arr [.int .u32] 32 pr, .cell (.int .u32 pe), .cell (.int .u32 se), .arr [.int .u32] 2 en, .arr [.int .u32] 2 th]⟩, 4 => some (.fine pr pe se en th ctx s)
  | .ret, [.bool false, .ptr ⟨3, 0, 0, 0, 0⟩, .int .i64 ctx, .int .u64 s], _, nn => some (.bad ctx s nn)
  | _, _, _, _ => none
theorem ocDecE_ok (o : Out) (vs : List AV) (H : Heap) (N : Nat) (z : OcE) (h : ocDecE o vs H N = some z) : o = ocO z ∧ o ≠ .normal ∧ vs = ocV z ∧ (ocG z).sub H ∧ N = ocM z := by
  unfold ocDecE at h
  split at h
  all_goals first
    | (cases h; done)
    | (cases h; refine ⟨rfl, nofun, rfl, ?_, rfl⟩; repeat (first | exact sub_nil | refine sub_cons (by assumption) ?_))
noncomputable def ocStep : OcS → Option (OcS ⊕ OcE)
 | .a n m d pr pe se en th ctx s i =>
 (cond (i.slt (BitVec.ofNat 64 n))
 (cond (nonneg IntKind.i64 i && decide (i.toNat < n))
 (cond (decide (0 + i.toNat < m))
 (cond (BitVec.setWidth 64 (asU32 ((d.getD (0 + i.toNat) []).headD AV.any) &&& ~~~(1#32 ||| se)) >>> min s.toNat 64 &&& 1#64 == 1#64)
 (some (Sum.inr (OcE.bad ctx s 4)))
 (cond ((0#32).ult (v_best pr (asU32 ((d.getD (0 + i.toNat) []).headD AV.any) &&& ~~~(1#32 ||| se) &&& asU32 ((en.getD 0 []).headD AV.any)) 0#32 0#32 1#32))
 (cond (BitVec.setWidth 64 (v_best pr (asU32 ((d.getD (0 + i.toNat) []).headD AV.any) &&& ~~~(1#32 ||| se) &&& asU32 ((en.getD 0 []).headD AV.any)) 0#32 0#32 1#32) == s)
 (some (Sum.inr (OcE.bad ctx s 4)))
 (cond ((0#32).ult (v_best pr (asU32 ((d.getD (0 + i.toNat) []).headD AV.any) &&& ~~~(1#32 ||| se) &&& ~~~(1#32 <<< min (v_best pr (asU32 ((d.getD (0 + i.toNat) []).headD AV.any) &&& ~~~(1#32 ||| se) &&& asU32 ((en.getD 0 []).headD AV.any)) 0#32 0#32 1#32).toNat 32) &&& asU32 ((en.getD 1 []).headD AV.any)) 0#32 0#32 1#32))
 (cond (BitVec.setWidth 64 (v_best pr (asU32 ((d.getD (0 + i.toNat) []).headD AV.any) &&& ~~~(1#32 ||| se) &&& ~~~(1#32 <<< min (v_best pr (asU32 ((d.getD (0 + i.toNat) []).headD AV.any) &&& ~~~(1#32 ||| se) &&& asU32 ((en.getD 0 []).headD AV.any)) 0#32 0#32 1#32).toNat 32) &&& asU32 ((en.getD 1 []).headD AV.any)) 0#32 0#32 1#32) == s)
 (some (Sum.inr (OcE.bad ctx s 4)))
 (some (Sum.inl (OcS.a n m d pr (asU32 ((d.getD (0 + i.toNat) []).headD AV.any) &&& ~~~(1#32 ||| se) &&& ~~~(1#32 <<< min (v_best pr (asU32 ((d.getD (0 + i.toNat) []).headD AV.any) &&& ~~~(1#32 ||| se) &&& asU32 ((en.getD 0 []).headD AV.any)) 0#32 0#32 1#32).toNat 32) &&& ~~~(1#32 <<< min (v_best pr (asU32 ((d.getD (0 + i.toNat) []).headD AV.any) &&& ~~~(1#32 ||| se) &&& ~~~(1#32 <<< min (v_best pr (asU32 ((d.getD (0 + i.toNat) []).headD AV.any) &&& ~~~(1#32 ||| se) &&& asU32 ((en.getD 0 []).headD AV.any)) 0#32 0#32 1#32).toNat 32) &&& asU32 ((en.getD 1 []).headD AV.any)) 0#32 0#32 1#32).toNat 32)) (se ||| 1#32 <<< min (v_best pr (asU32 ((d.getD (0 + i.toNat) []).headD AV.any) &&& ~~~(1#32 ||| se) &&& asU32 ((en.getD 0 []).headD AV.any)) 0#32 0#32 1#32).toNat 32 ||| 1#32 <<< min (v_best pr (asU32 ((d.getD (0 + i.toNat) []).headD AV.any) &&& ~~~(1#32 ||| se) &&& ~~~(1#32 <<< min (v_best pr (asU32 ((d.getD (0 + i.toNat) []).headD AV.any) &&& ~~~(1#32 ||| se) &&& asU32 ((en.getD 0 []).headD AV.any)) 0#32 0#32 1#32).toNat 32) &&& asU32 ((en.getD 1 []).headD AV.any)) 0#32 0#32 1#32).toNat 32) en th ctx s (i + 1#64)))))
 (cond (BitVec.setWidth 64 (v_best pr (asU32 ((d.getD (0 + i.toNat) []).headD AV.any) &&& ~~~(1#32 ||| se) &&& ~~~(1#32 <<< min (v_best pr (asU32 ((d.getD (0 + i.toNat) []).headD AV.any) &&& ~~~(1#32 ||| se) &&& asU32 ((en.getD 0 []).headD AV.any)) 0#32 0#32 1#32).toNat 32) &&& asU32 ((en.getD 1 []).headD AV.any)) 0#32 0#32 1#32) == s)
 (some (Sum.inr (OcE.bad ctx s 4)))
 (some (Sum.inl (OcS.a n m d pr (asU32 ((d.getD (0 + i.toNat) []).headD AV.any) &&& ~~~(1#32 ||| se) &&& ~~~(1#32 <<< min (v_best pr (asU32 ((d.getD (0 + i.toNat) []).headD AV.any) &&& ~~~(1#32 ||| se) &&& asU32 ((en.getD 0 []).headD AV.any)) 0#32 0#32 1#32).toNat 32)) (se ||| 1#32 <<< min (v_best pr (asU32 ((d.getD (0 + i.toNat) []).headD AV.any) &&& ~~~(1#32 ||| se) &&& asU32 ((en.getD 0 []).headD AV.any)) 0#32 0#32 1#32).toNat 32) en th ctx s (i + 1#64)))))))
 (cond (BitVec.setWidth 64 (v_best pr (asU32 ((d.getD (0 + i.toNat) []).headD AV.any) &&& ~~~(1#32 ||| se) &&& asU32 ((en.getD 0 []).headD AV.any)) 0#32 0#32 1#32) == s)
 (some (Sum.inr (OcE.bad ctx s 4)))
 (cond ((0#32).ult (v_best pr (asU32 ((d.getD (0 + i.toNat) []).headD AV.any) &&& ~~~(1#32 ||| se) &&& asU32 ((en.getD 1 []).headD AV.any)) 0#32 0#32 1#32))
 (cond (BitVec.setWidth 64 (v_best pr (asU32 ((d.getD (0 + i.toNat) []).headD AV.any) &&& ~~~(1#32 ||| se) &&& asU32 ((en.getD 1 []).headD AV.any)) 0#32 0#32 1#32) == s)
 (some (Sum.inr (OcE.bad ctx s 4)))
 (some (Sum.inl (OcS.a n m d pr (asU32 ((d.getD (0 + i.toNat) []).headD AV.any) &&& ~~~(1#32 ||| se) &&& ~~~(1#32 <<< min (v_best pr (asU32 ((d.getD (0 + i.toNat) []).headD AV.any) &&& ~~~(1#32 ||| se) &&& asU32 ((en.getD 1 []).headD AV.any)) 0#32 0#32 1#32).toNat 32)) (se ||| 1#32 <<< min (v_best pr (asU32 ((d.getD (0 + i.toNat) []).headD AV.any) &&& ~~~(1#32 ||| se) &&& asU32 ((en.getD 1 []).headD AV.any)) 0#32 0#32 1#32).toNat 32) en th ctx s (i + 1#64)))))
 (cond (BitVec.setWidth 64 (v_best pr (asU32 ((d.getD (0 + i.toNat) []).headD AV.any) &&& ~~~(1#32 ||| se) &&& asU32 ((en.getD 1 []).headD AV.any)) 0#32 0#32 1#32) == s)
 (some (Sum.inr (OcE.bad ctx s 4)))
 (some (Sum.inl (OcS.a n m d pr (asU32 ((d.getD (0 + i.toNat) []).headD AV.any) &&& ~~~(1#32 ||| se)) se en th ctx s (i + 1#64)))))))))
   none)
  none)
 (some (Sum.inr (OcE.fine pr pe se en th ctx s))))
end Go.Sx

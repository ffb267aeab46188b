/- What loops do, round by round. -/
import Derived.Test.YtaieimjeffedhaaSxX
import Derived.Test.YtaieimjeffedhaaSxSR
import Derived.Test.YtaieimjeffedhaaVa12
import Derived.Test.YtaieimjeffedhaaPlPlc2
set_option linter.unusedSimpArgs false
set_option linter.unusedVariables false
set_option linter.unnecessarySimpa false
namespace Go.Sx
open Go

/-! ### any calls -/
inductive DnS where
  | a (n : Nat) (m : Nat) (d : List (List AV)) (pr : List (List AV)) (pe : BitVec 32) (se : BitVec 32) (en : List (List AV)) (th : List (List AV)) (i : BitVec 64)
inductive DnE where
  | fine (m : Nat) (d : List (List AV)) (pr : List (List AV)) (pe : BitVec 32) (se : BitVec 32) (en : List (List AV)) (th : List (List AV))
def dnT : DnS → List AV
  | .a n _ _ _ _ _ _ _ i => [.slice ⟨0, 0, 0, 5, 0⟩ 5 n, .ptr ⟨1, 0, 0, 0, 0⟩, .int .i64 i]
def dnH : DnS → Heap
  | .a _ m d pr pe se en th _ => [(0, ⟨false, [.arr [.int .i64, .int .i64, .int .i64, .int .u64, .int .u32] m d]⟩), (1, ⟨true, [.arr [.int .u32] 32 pr, .cell (.int .u32 pe), .cell (.int .u32 se), .arr [.int .u32] 2 en, .arr [.int .u32] 2 th]⟩)]
def dnN : DnS → Nat
  | .a _ _ _ _ _ _ _ _ _ => 2
def dnDec (vs : List AV) (H : Heap) (N : Nat) : Option DnS := match vs, H.find 0, H.find 1, N with
  | [.slice ⟨0, 0, 0, 5, 0⟩ 5 n, .ptr ⟨1, 0, 0, 0, 0⟩, .int .i64 i], some ⟨false, [.arr [.int .i64, .int .i64, .int .i64, .int .u64, .int .u32] m d]⟩, some ⟨true, [.arr [.int .u32] 32 pr, .cell (.int .u32 pe), .cell (.int .u32 se), .arr [.int .u32] 2 en, .arr [.int .u32] 2 th]⟩, 2 => some (.a n m d pr pe se en th i)
  | _, _, _, _ => none
theorem dnDec_ok (vs : List AV) (H : Heap) (N : Nat) (y : DnS) (h : dnDec vs H N = some y) : vs = dnT y ∧ (dnH y).sub H ∧ N = dnN y := by
  unfold dnDec at h
  split at h
  all_goals first
    | (cases h; done)
    | (cases h; refine ⟨rfl, ?_, rfl⟩; repeat (first | exact sub_nil | refine sub_cons (by assumption) ?_))
def dnO : DnE → Out
  | .fine _ _ _ _ _ _ _ => .exit 0
def dnV : DnE → List AV
  | .fine _ _ _ _ _ _ _ => [.ptr ⟨1, 0, 0, 0, 0⟩]
def dnG : DnE → Heap
  | .fine m d pr pe se en th => [(0, ⟨false, [.arr [.int .i64, .int .i64, .int .i64, .int .u64, .int .u32] m d]⟩), (1, ⟨true, [.arr [.int .u32] 32 pr, .cell (.int .u32 pe), .cell (.int .u32 se), .arr [.int .u32] 2 en, .arr [.int .u32] 2 th]⟩)]
def dnM : DnE → Nat
  | .fine _ _ _ _ _ _ _ => 2
def dnDecE (o : Out) (vs : List AV) (H : Heap) (N : Nat) : Option DnE := match o, vs, H.find 0, H.find 1, N with
  | .exit 0, [.ptr ⟨1, 0, 0, 0, 0⟩], some ⟨false, [.arr [.int .i64, .int .i64, .int .i64, .int .u64, .int .u32] m d]⟩, some ⟨true, [.arr [.int .u32] 32 pr, .cell (.int .u32 pe), .cell (.int .u32 se), .arr [.int .u32] 2 en, .arr [.int .u32] 2 th]⟩, 2 => some (.fine m d pr pe se en th)
  | _, _, _, _, _ => none
theorem dnDecE_ok (o : Out) (vs : List AV) (H : Heap) (N : Nat) (z : DnE) (h : dnDecE o vs H N = some z) : o = dnO z ∧ o ≠ .normal ∧ vs = dnV z ∧ (dnG z).sub H ∧ N = dnM z := by
  unfold dnDecE at h
  split at h
  all_goals first
    | (cases h; done)
    | (cases h; refine ⟨rfl, nofun, rfl, ?_, rfl⟩; repeat (first | exact sub_nil | refine sub_cons (by assumption) ?_))
noncomputable def dnStep : DnS → Option (DnS ⊕ DnE)
 | .a n m d pr pe se en th i =>
 (cond (i.slt (BitVec.ofNat 64 n))
 (cond (nonneg IntKind.i64 i && decide (i.toNat < n))
 (cond (decide (0 + i.toNat < m))
 (cond (asI64 ((d.getD (0 + i.toNat) []).headD AV.any) == 0#64)
 (cond (nonneg IntKind.i64 i && decide (i.toNat < n))
 (cond (decide (0 + i.toNat < m))
 (some (Sum.inl (DnS.a n m d pr (asU32 ((d.getD (0 + i.toNat) []).tail.tail.tail.tail.headD AV.any) &&& ~~~(1#32 ||| se)) se en th (i + 1#64))))
      none)
     none)
 (cond (asI64 ((d.getD (0 + i.toNat) []).headD AV.any) == 1#64)
 (cond (nonneg IntKind.i64 i && decide (i.toNat < n))
 (cond (decide (0 + i.toNat < m))
 (cond (nonneg IntKind.i64 i && decide (i.toNat < n))
 (cond (decide (0 + i.toNat < m))
 (cond ((v_plic_which (asI64 ((d.getD (0 + i.toNat) []).tail.headD AV.any)) (asI64 ((d.getD (0 + i.toNat) []).tail.tail.headD AV.any))).fst == 0#64)
 (some (Sum.inl (DnS.a n m d pr pe se en th (i + 1#64))))
 (cond ((v_plic_which (asI64 ((d.getD (0 + i.toNat) []).tail.headD AV.any)) (asI64 ((d.getD (0 + i.toNat) []).tail.tail.headD AV.any))).fst == 1#64)
 (cond (nonneg IntKind.i64 (v_plic_which (asI64 ((d.getD (0 + i.toNat) []).tail.headD AV.any)) (asI64 ((d.getD (0 + i.toNat) []).tail.tail.headD AV.any))).snd && decide ((v_plic_which (asI64 ((d.getD (0 + i.toNat) []).tail.headD AV.any)) (asI64 ((d.getD (0 + i.toNat) []).tail.tail.headD AV.any))).snd.toNat < 32))
 (cond (decide ((v_plic_which (asI64 ((d.getD (0 + i.toNat) []).tail.headD AV.any)) (asI64 ((d.getD (0 + i.toNat) []).tail.tail.headD AV.any))).snd.toNat < 32))
 (some (Sum.inl (DnS.a n m d pr pe se en th (i + 1#64))))
             none)
            none)
 (cond ((v_plic_which (asI64 ((d.getD (0 + i.toNat) []).tail.headD AV.any)) (asI64 ((d.getD (0 + i.toNat) []).tail.tail.headD AV.any))).fst == 2#64)
 (some (Sum.inl (DnS.a n m d pr pe se en th (i + 1#64))))
 (cond ((v_plic_which (asI64 ((d.getD (0 + i.toNat) []).tail.headD AV.any)) (asI64 ((d.getD (0 + i.toNat) []).tail.tail.headD AV.any))).fst == 3#64)
 (cond (nonneg IntKind.i64 (v_plic_which (asI64 ((d.getD (0 + i.toNat) []).tail.headD AV.any)) (asI64 ((d.getD (0 + i.toNat) []).tail.tail.headD AV.any))).snd && decide ((v_plic_which (asI64 ((d.getD (0 + i.toNat) []).tail.headD AV.any)) (asI64 ((d.getD (0 + i.toNat) []).tail.tail.headD AV.any))).snd.toNat < 2))
 (cond (decide ((v_plic_which (asI64 ((d.getD (0 + i.toNat) []).tail.headD AV.any)) (asI64 ((d.getD (0 + i.toNat) []).tail.tail.headD AV.any))).snd.toNat < 2))
 (some (Sum.inl (DnS.a n m d pr pe se en th (i + 1#64))))
               none)
              none)
 (cond ((v_plic_which (asI64 ((d.getD (0 + i.toNat) []).tail.headD AV.any)) (asI64 ((d.getD (0 + i.toNat) []).tail.tail.headD AV.any))).fst == 4#64)
 (cond (nonneg IntKind.i64 (v_plic_which (asI64 ((d.getD (0 + i.toNat) []).tail.headD AV.any)) (asI64 ((d.getD (0 + i.toNat) []).tail.tail.headD AV.any))).snd && decide ((v_plic_which (asI64 ((d.getD (0 + i.toNat) []).tail.headD AV.any)) (asI64 ((d.getD (0 + i.toNat) []).tail.tail.headD AV.any))).snd.toNat < 2))
 (cond (decide ((v_plic_which (asI64 ((d.getD (0 + i.toNat) []).tail.headD AV.any)) (asI64 ((d.getD (0 + i.toNat) []).tail.tail.headD AV.any))).snd.toNat < 2))
 (some (Sum.inl (DnS.a n m d pr pe se en th (i + 1#64))))
                none)
               none)
 (cond ((v_plic_which (asI64 ((d.getD (0 + i.toNat) []).tail.headD AV.any)) (asI64 ((d.getD (0 + i.toNat) []).tail.tail.headD AV.any))).fst == 5#64)
 (cond (nonneg IntKind.i64 (v_plic_which (asI64 ((d.getD (0 + i.toNat) []).tail.headD AV.any)) (asI64 ((d.getD (0 + i.toNat) []).tail.tail.headD AV.any))).snd && decide ((v_plic_which (asI64 ((d.getD (0 + i.toNat) []).tail.headD AV.any)) (asI64 ((d.getD (0 + i.toNat) []).tail.tail.headD AV.any))).snd.toNat < 2))
 (cond (decide ((v_plic_which (asI64 ((d.getD (0 + i.toNat) []).tail.headD AV.any)) (asI64 ((d.getD (0 + i.toNat) []).tail.tail.headD AV.any))).snd.toNat < 2))
 (cond ((0#32).ult (v_best pr (pe &&& asU32 ((en.getD (v_plic_which (asI64 ((d.getD (0 + i.toNat) []).tail.headD AV.any)) (asI64 ((d.getD (0 + i.toNat) []).tail.tail.headD AV.any))).snd.toNat []).headD AV.any)) 0#32 0#32 1#32))
 (some (Sum.inl (DnS.a n m d pr (pe &&& ~~~(1#32 <<< min (v_best pr (pe &&& asU32 ((en.getD (v_plic_which (asI64 ((d.getD (0 + i.toNat) []).tail.headD AV.any)) (asI64 ((d.getD (0 + i.toNat) []).tail.tail.headD AV.any))).snd.toNat []).headD AV.any)) 0#32 0#32 1#32).toNat 32)) (se ||| 1#32 <<< min (v_best pr (pe &&& asU32 ((en.getD (v_plic_which (asI64 ((d.getD (0 + i.toNat) []).tail.headD AV.any)) (asI64 ((d.getD (0 + i.toNat) []).tail.tail.headD AV.any))).snd.toNat []).headD AV.any)) 0#32 0#32 1#32).toNat 32) en th (i + 1#64))))
 (some (Sum.inl (DnS.a n m d pr pe se en th (i + 1#64)))))
                 none)
                none)
 (some (Sum.inl (DnS.a n m d pr pe se en th (i + 1#64))))))))))
         none)
        none)
       none)
      none)
 (cond (asI64 ((d.getD (0 + i.toNat) []).headD AV.any) == 2#64)
 (cond (nonneg IntKind.i64 i && decide (i.toNat < n))
 (cond (decide (0 + i.toNat < m))
 (cond (nonneg IntKind.i64 i && decide (i.toNat < n))
 (cond (decide (0 + i.toNat < m))
 (cond (nonneg IntKind.i64 i && decide (i.toNat < n))
 (cond (decide (0 + i.toNat < m))
 (cond ((v_plic_which (asI64 ((d.getD (0 + i.toNat) []).tail.headD AV.any)) (asI64 ((d.getD (0 + i.toNat) []).tail.tail.headD AV.any))).fst == 0#64)
 (some (Sum.inl (DnS.a n m d pr pe se en th (i + 1#64))))
 (cond ((v_plic_which (asI64 ((d.getD (0 + i.toNat) []).tail.headD AV.any)) (asI64 ((d.getD (0 + i.toNat) []).tail.tail.headD AV.any))).fst == 1#64)
 (cond ((0#64).slt (v_plic_which (asI64 ((d.getD (0 + i.toNat) []).tail.headD AV.any)) (asI64 ((d.getD (0 + i.toNat) []).tail.tail.headD AV.any))).snd)
 (cond (nonneg IntKind.i64 (v_plic_which (asI64 ((d.getD (0 + i.toNat) []).tail.headD AV.any)) (asI64 ((d.getD (0 + i.toNat) []).tail.tail.headD AV.any))).snd && decide ((v_plic_which (asI64 ((d.getD (0 + i.toNat) []).tail.headD AV.any)) (asI64 ((d.getD (0 + i.toNat) []).tail.tail.headD AV.any))).snd.toNat < 32))
 (cond (decide ((v_plic_which (asI64 ((d.getD (0 + i.toNat) []).tail.headD AV.any)) (asI64 ((d.getD (0 + i.toNat) []).tail.tail.headD AV.any))).snd.toNat < 32) && decide ((v_plic_which (asI64 ((d.getD (0 + i.toNat) []).tail.headD AV.any)) (asI64 ((d.getD (0 + i.toNat) []).tail.tail.headD AV.any))).snd.toNat < pr.length))
 (some (Sum.inl (DnS.a n m d (pr.set (v_plic_which (asI64 ((d.getD (0 + i.toNat) []).tail.headD AV.any)) (asI64 ((d.getD (0 + i.toNat) []).tail.tail.headD AV.any))).snd.toNat [AV.int IntKind.u32 (BitVec.setWidth 32 (asU64 ((d.getD (0 + i.toNat) []).tail.tail.tail.headD AV.any) &&& 7#64))]) pe se en th (i + 1#64))))
                 none)
                none)
 (some (Sum.inl (DnS.a n m d pr pe se en th (i + 1#64)))))
 (cond ((v_plic_which (asI64 ((d.getD (0 + i.toNat) []).tail.headD AV.any)) (asI64 ((d.getD (0 + i.toNat) []).tail.tail.headD AV.any))).fst == 3#64)
 (cond (nonneg IntKind.i64 (v_plic_which (asI64 ((d.getD (0 + i.toNat) []).tail.headD AV.any)) (asI64 ((d.getD (0 + i.toNat) []).tail.tail.headD AV.any))).snd && decide ((v_plic_which (asI64 ((d.getD (0 + i.toNat) []).tail.headD AV.any)) (asI64 ((d.getD (0 + i.toNat) []).tail.tail.headD AV.any))).snd.toNat < 2))
 (cond (decide ((v_plic_which (asI64 ((d.getD (0 + i.toNat) []).tail.headD AV.any)) (asI64 ((d.getD (0 + i.toNat) []).tail.tail.headD AV.any))).snd.toNat < 2) && decide ((v_plic_which (asI64 ((d.getD (0 + i.toNat) []).tail.headD AV.any)) (asI64 ((d.getD (0 + i.toNat) []).tail.tail.headD AV.any))).snd.toNat < en.length))
 (some (Sum.inl (DnS.a n m d pr pe se (en.set (v_plic_which (asI64 ((d.getD (0 + i.toNat) []).tail.headD AV.any)) (asI64 ((d.getD (0 + i.toNat) []).tail.tail.headD AV.any))).snd.toNat [AV.int IntKind.u32 (BitVec.setWidth 32 (asU64 ((d.getD (0 + i.toNat) []).tail.tail.tail.headD AV.any)) &&& 4294967294#32)]) th (i + 1#64))))
                 none)
                none)
 (cond ((v_plic_which (asI64 ((d.getD (0 + i.toNat) []).tail.headD AV.any)) (asI64 ((d.getD (0 + i.toNat) []).tail.tail.headD AV.any))).fst == 4#64)
 (cond (nonneg IntKind.i64 (v_plic_which (asI64 ((d.getD (0 + i.toNat) []).tail.headD AV.any)) (asI64 ((d.getD (0 + i.toNat) []).tail.tail.headD AV.any))).snd && decide ((v_plic_which (asI64 ((d.getD (0 + i.toNat) []).tail.headD AV.any)) (asI64 ((d.getD (0 + i.toNat) []).tail.tail.headD AV.any))).snd.toNat < 2))
 (cond (decide ((v_plic_which (asI64 ((d.getD (0 + i.toNat) []).tail.headD AV.any)) (asI64 ((d.getD (0 + i.toNat) []).tail.tail.headD AV.any))).snd.toNat < 2) && decide ((v_plic_which (asI64 ((d.getD (0 + i.toNat) []).tail.headD AV.any)) (asI64 ((d.getD (0 + i.toNat) []).tail.tail.headD AV.any))).snd.toNat < th.length))
 (some (Sum.inl (DnS.a n m d pr pe se en (th.set (v_plic_which (asI64 ((d.getD (0 + i.toNat) []).tail.headD AV.any)) (asI64 ((d.getD (0 + i.toNat) []).tail.tail.headD AV.any))).snd.toNat [AV.int IntKind.u32 (BitVec.setWidth 32 (asU64 ((d.getD (0 + i.toNat) []).tail.tail.tail.headD AV.any) &&& 7#64))]) (i + 1#64))))
                  none)
                 none)
 (cond ((v_plic_which (asI64 ((d.getD (0 + i.toNat) []).tail.headD AV.any)) (asI64 ((d.getD (0 + i.toNat) []).tail.tail.headD AV.any))).fst == 5#64)
 (cond ((BitVec.setWidth 32 (asU64 ((d.getD (0 + i.toNat) []).tail.tail.tail.headD AV.any))).ult 32#32)
 (cond (nonneg IntKind.i64 (v_plic_which (asI64 ((d.getD (0 + i.toNat) []).tail.headD AV.any)) (asI64 ((d.getD (0 + i.toNat) []).tail.tail.headD AV.any))).snd && decide ((v_plic_which (asI64 ((d.getD (0 + i.toNat) []).tail.headD AV.any)) (asI64 ((d.getD (0 + i.toNat) []).tail.tail.headD AV.any))).snd.toNat < 2))
 (cond (decide ((v_plic_which (asI64 ((d.getD (0 + i.toNat) []).tail.headD AV.any)) (asI64 ((d.getD (0 + i.toNat) []).tail.tail.headD AV.any))).snd.toNat < 2))
 (some (Sum.inl (DnS.a n m d pr pe (se &&& ~~~(1#32 <<< min (BitVec.setWidth 32 (asU64 ((d.getD (0 + i.toNat) []).tail.tail.tail.headD AV.any))).toNat 32 &&& asU32 ((en.getD (v_plic_which (asI64 ((d.getD (0 + i.toNat) []).tail.headD AV.any)) (asI64 ((d.getD (0 + i.toNat) []).tail.tail.headD AV.any))).snd.toNat []).headD AV.any))) en th (i + 1#64))))
                    none)
                   none)
 (some (Sum.inl (DnS.a n m d pr pe se en th (i + 1#64)))))
 (some (Sum.inl (DnS.a n m d pr pe se en th (i + 1#64)))))))))
            none)
           none)
          none)
         none)
        none)
       none)
 (some (Sum.inl (DnS.a n m d pr pe se en th (i + 1#64)))))))
   none)
  none)
 (some (Sum.inr (DnE.fine m d pr pe se en th))))
end Go.Sx

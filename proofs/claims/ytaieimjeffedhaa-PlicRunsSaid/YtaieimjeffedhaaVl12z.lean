/- What loops do, round by round. -/
import Derived.Test.YtaieimjeffedhaaSxX
import Derived.Test.YtaieimjeffedhaaSxSR
import Derived.Test.YtaieimjeffedhaaSxEC
import Derived.Test.YtaieimjeffedhaaVa12
import Derived.Test.YtaieimjeffedhaaPlPlr4
set_option linter.unusedSimpArgs false
set_option linter.unusedVariables false
set_option linter.unnecessarySimpa false
namespace Go.Sx
open Go

/-! ### call by call -/
inductive PlS where
  | a (n : Nat) (m : Nat) (d : List (List AV)) (pr : List (List AV)) (pe : BitVec 32) (se : BitVec 32) (en : List (List AV)) (th : List (List AV)) (L : List (List AV)) (T : List (List AV)) (i : BitVec 64)
inductive PlE where
  | fine 
  | bad (nn : Nat)
def plT : PlS → List AV
  | .a n _ _ _ _ _ _ _ _ _ i => [.slice ⟨0, 0, 0, 5, 0⟩ 5 n, .ptr ⟨1, 0, 0, 0, 0⟩, .ptr ⟨2, 0, 0, 0, 0⟩, .int .i64 i]
def plH : PlS → Heap
  | .a _ m d pr pe se en th L T _ => [(0, ⟨false, [.arr [.int .i64, .int .i64, .int .i64, .int .u64, .int .u32] m d]⟩), (1, ⟨true, [.arr [.int .u32] 32 pr, .cell (.int .u32 pe), .cell (.int .u32 se), .arr [.int .u32] 2 en, .arr [.int .u32] 2 th]⟩), (2, ⟨true, [.arr [.int .i64, .bool, .bool, .bool, .bool] 32 L, .arr [.int .i64] 2 T]⟩)]
def plN : PlS → Nat
  | .a _ _ _ _ _ _ _ _ _ _ _ => 3
def plDec (vs : List AV) (H : Heap) (N : Nat) : Option PlS := match vs, H.find 0, H.find 1, H.find 2, N with
  | [.slice ⟨0, 0, 0, 5, 0⟩ 5 n, .ptr ⟨1, 0, 0, 0, 0⟩, .ptr ⟨2, 0, 0, 0, 0⟩, .int .i64 i], some ⟨false, [.arr [.int .i64, .int .i64, .int .i64, .int .u64, .int .u32] m d]⟩, some ⟨true, [.arr [.int .u32] 32 pr, .cell (.int .u32 pe), .cell (.int .u32 se), .arr [.int .u32] 2 en, .arr [.int .u32] 2 th]⟩, some ⟨true, [.arr [.int .i64, .bool, .bool, .bool, .bool] 32 L, .arr [.int .i64] 2 T]⟩, 3 => some (.a n m d pr pe se en th L T i)
  | _, _, _, _, _ => none
theorem plDec_ok (vs : List AV) (H : Heap) (N : Nat) (y : PlS) (h : plDec vs H N = some y) : vs = plT y ∧ (plH y).sub H ∧ N = plN y := by
  unfold plDec at h
  split at h
  all_goals first
    | (cases h; done)
    | (cases h; refine ⟨rfl, ?_, rfl⟩; repeat (first | exact sub_nil | refine sub_cons (by assumption) ?_))
def plO : PlE → Out
  | .fine => .exit 0
  | .bad _ => .ret
def plV : PlE → List AV
  | .fine => [.any]
  | .bad _ => [.bool false]
def plG : PlE → Heap
  | .fine => []
  | .bad _ => []
def plM : PlE → Nat
  | .fine => 3
  | .bad nn => nn
def plDecE (o : Out) (vs : List AV) (H : Heap) (N : Nat) : Option PlE := match o, vs, N with
  | .exit 0, [.any], 3 => some (.fine)
  | .ret, [.bool false], nn => some (.bad nn)
  | _, _, _ => none
theorem plDecE_ok (o : Out) (vs : List AV) (H : Heap) (N : Nat) (z : PlE) (h : plDecE o vs H N = some z) : o = plO z ∧ o ≠ .normal ∧ vs = plV z ∧ (plG z).sub H ∧ N = plM z := by
  unfold plDecE at h
  split at h
  all_goals first
    | (cases h; done)
    | (cases h; refine ⟨rfl, nofun, rfl, ?_, rfl⟩; repeat (first | exact sub_nil | refine sub_cons (by assumption) ?_))
noncomputable def plStep : PlS → Option (PlS ⊕ PlE)
 | .a n m d pr pe se en th L T i =>
 (cond (i.slt (BitVec.ofNat 64 n))
 (cond (nonneg IntKind.i64 i && decide (i.toNat < n))
 (cond (decide (0 + i.toNat < m))
 (cond (asI64 ((d.getD (0 + i.toNat) []).headD AV.any) == 0#64)
 (cond (g_xln (XlnS.a L T (asU32 ((d.getD (0 + i.toNat) []).tail.tail.tail.tail.headD AV.any))))
 (cond (!v_pdB { pr := pr, pe := asU32 ((d.getD (0 + i.toNat) []).tail.tail.tail.tail.headD AV.any) &&& ~~~(1#32 ||| se), se := se, en := en, th := th } 0#64 == v_xp0 (v_xl L (asU32 ((d.getD (0 + i.toNat) []).tail.tail.tail.tail.headD AV.any)) 1#64) T)
 (some (Sum.inr (PlE.bad 4)))
 (cond (!v_pdB { pr := pr, pe := asU32 ((d.getD (0 + i.toNat) []).tail.tail.tail.tail.headD AV.any) &&& ~~~(1#32 ||| se), se := se, en := en, th := th } 1#64 == v_xp1 (v_xl L (asU32 ((d.getD (0 + i.toNat) []).tail.tail.tail.tail.headD AV.any)) 1#64) T)
 (some (Sum.inr (PlE.bad 4)))
 (cond (asI64 ((d.getD (0 + i.toNat) []).tail.headD AV.any) == 0#64)
 (cond (!v_pdB { pr := pr, pe := asU32 ((d.getD (0 + i.toNat) []).tail.tail.tail.tail.headD AV.any) &&& ~~~(1#32 ||| se), se := se, en := en, th := th } (asI64 ((d.getD (0 + i.toNat) []).tail.headD AV.any)) == v_xp0 (v_xl L (asU32 ((d.getD (0 + i.toNat) []).tail.tail.tail.tail.headD AV.any)) 1#64) T)
 (some (Sum.inr (PlE.bad 4)))
 (cond (g_ldq (LdqS.a pr (asU32 ((d.getD (0 + i.toNat) []).tail.tail.tail.tail.headD AV.any) &&& ~~~(1#32 ||| se)) se en th 4096#64 4#64))
 (cond (g_xld (XldS.a (v_xl L (asU32 ((d.getD (0 + i.toNat) []).tail.tail.tail.tail.headD AV.any)) 1#64) T 4096#64 4#64))
 (cond (!v_ldV { pr := pr, pe := asU32 ((d.getD (0 + i.toNat) []).tail.tail.tail.tail.headD AV.any) &&& ~~~(1#32 ||| se), se := se, en := en, th := th } 4096#64 4#64 == v_xldV (v_xl L (asU32 ((d.getD (0 + i.toNat) []).tail.tail.tail.tail.headD AV.any)) 1#64) T 4096#64 4#64)
 (some (Sum.inr (PlE.bad 4)))
 (some (Sum.inl (PlS.a n m d (v_ldP { pr := pr, pe := asU32 ((d.getD (0 + i.toNat) []).tail.tail.tail.tail.headD AV.any) &&& ~~~(1#32 ||| se), se := se, en := en, th := th } 4096#64 4#64).pr (v_ldP { pr := pr, pe := asU32 ((d.getD (0 + i.toNat) []).tail.tail.tail.tail.headD AV.any) &&& ~~~(1#32 ||| se), se := se, en := en, th := th } 4096#64 4#64).pe (v_ldP { pr := pr, pe := asU32 ((d.getD (0 + i.toNat) []).tail.tail.tail.tail.headD AV.any) &&& ~~~(1#32 ||| se), se := se, en := en, th := th } 4096#64 4#64).se (v_ldP { pr := pr, pe := asU32 ((d.getD (0 + i.toNat) []).tail.tail.tail.tail.headD AV.any) &&& ~~~(1#32 ||| se), se := se, en := en, th := th } 4096#64 4#64).en (v_ldP { pr := pr, pe := asU32 ((d.getD (0 + i.toNat) []).tail.tail.tail.tail.headD AV.any) &&& ~~~(1#32 ||| se), se := se, en := en, th := th } 4096#64 4#64).th (v_xldL (v_xl L (asU32 ((d.getD (0 + i.toNat) []).tail.tail.tail.tail.headD AV.any)) 1#64) 4096#64 4#64) T (i + 1#64)))))
           none)
          none))
 (cond (asI64 ((d.getD (0 + i.toNat) []).tail.headD AV.any) == 1#64)
 (cond (!v_pdB { pr := pr, pe := asU32 ((d.getD (0 + i.toNat) []).tail.tail.tail.tail.headD AV.any) &&& ~~~(1#32 ||| se), se := se, en := en, th := th } (asI64 ((d.getD (0 + i.toNat) []).tail.headD AV.any)) == v_xp1 (v_xl L (asU32 ((d.getD (0 + i.toNat) []).tail.tail.tail.tail.headD AV.any)) 1#64) T)
 (some (Sum.inr (PlE.bad 4)))
 (cond (g_ldq (LdqS.a pr (asU32 ((d.getD (0 + i.toNat) []).tail.tail.tail.tail.headD AV.any) &&& ~~~(1#32 ||| se)) se en th 4096#64 4#64))
 (cond (g_xld (XldS.a (v_xl L (asU32 ((d.getD (0 + i.toNat) []).tail.tail.tail.tail.headD AV.any)) 1#64) T 4096#64 4#64))
 (cond (!v_ldV { pr := pr, pe := asU32 ((d.getD (0 + i.toNat) []).tail.tail.tail.tail.headD AV.any) &&& ~~~(1#32 ||| se), se := se, en := en, th := th } 4096#64 4#64 == v_xldV (v_xl L (asU32 ((d.getD (0 + i.toNat) []).tail.tail.tail.tail.headD AV.any)) 1#64) T 4096#64 4#64)
 (some (Sum.inr (PlE.bad 4)))
 (some (Sum.inl (PlS.a n m d (v_ldP { pr := pr, pe := asU32 ((d.getD (0 + i.toNat) []).tail.tail.tail.tail.headD AV.any) &&& ~~~(1#32 ||| se), se := se, en := en, th := th } 4096#64 4#64).pr (v_ldP { pr := pr, pe := asU32 ((d.getD (0 + i.toNat) []).tail.tail.tail.tail.headD AV.any) &&& ~~~(1#32 ||| se), se := se, en := en, th := th } 4096#64 4#64).pe (v_ldP { pr := pr, pe := asU32 ((d.getD (0 + i.toNat) []).tail.tail.tail.tail.headD AV.any) &&& ~~~(1#32 ||| se), se := se, en := en, th := th } 4096#64 4#64).se (v_ldP { pr := pr, pe := asU32 ((d.getD (0 + i.toNat) []).tail.tail.tail.tail.headD AV.any) &&& ~~~(1#32 ||| se), se := se, en := en, th := th } 4096#64 4#64).en (v_ldP { pr := pr, pe := asU32 ((d.getD (0 + i.toNat) []).tail.tail.tail.tail.headD AV.any) &&& ~~~(1#32 ||| se), se := se, en := en, th := th } 4096#64 4#64).th (v_xldL (v_xl L (asU32 ((d.getD (0 + i.toNat) []).tail.tail.tail.tail.headD AV.any)) 1#64) 4096#64 4#64) T (i + 1#64)))))
            none)
           none))
 (cond (g_xqo (XqoS.a (v_xl L (asU32 ((d.getD (0 + i.toNat) []).tail.tail.tail.tail.headD AV.any)) 1#64) T (asI64 ((d.getD (0 + i.toNat) []).tail.headD AV.any))))
 (cond (!v_pdB { pr := pr, pe := asU32 ((d.getD (0 + i.toNat) []).tail.tail.tail.tail.headD AV.any) &&& ~~~(1#32 ||| se), se := se, en := en, th := th } (asI64 ((d.getD (0 + i.toNat) []).tail.headD AV.any)) == false)
 (some (Sum.inr (PlE.bad 4)))
 (cond (g_ldq (LdqS.a pr (asU32 ((d.getD (0 + i.toNat) []).tail.tail.tail.tail.headD AV.any) &&& ~~~(1#32 ||| se)) se en th 4096#64 4#64))
 (cond (g_xld (XldS.a (v_xl L (asU32 ((d.getD (0 + i.toNat) []).tail.tail.tail.tail.headD AV.any)) 1#64) T 4096#64 4#64))
 (cond (!v_ldV { pr := pr, pe := asU32 ((d.getD (0 + i.toNat) []).tail.tail.tail.tail.headD AV.any) &&& ~~~(1#32 ||| se), se := se, en := en, th := th } 4096#64 4#64 == v_xldV (v_xl L (asU32 ((d.getD (0 + i.toNat) []).tail.tail.tail.tail.headD AV.any)) 1#64) T 4096#64 4#64)
 (some (Sum.inr (PlE.bad 4)))
 (some (Sum.inl (PlS.a n m d (v_ldP { pr := pr, pe := asU32 ((d.getD (0 + i.toNat) []).tail.tail.tail.tail.headD AV.any) &&& ~~~(1#32 ||| se), se := se, en := en, th := th } 4096#64 4#64).pr (v_ldP { pr := pr, pe := asU32 ((d.getD (0 + i.toNat) []).tail.tail.tail.tail.headD AV.any) &&& ~~~(1#32 ||| se), se := se, en := en, th := th } 4096#64 4#64).pe (v_ldP { pr := pr, pe := asU32 ((d.getD (0 + i.toNat) []).tail.tail.tail.tail.headD AV.any) &&& ~~~(1#32 ||| se), se := se, en := en, th := th } 4096#64 4#64).se (v_ldP { pr := pr, pe := asU32 ((d.getD (0 + i.toNat) []).tail.tail.tail.tail.headD AV.any) &&& ~~~(1#32 ||| se), se := se, en := en, th := th } 4096#64 4#64).en (v_ldP { pr := pr, pe := asU32 ((d.getD (0 + i.toNat) []).tail.tail.tail.tail.headD AV.any) &&& ~~~(1#32 ||| se), se := se, en := en, th := th } 4096#64 4#64).th (v_xldL (v_xl L (asU32 ((d.getD (0 + i.toNat) []).tail.tail.tail.tail.headD AV.any)) 1#64) 4096#64 4#64) T (i + 1#64)))))
             none)
            none))
          none)))))
     none)
 (cond (asI64 ((d.getD (0 + i.toNat) []).headD AV.any) == 1#64)
 (cond (g_ldq (LdqS.a pr pe se en th (asI64 ((d.getD (0 + i.toNat) []).tail.headD AV.any)) (asI64 ((d.getD (0 + i.toNat) []).tail.tail.headD AV.any))))
 (cond (g_xld (XldS.a L T (asI64 ((d.getD (0 + i.toNat) []).tail.headD AV.any)) (asI64 ((d.getD (0 + i.toNat) []).tail.tail.headD AV.any))))
 (cond (v_ldV { pr := pr, pe := pe, se := se, en := en, th := th } (asI64 ((d.getD (0 + i.toNat) []).tail.headD AV.any)) (asI64 ((d.getD (0 + i.toNat) []).tail.tail.headD AV.any)) == v_xldV L T (asI64 ((d.getD (0 + i.toNat) []).tail.headD AV.any)) (asI64 ((d.getD (0 + i.toNat) []).tail.tail.headD AV.any)))
 (cond (!v_stB (asI64 ((d.getD (0 + i.toNat) []).tail.headD AV.any)) (asI64 ((d.getD (0 + i.toNat) []).tail.tail.headD AV.any)) == v_stB (asI64 ((d.getD (0 + i.toNat) []).tail.headD AV.any)) (asI64 ((d.getD (0 + i.toNat) []).tail.tail.headD AV.any)))
 (some (Sum.inr (PlE.bad 4)))
 (cond (!v_pdB (v_ldP { pr := pr, pe := pe, se := se, en := en, th := th } (asI64 ((d.getD (0 + i.toNat) []).tail.headD AV.any)) (asI64 ((d.getD (0 + i.toNat) []).tail.tail.headD AV.any))) 0#64 == v_xp0 (v_xldL L (asI64 ((d.getD (0 + i.toNat) []).tail.headD AV.any)) (asI64 ((d.getD (0 + i.toNat) []).tail.tail.headD AV.any))) T)
 (some (Sum.inr (PlE.bad 4)))
 (cond (!v_pdB (v_ldP { pr := pr, pe := pe, se := se, en := en, th := th } (asI64 ((d.getD (0 + i.toNat) []).tail.headD AV.any)) (asI64 ((d.getD (0 + i.toNat) []).tail.tail.headD AV.any))) 1#64 == v_xp1 (v_xldL L (asI64 ((d.getD (0 + i.toNat) []).tail.headD AV.any)) (asI64 ((d.getD (0 + i.toNat) []).tail.tail.headD AV.any))) T)
 (some (Sum.inr (PlE.bad 4)))
 (cond (asI64 ((d.getD (0 + i.toNat) []).tail.headD AV.any) == 0#64)
 (cond (!v_pdB (v_ldP { pr := pr, pe := pe, se := se, en := en, th := th } (asI64 ((d.getD (0 + i.toNat) []).tail.headD AV.any)) (asI64 ((d.getD (0 + i.toNat) []).tail.tail.headD AV.any))) (asI64 ((d.getD (0 + i.toNat) []).tail.headD AV.any)) == v_xp0 (v_xldL L (asI64 ((d.getD (0 + i.toNat) []).tail.headD AV.any)) (asI64 ((d.getD (0 + i.toNat) []).tail.tail.headD AV.any))) T)
 (some (Sum.inr (PlE.bad 4)))
 (cond (g_ldq (LdqS.a (v_ldP { pr := pr, pe := pe, se := se, en := en, th := th } (asI64 ((d.getD (0 + i.toNat) []).tail.headD AV.any)) (asI64 ((d.getD (0 + i.toNat) []).tail.tail.headD AV.any))).pr (v_ldP { pr := pr, pe := pe, se := se, en := en, th := th } (asI64 ((d.getD (0 + i.toNat) []).tail.headD AV.any)) (asI64 ((d.getD (0 + i.toNat) []).tail.tail.headD AV.any))).pe (v_ldP { pr := pr, pe := pe, se := se, en := en, th := th } (asI64 ((d.getD (0 + i.toNat) []).tail.headD AV.any)) (asI64 ((d.getD (0 + i.toNat) []).tail.tail.headD AV.any))).se (v_ldP { pr := pr, pe := pe, se := se, en := en, th := th } (asI64 ((d.getD (0 + i.toNat) []).tail.headD AV.any)) (asI64 ((d.getD (0 + i.toNat) []).tail.tail.headD AV.any))).en (v_ldP { pr := pr, pe := pe, se := se, en := en, th := th } (asI64 ((d.getD (0 + i.toNat) []).tail.headD AV.any)) (asI64 ((d.getD (0 + i.toNat) []).tail.tail.headD AV.any))).th 4096#64 4#64))
 (cond (g_xld (XldS.a (v_xldL L (asI64 ((d.getD (0 + i.toNat) []).tail.headD AV.any)) (asI64 ((d.getD (0 + i.toNat) []).tail.tail.headD AV.any))) T 4096#64 4#64))
 (cond (!v_ldV (v_ldP { pr := pr, pe := pe, se := se, en := en, th := th } (asI64 ((d.getD (0 + i.toNat) []).tail.headD AV.any)) (asI64 ((d.getD (0 + i.toNat) []).tail.tail.headD AV.any))) 4096#64 4#64 == v_xldV (v_xldL L (asI64 ((d.getD (0 + i.toNat) []).tail.headD AV.any)) (asI64 ((d.getD (0 + i.toNat) []).tail.tail.headD AV.any))) T 4096#64 4#64)
 (some (Sum.inr (PlE.bad 4)))
 (some (Sum.inl (PlS.a n m d (v_ldP (v_ldP { pr := pr, pe := pe, se := se, en := en, th := th } (asI64 ((d.getD (0 + i.toNat) []).tail.headD AV.any)) (asI64 ((d.getD (0 + i.toNat) []).tail.tail.headD AV.any))) 4096#64 4#64).pr (v_ldP (v_ldP { pr := pr, pe := pe, se := se, en := en, th := th } (asI64 ((d.getD (0 + i.toNat) []).tail.headD AV.any)) (asI64 ((d.getD (0 + i.toNat) []).tail.tail.headD AV.any))) 4096#64 4#64).pe (v_ldP (v_ldP { pr := pr, pe := pe, se := se, en := en, th := th } (asI64 ((d.getD (0 + i.toNat) []).tail.headD AV.any)) (asI64 ((d.getD (0 + i.toNat) []).tail.tail.headD AV.any))) 4096#64 4#64).se (v_ldP (v_ldP { pr := pr, pe := pe, se := se, en := en, th := th } (asI64 ((d.getD (0 + i.toNat) []).tail.headD AV.any)) (asI64 ((d.getD (0 + i.toNat) []).tail.tail.headD AV.any))) 4096#64 4#64).en (v_ldP (v_ldP { pr := pr, pe := pe, se := se, en := en, th := th } (asI64 ((d.getD (0 + i.toNat) []).tail.headD AV.any)) (asI64 ((d.getD (0 + i.toNat) []).tail.tail.headD AV.any))) 4096#64 4#64).th (v_xldL (v_xldL L (asI64 ((d.getD (0 + i.toNat) []).tail.headD AV.any)) (asI64 ((d.getD (0 + i.toNat) []).tail.tail.headD AV.any))) 4096#64 4#64) T (i + 1#64)))))
               none)
              none))
 (cond (asI64 ((d.getD (0 + i.toNat) []).tail.headD AV.any) == 1#64)
 (cond (!v_pdB (v_ldP { pr := pr, pe := pe, se := se, en := en, th := th } (asI64 ((d.getD (0 + i.toNat) []).tail.headD AV.any)) (asI64 ((d.getD (0 + i.toNat) []).tail.tail.headD AV.any))) (asI64 ((d.getD (0 + i.toNat) []).tail.headD AV.any)) == v_xp1 (v_xldL L (asI64 ((d.getD (0 + i.toNat) []).tail.headD AV.any)) (asI64 ((d.getD (0 + i.toNat) []).tail.tail.headD AV.any))) T)
 (some (Sum.inr (PlE.bad 4)))
 (cond (g_ldq (LdqS.a (v_ldP { pr := pr, pe := pe, se := se, en := en, th := th } (asI64 ((d.getD (0 + i.toNat) []).tail.headD AV.any)) (asI64 ((d.getD (0 + i.toNat) []).tail.tail.headD AV.any))).pr (v_ldP { pr := pr, pe := pe, se := se, en := en, th := th } (asI64 ((d.getD (0 + i.toNat) []).tail.headD AV.any)) (asI64 ((d.getD (0 + i.toNat) []).tail.tail.headD AV.any))).pe (v_ldP { pr := pr, pe := pe, se := se, en := en, th := th } (asI64 ((d.getD (0 + i.toNat) []).tail.headD AV.any)) (asI64 ((d.getD (0 + i.toNat) []).tail.tail.headD AV.any))).se (v_ldP { pr := pr, pe := pe, se := se, en := en, th := th } (asI64 ((d.getD (0 + i.toNat) []).tail.headD AV.any)) (asI64 ((d.getD (0 + i.toNat) []).tail.tail.headD AV.any))).en (v_ldP { pr := pr, pe := pe, se := se, en := en, th := th } (asI64 ((d.getD (0 + i.toNat) []).tail.headD AV.any)) (asI64 ((d.getD (0 + i.toNat) []).tail.tail.headD AV.any))).th 4096#64 4#64))
 (cond (g_xld (XldS.a (v_xldL L (asI64 ((d.getD (0 + i.toNat) []).tail.headD AV.any)) (asI64 ((d.getD (0 + i.toNat) []).tail.tail.headD AV.any))) T 4096#64 4#64))
 (cond (!v_ldV (v_ldP { pr := pr, pe := pe, se := se, en := en, th := th } (asI64 ((d.getD (0 + i.toNat) []).tail.headD AV.any)) (asI64 ((d.getD (0 + i.toNat) []).tail.tail.headD AV.any))) 4096#64 4#64 == v_xldV (v_xldL L (asI64 ((d.getD (0 + i.toNat) []).tail.headD AV.any)) (asI64 ((d.getD (0 + i.toNat) []).tail.tail.headD AV.any))) T 4096#64 4#64)
 (some (Sum.inr (PlE.bad 4)))
 (some (Sum.inl (PlS.a n m d (v_ldP (v_ldP { pr := pr, pe := pe, se := se, en := en, th := th } (asI64 ((d.getD (0 + i.toNat) []).tail.headD AV.any)) (asI64 ((d.getD (0 + i.toNat) []).tail.tail.headD AV.any))) 4096#64 4#64).pr (v_ldP (v_ldP { pr := pr, pe := pe, se := se, en := en, th := th } (asI64 ((d.getD (0 + i.toNat) []).tail.headD AV.any)) (asI64 ((d.getD (0 + i.toNat) []).tail.tail.headD AV.any))) 4096#64 4#64).pe (v_ldP (v_ldP { pr := pr, pe := pe, se := se, en := en, th := th } (asI64 ((d.getD (0 + i.toNat) []).tail.headD AV.any)) (asI64 ((d.getD (0 + i.toNat) []).tail.tail.headD AV.any))) 4096#64 4#64).se (v_ldP (v_ldP { pr := pr, pe := pe, se := se, en := en, th := th } (asI64 ((d.getD (0 + i.toNat) []).tail.headD AV.any)) (asI64 ((d.getD (0 + i.toNat) []).tail.tail.headD AV.any))) 4096#64 4#64).en (v_ldP (v_ldP { pr := pr, pe := pe, se := se, en := en, th := th } (asI64 ((d.getD (0 + i.toNat) []).tail.headD AV.any)) (asI64 ((d.getD (0 + i.toNat) []).tail.tail.headD AV.any))) 4096#64 4#64).th (v_xldL (v_xldL L (asI64 ((d.getD (0 + i.toNat) []).tail.headD AV.any)) (asI64 ((d.getD (0 + i.toNat) []).tail.tail.headD AV.any))) 4096#64 4#64) T (i + 1#64)))))
                none)
               none))
 (cond (g_xqo (XqoS.a (v_xldL L (asI64 ((d.getD (0 + i.toNat) []).tail.headD AV.any)) (asI64 ((d.getD (0 + i.toNat) []).tail.tail.headD AV.any))) T (asI64 ((d.getD (0 + i.toNat) []).tail.headD AV.any))))
 (cond (!v_pdB (v_ldP { pr := pr, pe := pe, se := se, en := en, th := th } (asI64 ((d.getD (0 + i.toNat) []).tail.headD AV.any)) (asI64 ((d.getD (0 + i.toNat) []).tail.tail.headD AV.any))) (asI64 ((d.getD (0 + i.toNat) []).tail.headD AV.any)) == false)
 (some (Sum.inr (PlE.bad 4)))
 (cond (g_ldq (LdqS.a (v_ldP { pr := pr, pe := pe, se := se, en := en, th := th } (asI64 ((d.getD (0 + i.toNat) []).tail.headD AV.any)) (asI64 ((d.getD (0 + i.toNat) []).tail.tail.headD AV.any))).pr (v_ldP { pr := pr, pe := pe, se := se, en := en, th := th } (asI64 ((d.getD (0 + i.toNat) []).tail.headD AV.any)) (asI64 ((d.getD (0 + i.toNat) []).tail.tail.headD AV.any))).pe (v_ldP { pr := pr, pe := pe, se := se, en := en, th := th } (asI64 ((d.getD (0 + i.toNat) []).tail.headD AV.any)) (asI64 ((d.getD (0 + i.toNat) []).tail.tail.headD AV.any))).se (v_ldP { pr := pr, pe := pe, se := se, en := en, th := th } (asI64 ((d.getD (0 + i.toNat) []).tail.headD AV.any)) (asI64 ((d.getD (0 + i.toNat) []).tail.tail.headD AV.any))).en (v_ldP { pr := pr, pe := pe, se := se, en := en, th := th } (asI64 ((d.getD (0 + i.toNat) []).tail.headD AV.any)) (asI64 ((d.getD (0 + i.toNat) []).tail.tail.headD AV.any))).th 4096#64 4#64))
 (cond (g_xld (XldS.a (v_xldL L (asI64 ((d.getD (0 + i.toNat) []).tail.headD AV.any)) (asI64 ((d.getD (0 + i.toNat) []).tail.tail.headD AV.any))) T 4096#64 4#64))
 (cond (!v_ldV (v_ldP { pr := pr, pe := pe, se := se, en := en, th := th } (asI64 ((d.getD (0 + i.toNat) []).tail.headD AV.any)) (asI64 ((d.getD (0 + i.toNat) []).tail.tail.headD AV.any))) 4096#64 4#64 == v_xldV (v_xldL L (asI64 ((d.getD (0 + i.toNat) []).tail.headD AV.any)) (asI64 ((d.getD (0 + i.toNat) []).tail.tail.headD AV.any))) T 4096#64 4#64)
 (some (Sum.inr (PlE.bad 4)))
 (some (Sum.inl (PlS.a n m d (v_ldP (v_ldP { pr := pr, pe := pe, se := se, en := en, th := th } (asI64 ((d.getD (0 + i.toNat) []).tail.headD AV.any)) (asI64 ((d.getD (0 + i.toNat) []).tail.tail.headD AV.any))) 4096#64 4#64).pr (v_ldP (v_ldP { pr := pr, pe := pe, se := se, en := en, th := th } (asI64 ((d.getD (0 + i.toNat) []).tail.headD AV.any)) (asI64 ((d.getD (0 + i.toNat) []).tail.tail.headD AV.any))) 4096#64 4#64).pe (v_ldP (v_ldP { pr := pr, pe := pe, se := se, en := en, th := th } (asI64 ((d.getD (0 + i.toNat) []).tail.headD AV.any)) (asI64 ((d.getD (0 + i.toNat) []).tail.tail.headD AV.any))) 4096#64 4#64).se (v_ldP (v_ldP { pr := pr, pe := pe, se := se, en := en, th := th } (asI64 ((d.getD (0 + i.toNat) []).tail.headD AV.any)) (asI64 ((d.getD (0 + i.toNat) []).tail.tail.headD AV.any))) 4096#64 4#64).en (v_ldP (v_ldP { pr := pr, pe := pe, se := se, en := en, th := th } (asI64 ((d.getD (0 + i.toNat) []).tail.headD AV.any)) (asI64 ((d.getD (0 + i.toNat) []).tail.tail.headD AV.any))) 4096#64 4#64).th (v_xldL (v_xldL L (asI64 ((d.getD (0 + i.toNat) []).tail.headD AV.any)) (asI64 ((d.getD (0 + i.toNat) []).tail.tail.headD AV.any))) 4096#64 4#64) T (i + 1#64)))))
                 none)
                none))
              none))))))
 (some (Sum.inr (PlE.bad 4))))
       none)
      none)
 (cond (asI64 ((d.getD (0 + i.toNat) []).headD AV.any) == 2#64)
 (cond (g_stq (StqS.a pr pe se en th (asI64 ((d.getD (0 + i.toNat) []).tail.headD AV.any)) (asI64 ((d.getD (0 + i.toNat) []).tail.tail.headD AV.any)) (asU64 ((d.getD (0 + i.toNat) []).tail.tail.tail.headD AV.any))))
 (cond (g_xst (XstS.a L T (asI64 ((d.getD (0 + i.toNat) []).tail.headD AV.any)) (asI64 ((d.getD (0 + i.toNat) []).tail.tail.headD AV.any)) (asU64 ((d.getD (0 + i.toNat) []).tail.tail.tail.headD AV.any))))
 (cond (!v_stB (asI64 ((d.getD (0 + i.toNat) []).tail.headD AV.any)) (asI64 ((d.getD (0 + i.toNat) []).tail.tail.headD AV.any)) == v_stB (asI64 ((d.getD (0 + i.toNat) []).tail.headD AV.any)) (asI64 ((d.getD (0 + i.toNat) []).tail.tail.headD AV.any)))
 (some (Sum.inr (PlE.bad 4)))
 (cond (!v_pdB (v_stP { pr := pr, pe := pe, se := se, en := en, th := th } (asI64 ((d.getD (0 + i.toNat) []).tail.headD AV.any)) (asI64 ((d.getD (0 + i.toNat) []).tail.tail.headD AV.any)) (asU64 ((d.getD (0 + i.toNat) []).tail.tail.tail.headD AV.any))) 0#64 == v_xp0 (v_xstL L (asI64 ((d.getD (0 + i.toNat) []).tail.headD AV.any)) (asI64 ((d.getD (0 + i.toNat) []).tail.tail.headD AV.any)) (asU64 ((d.getD (0 + i.toNat) []).tail.tail.tail.headD AV.any))) (v_xstT T (asI64 ((d.getD (0 + i.toNat) []).tail.headD AV.any)) (asI64 ((d.getD (0 + i.toNat) []).tail.tail.headD AV.any)) (asU64 ((d.getD (0 + i.toNat) []).tail.tail.tail.headD AV.any))))
 (some (Sum.inr (PlE.bad 4)))
 (cond (!v_pdB (v_stP { pr := pr, pe := pe, se := se, en := en, th := th } (asI64 ((d.getD (0 + i.toNat) []).tail.headD AV.any)) (asI64 ((d.getD (0 + i.toNat) []).tail.tail.headD AV.any)) (asU64 ((d.getD (0 + i.toNat) []).tail.tail.tail.headD AV.any))) 1#64 == v_xp1 (v_xstL L (asI64 ((d.getD (0 + i.toNat) []).tail.headD AV.any)) (asI64 ((d.getD (0 + i.toNat) []).tail.tail.headD AV.any)) (asU64 ((d.getD (0 + i.toNat) []).tail.tail.tail.headD AV.any))) (v_xstT T (asI64 ((d.getD (0 + i.toNat) []).tail.headD AV.any)) (asI64 ((d.getD (0 + i.toNat) []).tail.tail.headD AV.any)) (asU64 ((d.getD (0 + i.toNat) []).tail.tail.tail.headD AV.any))))
 (some (Sum.inr (PlE.bad 4)))
 (cond (asI64 ((d.getD (0 + i.toNat) []).tail.headD AV.any) == 0#64)
 (cond (!v_pdB (v_stP { pr := pr, pe := pe, se := se, en := en, th := th } (asI64 ((d.getD (0 + i.toNat) []).tail.headD AV.any)) (asI64 ((d.getD (0 + i.toNat) []).tail.tail.headD AV.any)) (asU64 ((d.getD (0 + i.toNat) []).tail.tail.tail.headD AV.any))) (asI64 ((d.getD (0 + i.toNat) []).tail.headD AV.any)) == v_xp0 (v_xstL L (asI64 ((d.getD (0 + i.toNat) []).tail.headD AV.any)) (asI64 ((d.getD (0 + i.toNat) []).tail.tail.headD AV.any)) (asU64 ((d.getD (0 + i.toNat) []).tail.tail.tail.headD AV.any))) (v_xstT T (asI64 ((d.getD (0 + i.toNat) []).tail.headD AV.any)) (asI64 ((d.getD (0 + i.toNat) []).tail.tail.headD AV.any)) (asU64 ((d.getD (0 + i.toNat) []).tail.tail.tail.headD AV.any))))
 (some (Sum.inr (PlE.bad 4)))
 (cond (g_ldq (LdqS.a (v_stP { pr := pr, pe := pe, se := se, en := en, th := th } (asI64 ((d.getD (0 + i.toNat) []).tail.headD AV.any)) (asI64 ((d.getD (0 + i.toNat) []).tail.tail.headD AV.any)) (asU64 ((d.getD (0 + i.toNat) []).tail.tail.tail.headD AV.any))).pr (v_stP { pr := pr, pe := pe, se := se, en := en, th := th } (asI64 ((d.getD (0 + i.toNat) []).tail.headD AV.any)) (asI64 ((d.getD (0 + i.toNat) []).tail.tail.headD AV.any)) (asU64 ((d.getD (0 + i.toNat) []).tail.tail.tail.headD AV.any))).pe (v_stP { pr := pr, pe := pe, se := se, en := en, th := th } (asI64 ((d.getD (0 + i.toNat) []).tail.headD AV.any)) (asI64 ((d.getD (0 + i.toNat) []).tail.tail.headD AV.any)) (asU64 ((d.getD (0 + i.toNat) []).tail.tail.tail.headD AV.any))).se (v_stP { pr := pr, pe := pe, se := se, en := en, th := th } (asI64 ((d.getD (0 + i.toNat) []).tail.headD AV.any)) (asI64 ((d.getD (0 + i.toNat) []).tail.tail.headD AV.any)) (asU64 ((d.getD (0 + i.toNat) []).tail.tail.tail.headD AV.any))).en (v_stP { pr := pr, pe := pe, se := se, en := en, th := th } (asI64 ((d.getD (0 + i.toNat) []).tail.headD AV.any)) (asI64 ((d.getD (0 + i.toNat) []).tail.tail.headD AV.any)) (asU64 ((d.getD (0 + i.toNat) []).tail.tail.tail.headD AV.any))).th 4096#64 4#64))
 (cond (g_xld (XldS.a (v_xstL L (asI64 ((d.getD (0 + i.toNat) []).tail.headD AV.any)) (asI64 ((d.getD (0 + i.toNat) []).tail.tail.headD AV.any)) (asU64 ((d.getD (0 + i.toNat) []).tail.tail.tail.headD AV.any))) (v_xstT T (asI64 ((d.getD (0 + i.toNat) []).tail.headD AV.any)) (asI64 ((d.getD (0 + i.toNat) []).tail.tail.headD AV.any)) (asU64 ((d.getD (0 + i.toNat) []).tail.tail.tail.headD AV.any))) 4096#64 4#64))
 (cond (!v_ldV (v_stP { pr := pr, pe := pe, se := se, en := en, th := th } (asI64 ((d.getD (0 + i.toNat) []).tail.headD AV.any)) (asI64 ((d.getD (0 + i.toNat) []).tail.tail.headD AV.any)) (asU64 ((d.getD (0 + i.toNat) []).tail.tail.tail.headD AV.any))) 4096#64 4#64 == v_xldV (v_xstL L (asI64 ((d.getD (0 + i.toNat) []).tail.headD AV.any)) (asI64 ((d.getD (0 + i.toNat) []).tail.tail.headD AV.any)) (asU64 ((d.getD (0 + i.toNat) []).tail.tail.tail.headD AV.any))) (v_xstT T (asI64 ((d.getD (0 + i.toNat) []).tail.headD AV.any)) (asI64 ((d.getD (0 + i.toNat) []).tail.tail.headD AV.any)) (asU64 ((d.getD (0 + i.toNat) []).tail.tail.tail.headD AV.any))) 4096#64 4#64)
 (some (Sum.inr (PlE.bad 4)))
 (some (Sum.inl (PlS.a n m d (v_ldP (v_stP { pr := pr, pe := pe, se := se, en := en, th := th } (asI64 ((d.getD (0 + i.toNat) []).tail.headD AV.any)) (asI64 ((d.getD (0 + i.toNat) []).tail.tail.headD AV.any)) (asU64 ((d.getD (0 + i.toNat) []).tail.tail.tail.headD AV.any))) 4096#64 4#64).pr (v_ldP (v_stP { pr := pr, pe := pe, se := se, en := en, th := th } (asI64 ((d.getD (0 + i.toNat) []).tail.headD AV.any)) (asI64 ((d.getD (0 + i.toNat) []).tail.tail.headD AV.any)) (asU64 ((d.getD (0 + i.toNat) []).tail.tail.tail.headD AV.any))) 4096#64 4#64).pe (v_ldP (v_stP { pr := pr, pe := pe, se := se, en := en, th := th } (asI64 ((d.getD (0 + i.toNat) []).tail.headD AV.any)) (asI64 ((d.getD (0 + i.toNat) []).tail.tail.headD AV.any)) (asU64 ((d.getD (0 + i.toNat) []).tail.tail.tail.headD AV.any))) 4096#64 4#64).se (v_ldP (v_stP { pr := pr, pe := pe, se := se, en := en, th := th } (asI64 ((d.getD (0 + i.toNat) []).tail.headD AV.any)) (asI64 ((d.getD (0 + i.toNat) []).tail.tail.headD AV.any)) (asU64 ((d.getD (0 + i.toNat) []).tail.tail.tail.headD AV.any))) 4096#64 4#64).en (v_ldP (v_stP { pr := pr, pe := pe, se := se, en := en, th := th } (asI64 ((d.getD (0 + i.toNat) []).tail.headD AV.any)) (asI64 ((d.getD (0 + i.toNat) []).tail.tail.headD AV.any)) (asU64 ((d.getD (0 + i.toNat) []).tail.tail.tail.headD AV.any))) 4096#64 4#64).th (v_xldL (v_xstL L (asI64 ((d.getD (0 + i.toNat) []).tail.headD AV.any)) (asI64 ((d.getD (0 + i.toNat) []).tail.tail.headD AV.any)) (asU64 ((d.getD (0 + i.toNat) []).tail.tail.tail.headD AV.any))) 4096#64 4#64) (v_xstT T (asI64 ((d.getD (0 + i.toNat) []).tail.headD AV.any)) (asI64 ((d.getD (0 + i.toNat) []).tail.tail.headD AV.any)) (asU64 ((d.getD (0 + i.toNat) []).tail.tail.tail.headD AV.any))) (i + 1#64)))))
               none)
              none))
 (cond (asI64 ((d.getD (0 + i.toNat) []).tail.headD AV.any) == 1#64)
 (cond (!v_pdB (v_stP { pr := pr, pe := pe, se := se, en := en, th := th } (asI64 ((d.getD (0 + i.toNat) []).tail.headD AV.any)) (asI64 ((d.getD (0 + i.toNat) []).tail.tail.headD AV.any)) (asU64 ((d.getD (0 + i.toNat) []).tail.tail.tail.headD AV.any))) (asI64 ((d.getD (0 + i.toNat) []).tail.headD AV.any)) == v_xp1 (v_xstL L (asI64 ((d.getD (0 + i.toNat) []).tail.headD AV.any)) (asI64 ((d.getD (0 + i.toNat) []).tail.tail.headD AV.any)) (asU64 ((d.getD (0 + i.toNat) []).tail.tail.tail.headD AV.any))) (v_xstT T (asI64 ((d.getD (0 + i.toNat) []).tail.headD AV.any)) (asI64 ((d.getD (0 + i.toNat) []).tail.tail.headD AV.any)) (asU64 ((d.getD (0 + i.toNat) []).tail.tail.tail.headD AV.any))))
 (some (Sum.inr (PlE.bad 4)))
 (cond (g_ldq (LdqS.a (v_stP { pr := pr, pe := pe, se := se, en := en, th := th } (asI64 ((d.getD (0 + i.toNat) []).tail.headD AV.any)) (asI64 ((d.getD (0 + i.toNat) []).tail.tail.headD AV.any)) (asU64 ((d.getD (0 + i.toNat) []).tail.tail.tail.headD AV.any))).pr (v_stP { pr := pr, pe := pe, se := se, en := en, th := th } (asI64 ((d.getD (0 + i.toNat) []).tail.headD AV.any)) (asI64 ((d.getD (0 + i.toNat) []).tail.tail.headD AV.any)) (asU64 ((d.getD (0 + i.toNat) []).tail.tail.tail.headD AV.any))).pe (v_stP { pr := pr, pe := pe, se := se, en := en, th := th } (asI64 ((d.getD (0 + i.toNat) []).tail.headD AV.any)) (asI64 ((d.getD (0 + i.toNat) []).tail.tail.headD AV.any)) (asU64 ((d.getD (0 + i.toNat) []).tail.tail.tail.headD AV.any))).se (v_stP { pr := pr, pe := pe, se := se, en := en, th := th } (asI64 ((d.getD (0 + i.toNat) []).tail.headD AV.any)) (asI64 ((d.getD (0 + i.toNat) []).tail.tail.headD AV.any)) (asU64 ((d.getD (0 + i.toNat) []).tail.tail.tail.headD AV.any))).en (v_stP { pr := pr, pe := pe, se := se, en := en, th := th } (asI64 ((d.getD (0 + i.toNat) []).tail.headD AV.any)) (asI64 ((d.getD (0 + i.toNat) []).tail.tail.headD AV.any)) (asU64 ((d.getD (0 + i.toNat) []).tail.tail.tail.headD AV.any))).th 4096#64 4#64))
 (cond (g_xld (XldS.a (v_xstL L (asI64 ((d.getD (0 + i.toNat) []).tail.headD AV.any)) (asI64 ((d.getD (0 + i.toNat) []).tail.tail.headD AV.any)) (asU64 ((d.getD (0 + i.toNat) []).tail.tail.tail.headD AV.any))) (v_xstT T (asI64 ((d.getD (0 + i.toNat) []).tail.headD AV.any)) (asI64 ((d.getD (0 + i.toNat) []).tail.tail.headD AV.any)) (asU64 ((d.getD (0 + i.toNat) []).tail.tail.tail.headD AV.any))) 4096#64 4#64))
 (cond (!v_ldV (v_stP { pr := pr, pe := pe, se := se, en := en, th := th } (asI64 ((d.getD (0 + i.toNat) []).tail.headD AV.any)) (asI64 ((d.getD (0 + i.toNat) []).tail.tail.headD AV.any)) (asU64 ((d.getD (0 + i.toNat) []).tail.tail.tail.headD AV.any))) 4096#64 4#64 == v_xldV (v_xstL L (asI64 ((d.getD (0 + i.toNat) []).tail.headD AV.any)) (asI64 ((d.getD (0 + i.toNat) []).tail.tail.headD AV.any)) (asU64 ((d.getD (0 + i.toNat) []).tail.tail.tail.headD AV.any))) (v_xstT T (asI64 ((d.getD (0 + i.toNat) []).tail.headD AV.any)) (asI64 ((d.getD (0 + i.toNat) []).tail.tail.headD AV.any)) (asU64 ((d.getD (0 + i.toNat) []).tail.tail.tail.headD AV.any))) 4096#64 4#64)
 (some (Sum.inr (PlE.bad 4)))
 (some (Sum.inl (PlS.a n m d (v_ldP (v_stP { pr := pr, pe := pe, se := se, en := en, th := th } (asI64 ((d.getD (0 + i.toNat) []).tail.headD AV.any)) (asI64 ((d.getD (0 + i.toNat) []).tail.tail.headD AV.any)) (asU64 ((d.getD (0 + i.toNat) []).tail.tail.tail.headD AV.any))) 4096#64 4#64).pr (v_ldP (v_stP { pr := pr, pe := pe, se := se, en := en, th := th } (asI64 ((d.getD (0 + i.toNat) []).tail.headD AV.any)) (asI64 ((d.getD (0 + i.toNat) []).tail.tail.headD AV.any)) (asU64 ((d.getD (0 + i.toNat) []).tail.tail.tail.headD AV.any))) 4096#64 4#64).pe (v_ldP (v_stP { pr := pr, pe := pe, se := se, en := en, th := th } (asI64 ((d.getD (0 + i.toNat) []).tail.headD AV.any)) (asI64 ((d.getD (0 + i.toNat) []).tail.tail.headD AV.any)) (asU64 ((d.getD (0 + i.toNat) []).tail.tail.tail.headD AV.any))) 4096#64 4#64).se (v_ldP (v_stP { pr := pr, pe := pe, se := se, en := en, th := th } (asI64 ((d.getD (0 + i.toNat) []).tail.headD AV.any)) (asI64 ((d.getD (0 + i.toNat) []).tail.tail.headD AV.any)) (asU64 ((d.getD (0 + i.toNat) []).tail.tail.tail.headD AV.any))) 4096#64 4#64).en (v_ldP (v_stP { pr := pr, pe := pe, se := se, en := en, th := th } (asI64 ((d.getD (0 + i.toNat) []).tail.headD AV.any)) (asI64 ((d.getD (0 + i.toNat) []).tail.tail.headD AV.any)) (asU64 ((d.getD (0 + i.toNat) []).tail.tail.tail.headD AV.any))) 4096#64 4#64).th (v_xldL (v_xstL L (asI64 ((d.getD (0 + i.toNat) []).tail.headD AV.any)) (asI64 ((d.getD (0 + i.toNat) []).tail.tail.headD AV.any)) (asU64 ((d.getD (0 + i.toNat) []).tail.tail.tail.headD AV.any))) 4096#64 4#64) (v_xstT T (asI64 ((d.getD (0 + i.toNat) []).tail.headD AV.any)) (asI64 ((d.getD (0 + i.toNat) []).tail.tail.headD AV.any)) (asU64 ((d.getD (0 + i.toNat) []).tail.tail.tail.headD AV.any))) (i + 1#64)))))
                none)
               none))
 (cond (g_xqo (XqoS.a (v_xstL L (asI64 ((d.getD (0 + i.toNat) []).tail.headD AV.any)) (asI64 ((d.getD (0 + i.toNat) []).tail.tail.headD AV.any)) (asU64 ((d.getD (0 + i.toNat) []).tail.tail.tail.headD AV.any))) (v_xstT T (asI64 ((d.getD (0 + i.toNat) []).tail.headD AV.any)) (asI64 ((d.getD (0 + i.toNat) []).tail.tail.headD AV.any)) (asU64 ((d.getD (0 + i.toNat) []).tail.tail.tail.headD AV.any))) (asI64 ((d.getD (0 + i.toNat) []).tail.headD AV.any))))
 (cond (!v_pdB (v_stP { pr := pr, pe := pe, se := se, en := en, th := th } (asI64 ((d.getD (0 + i.toNat) []).tail.headD AV.any)) (asI64 ((d.getD (0 + i.toNat) []).tail.tail.headD AV.any)) (asU64 ((d.getD (0 + i.toNat) []).tail.tail.tail.headD AV.any))) (asI64 ((d.getD (0 + i.toNat) []).tail.headD AV.any)) == false)
 (some (Sum.inr (PlE.bad 4)))
 (cond (g_ldq (LdqS.a (v_stP { pr := pr, pe := pe, se := se, en := en, th := th } (asI64 ((d.getD (0 + i.toNat) []).tail.headD AV.any)) (asI64 ((d.getD (0 + i.toNat) []).tail.tail.headD AV.any)) (asU64 ((d.getD (0 + i.toNat) []).tail.tail.tail.headD AV.any))).pr (v_stP { pr := pr, pe := pe, se := se, en := en, th := th } (asI64 ((d.getD (0 + i.toNat) []).tail.headD AV.any)) (asI64 ((d.getD (0 + i.toNat) []).tail.tail.headD AV.any)) (asU64 ((d.getD (0 + i.toNat) []).tail.tail.tail.headD AV.any))).pe (v_stP { pr := pr, pe := pe, se := se, en := en, th := th } (asI64 ((d.getD (0 + i.toNat) []).tail.headD AV.any)) (asI64 ((d.getD (0 + i.toNat) []).tail.tail.headD AV.any)) (asU64 ((d.getD (0 + i.toNat) []).tail.tail.tail.headD AV.any))).se (v_stP { pr := pr, pe := pe, se := se, en := en, th := th } (asI64 ((d.getD (0 + i.toNat) []).tail.headD AV.any)) (asI64 ((d.getD (0 + i.toNat) []).tail.tail.headD AV.any)) (asU64 ((d.getD (0 + i.toNat) []).tail.tail.tail.headD AV.any))).en (v_stP { pr := pr, pe := pe, se := se, en := en, th := th } (asI64 ((d.getD (0 + i.toNat) []).tail.headD AV.any)) (asI64 ((d.getD (0 + i.toNat) []).tail.tail.headD AV.any)) (asU64 ((d.getD (0 + i.toNat) []).tail.tail.tail.headD AV.any))).th 4096#64 4#64))
 (cond (g_xld (XldS.a (v_xstL L (asI64 ((d.getD (0 + i.toNat) []).tail.headD AV.any)) (asI64 ((d.getD (0 + i.toNat) []).tail.tail.headD AV.any)) (asU64 ((d.getD (0 + i.toNat) []).tail.tail.tail.headD AV.any))) (v_xstT T (asI64 ((d.getD (0 + i.toNat) []).tail.headD AV.any)) (asI64 ((d.getD (0 + i.toNat) []).tail.tail.headD AV.any)) (asU64 ((d.getD (0 + i.toNat) []).tail.tail.tail.headD AV.any))) 4096#64 4#64))
 (cond (!v_ldV (v_stP { pr := pr, pe := pe, se := se, en := en, th := th } (asI64 ((d.getD (0 + i.toNat) []).tail.headD AV.any)) (asI64 ((d.getD (0 + i.toNat) []).tail.tail.headD AV.any)) (asU64 ((d.getD (0 + i.toNat) []).tail.tail.tail.headD AV.any))) 4096#64 4#64 == v_xldV (v_xstL L (asI64 ((d.getD (0 + i.toNat) []).tail.headD AV.any)) (asI64 ((d.getD (0 + i.toNat) []).tail.tail.headD AV.any)) (asU64 ((d.getD (0 + i.toNat) []).tail.tail.tail.headD AV.any))) (v_xstT T (asI64 ((d.getD (0 + i.toNat) []).tail.headD AV.any)) (asI64 ((d.getD (0 + i.toNat) []).tail.tail.headD AV.any)) (asU64 ((d.getD (0 + i.toNat) []).tail.tail.tail.headD AV.any))) 4096#64 4#64)
 (some (Sum.inr (PlE.bad 4)))
 (some (Sum.inl (PlS.a n m d (v_ldP (v_stP { pr := pr, pe := pe, se := se, en := en, th := th } (asI64 ((d.getD (0 + i.toNat) []).tail.headD AV.any)) (asI64 ((d.getD (0 + i.toNat) []).tail.tail.headD AV.any)) (asU64 ((d.getD (0 + i.toNat) []).tail.tail.tail.headD AV.any))) 4096#64 4#64).pr (v_ldP (v_stP { pr := pr, pe := pe, se := se, en := en, th := th } (asI64 ((d.getD (0 + i.toNat) []).tail.headD AV.any)) (asI64 ((d.getD (0 + i.toNat) []).tail.tail.headD AV.any)) (asU64 ((d.getD (0 + i.toNat) []).tail.tail.tail.headD AV.any))) 4096#64 4#64).pe (v_ldP (v_stP { pr := pr, pe := pe, se := se, en := en, th := th } (asI64 ((d.getD (0 + i.toNat) []).tail.headD AV.any)) (asI64 ((d.getD (0 + i.toNat) []).tail.tail.headD AV.any)) (asU64 ((d.getD (0 + i.toNat) []).tail.tail.tail.headD AV.any))) 4096#64 4#64).se (v_ldP (v_stP { pr := pr, pe := pe, se := se, en := en, th := th } (asI64 ((d.getD (0 + i.toNat) []).tail.headD AV.any)) (asI64 ((d.getD (0 + i.toNat) []).tail.tail.headD AV.any)) (asU64 ((d.getD (0 + i.toNat) []).tail.tail.tail.headD AV.any))) 4096#64 4#64).en (v_ldP (v_stP { pr := pr, pe := pe, se := se, en := en, th := th } (asI64 ((d.getD (0 + i.toNat) []).tail.headD AV.any)) (asI64 ((d.getD (0 + i.toNat) []).tail.tail.headD AV.any)) (asU64 ((d.getD (0 + i.toNat) []).tail.tail.tail.headD AV.any))) 4096#64 4#64).th (v_xldL (v_xstL L (asI64 ((d.getD (0 + i.toNat) []).tail.headD AV.any)) (asI64 ((d.getD (0 + i.toNat) []).tail.tail.headD AV.any)) (asU64 ((d.getD (0 + i.toNat) []).tail.tail.tail.headD AV.any))) 4096#64 4#64) (v_xstT T (asI64 ((d.getD (0 + i.toNat) []).tail.headD AV.any)) (asI64 ((d.getD (0 + i.toNat) []).tail.tail.headD AV.any)) (asU64 ((d.getD (0 + i.toNat) []).tail.tail.tail.headD AV.any))) (i + 1#64)))))
                 none)
                none))
              none))))))
        none)
       none)
 (cond (!v_pdB { pr := pr, pe := pe, se := se, en := en, th := th } 0#64 == v_xp0 L T)
 (some (Sum.inr (PlE.bad 4)))
 (cond (!v_pdB { pr := pr, pe := pe, se := se, en := en, th := th } 1#64 == v_xp1 L T)
 (some (Sum.inr (PlE.bad 4)))
 (cond (asI64 ((d.getD (0 + i.toNat) []).tail.headD AV.any) == 0#64)
 (cond (!v_pdB { pr := pr, pe := pe, se := se, en := en, th := th } (asI64 ((d.getD (0 + i.toNat) []).tail.headD AV.any)) == v_xp0 L T)
 (some (Sum.inr (PlE.bad 4)))
 (cond (g_ldq (LdqS.a pr pe se en th 4096#64 4#64))
 (cond (g_xld (XldS.a L T 4096#64 4#64))
 (cond (!v_ldV { pr := pr, pe := pe, se := se, en := en, th := th } 4096#64 4#64 == v_xldV L T 4096#64 4#64)
 (some (Sum.inr (PlE.bad 4)))
 (some (Sum.inl (PlS.a n m d (v_ldP { pr := pr, pe := pe, se := se, en := en, th := th } 4096#64 4#64).pr (v_ldP { pr := pr, pe := pe, se := se, en := en, th := th } 4096#64 4#64).pe (v_ldP { pr := pr, pe := pe, se := se, en := en, th := th } 4096#64 4#64).se (v_ldP { pr := pr, pe := pe, se := se, en := en, th := th } 4096#64 4#64).en (v_ldP { pr := pr, pe := pe, se := se, en := en, th := th } 4096#64 4#64).th (v_xldL L 4096#64 4#64) T (i + 1#64)))))
            none)
           none))
 (cond (asI64 ((d.getD (0 + i.toNat) []).tail.headD AV.any) == 1#64)
 (cond (!v_pdB { pr := pr, pe := pe, se := se, en := en, th := th } (asI64 ((d.getD (0 + i.toNat) []).tail.headD AV.any)) == v_xp1 L T)
 (some (Sum.inr (PlE.bad 4)))
 (cond (g_ldq (LdqS.a pr pe se en th 4096#64 4#64))
 (cond (g_xld (XldS.a L T 4096#64 4#64))
 (cond (!v_ldV { pr := pr, pe := pe, se := se, en := en, th := th } 4096#64 4#64 == v_xldV L T 4096#64 4#64)
 (some (Sum.inr (PlE.bad 4)))
 (some (Sum.inl (PlS.a n m d (v_ldP { pr := pr, pe := pe, se := se, en := en, th := th } 4096#64 4#64).pr (v_ldP { pr := pr, pe := pe, se := se, en := en, th := th } 4096#64 4#64).pe (v_ldP { pr := pr, pe := pe, se := se, en := en, th := th } 4096#64 4#64).se (v_ldP { pr := pr, pe := pe, se := se, en := en, th := th } 4096#64 4#64).en (v_ldP { pr := pr, pe := pe, se := se, en := en, th := th } 4096#64 4#64).th (v_xldL L 4096#64 4#64) T (i + 1#64)))))
             none)
            none))
 (cond (g_xqo (XqoS.a L T (asI64 ((d.getD (0 + i.toNat) []).tail.headD AV.any))))
 (cond (!v_pdB { pr := pr, pe := pe, se := se, en := en, th := th } (asI64 ((d.getD (0 + i.toNat) []).tail.headD AV.any)) == false)
 (some (Sum.inr (PlE.bad 4)))
 (cond (g_ldq (LdqS.a pr pe se en th 4096#64 4#64))
 (cond (g_xld (XldS.a L T 4096#64 4#64))
 (cond (!v_ldV { pr := pr, pe := pe, se := se, en := en, th := th } 4096#64 4#64 == v_xldV L T 4096#64 4#64)
 (some (Sum.inr (PlE.bad 4)))
 (some (Sum.inl (PlS.a n m d (v_ldP { pr := pr, pe := pe, se := se, en := en, th := th } 4096#64 4#64).pr (v_ldP { pr := pr, pe := pe, se := se, en := en, th := th } 4096#64 4#64).pe (v_ldP { pr := pr, pe := pe, se := se, en := en, th := th } 4096#64 4#64).se (v_ldP { pr := pr, pe := pe, se := se, en := en, th := th } 4096#64 4#64).en (v_ldP { pr := pr, pe := pe, se := se, en := en, th := th } 4096#64 4#64).th (v_xldL L 4096#64 4#64) T (i + 1#64)))))
              none)
             none))
           none))))))))
   none)
  none)
 (some (Sum.inr PlE.fine)))
end Go.Sx

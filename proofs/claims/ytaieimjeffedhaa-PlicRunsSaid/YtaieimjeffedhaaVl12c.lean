/- What loops do, round by round. -/
import Derived.Test.YtaieimjeffedhaaSxX
import Derived.Test.YtaieimjeffedhaaSxSR
import Derived.Test.YtaieimjeffedhaaVa12
import Derived.Test.YtaieimjeffedhaaPlPlc3
set_option linter.unusedSimpArgs false
set_option linter.unusedVariables false
set_option linter.unnecessarySimpa false
namespace Go.Sx
open Go

/-! ### the best by its registers -/
inductive ClS where
  | a (pr : List (List AV)) (pe : BitVec 32) (se : BitVec 32) (en : List (List AV)) (th : List (List AV)) (ctx : BitVec 64) (bits : BitVec 64) (may : BitVec 64) (lim : BitVec 64) (be : BitVec 64) (mo : BitVec 64) (s : BitVec 64)
inductive ClE where
  | fine (pr : List (List AV)) (pe : BitVec 32) (se : BitVec 32) (en : List (List AV)) (th : List (List AV)) (ctx : BitVec 64) (bits : BitVec 64) (lim : BitVec 64) (be : BitVec 64) (mo : BitVec 64)
def clT : ClS → List AV
  | .a _ _ _ _ _ ctx bits may lim be mo s => [.ptr ⟨2, 0, 0, 0, 0⟩, .int .i64 ctx, .int .u64 bits, .int .u64 may, .int .u64 lim, .int .u64 be, .int .u64 mo, .int .u64 s]
def clH : ClS → Heap
  | .a pr pe se en th _ _ _ _ _ _ _ => [(2, ⟨true, [.arr [.int .u32] 32 pr, .cell (.int .u32 pe), .cell (.int .u32 se), .arr [.int .u32] 2 en, .arr [.int .u32] 2 th]⟩)]
def clN : ClS → Nat
  | .a _ _ _ _ _ _ _ _ _ _ _ _ => 3
def clDec (vs : List AV) (H : Heap) (N : Nat) : Option ClS := match vs, H.find 2, N with
  | [.ptr ⟨2, 0, 0, 0, 0⟩, .int .i64 ctx, .int .u64 bits, .int .u64 may, .int .u64 lim, .int .u64 be, .int .u64 mo, .int .u64 s], some ⟨true, [.arr [.int .u32] 32 pr, .cell (.int .u32 pe), .cell (.int .u32 se), .arr [.int .u32] 2 en, .arr [.int .u32] 2 th]⟩, 3 => some (.a pr pe se en th ctx bits may lim be mo s)
  | _, _, _ => none
theorem clDec_ok (vs : List AV) (H : Heap) (N : Nat) (y : ClS) (h : clDec vs H N = some y) : vs = clT y ∧ (clH y).sub H ∧ N = clN y := by
  unfold clDec at h
  split at h
  all_goals first
    | (cases h; done)
    | (cases h; refine ⟨rfl, ?_, rfl⟩; repeat (first | exact sub_nil | refine sub_cons (by assumption) ?_))
def clO : ClE → Out
  | .fine _ _ _ _ _ _ _ _ _ _ => .exit 0
def clV : ClE → List AV
  | .fine _ _ _ _ _ ctx bits lim be mo => [.ptr ⟨2, 0, 0, 0, 0⟩, .int .i64 ctx, .int .u64 bits, .int .u64 lim, .int .u64 be, .int .u64 mo]
def clG : ClE → Heap
  | .fine pr pe se en th _ _ _ _ _ => [(2, ⟨true, [.arr [.int .u32] 32 pr, .cell (.int .u32 pe), .cell (.int .u32 se), .arr [.int .u32] 2 en, .arr [.int .u32] 2 th]⟩)]
def clM : ClE → Nat
  | .fine _ _ _ _ _ _ _ _ _ _ => 3
def clDecE (o : Out) (vs : List AV) (H : Heap) (N : Nat) : Option ClE := match o, vs, H.find 2, N with
  | .exit 0, [.ptr ⟨2, 0, 0, 0, 0⟩, .int .i64 ctx, .int .u64 bits, .int .u64 lim, .int .u64 be, .int .u64 mo], some ⟨true, [.arr [.int .u32] 32 pr, .cell (.int .u32 pe), .cell (.int .u32 se), .arr [.int .u32] 2 en, .arr [.int .u32] 2 th]⟩, 3 => some (.fine pr pe se en th ctx bits lim be mo)
  | _, _, _, _ => none
theorem clDecE_ok (o : Out) (vs : List AV) (H : Heap) (N : Nat) (z : ClE) (h : clDecE o vs H N = some z) : o = clO z ∧ o ≠ .normal ∧ vs = clV z ∧ (clG z).sub H ∧ N = clM z := by
  unfold clDecE at h
  split at h
  all_goals first
    | (cases h; done)
    | (cases h; refine ⟨rfl, nofun, rfl, ?_, rfl⟩; repeat (first | exact sub_nil | refine sub_cons (by assumption) ?_))
noncomputable def clStep : ClS → Option (ClS ⊕ ClE)
 | .a pr pe se en th ctx bits may lim be mo s =>
 (cond (s.ult 32#64)
 (cond ((v_plic_which (BitVec.setWidth 64 (4#64 * s)) 4#64).fst == 0#64)
 (cond (may >>> min s.toNat 64 &&& 1#64 == 1#64)
 (some (Sum.inl (ClS.a pr pe se en th ctx bits may lim be mo (s + 1#64))))
 (some (Sum.inl (ClS.a pr pe se en th ctx bits may lim be mo (s + 1#64)))))
 (cond ((v_plic_which (BitVec.setWidth 64 (4#64 * s)) 4#64).fst == 1#64)
 (cond (nonneg IntKind.i64 (v_plic_which (BitVec.setWidth 64 (4#64 * s)) 4#64).snd && decide ((v_plic_which (BitVec.setWidth 64 (4#64 * s)) 4#64).snd.toNat < 32))
 (cond (decide ((v_plic_which (BitVec.setWidth 64 (4#64 * s)) 4#64).snd.toNat < 32))
 (cond (may >>> min s.toNat 64 &&& 1#64 == 1#64)
 (cond (mo.ult (BitVec.setWidth 64 (asU32 ((pr.getD (v_plic_which (BitVec.setWidth 64 (4#64 * s)) 4#64).snd.toNat []).headD AV.any))))
 (some (Sum.inl (ClS.a pr pe se en th ctx bits may lim s (BitVec.setWidth 64 (asU32 ((pr.getD (v_plic_which (BitVec.setWidth 64 (4#64 * s)) 4#64).snd.toNat []).headD AV.any))) (s + 1#64))))
 (some (Sum.inl (ClS.a pr pe se en th ctx bits may lim be mo (s + 1#64)))))
 (some (Sum.inl (ClS.a pr pe se en th ctx bits may lim be mo (s + 1#64)))))
     none)
    none)
 (cond ((v_plic_which (BitVec.setWidth 64 (4#64 * s)) 4#64).fst == 2#64)
 (cond (may >>> min s.toNat 64 &&& 1#64 == 1#64)
 (cond (mo.ult (BitVec.setWidth 64 pe))
 (some (Sum.inl (ClS.a pr pe se en th ctx bits may lim s (BitVec.setWidth 64 pe) (s + 1#64))))
 (some (Sum.inl (ClS.a pr pe se en th ctx bits may lim be mo (s + 1#64)))))
 (some (Sum.inl (ClS.a pr pe se en th ctx bits may lim be mo (s + 1#64)))))
 (cond ((v_plic_which (BitVec.setWidth 64 (4#64 * s)) 4#64).fst == 3#64)
 (cond (nonneg IntKind.i64 (v_plic_which (BitVec.setWidth 64 (4#64 * s)) 4#64).snd && decide ((v_plic_which (BitVec.setWidth 64 (4#64 * s)) 4#64).snd.toNat < 2))
 (cond (decide ((v_plic_which (BitVec.setWidth 64 (4#64 * s)) 4#64).snd.toNat < 2))
 (cond (may >>> min s.toNat 64 &&& 1#64 == 1#64)
 (cond (mo.ult (BitVec.setWidth 64 (asU32 ((en.getD (v_plic_which (BitVec.setWidth 64 (4#64 * s)) 4#64).snd.toNat []).headD AV.any))))
 (some (Sum.inl (ClS.a pr pe se en th ctx bits may lim s (BitVec.setWidth 64 (asU32 ((en.getD (v_plic_which (BitVec.setWidth 64 (4#64 * s)) 4#64).snd.toNat []).headD AV.any))) (s + 1#64))))
 (some (Sum.inl (ClS.a pr pe se en th ctx bits may lim be mo (s + 1#64)))))
 (some (Sum.inl (ClS.a pr pe se en th ctx bits may lim be mo (s + 1#64)))))
       none)
      none)
 (cond ((v_plic_which (BitVec.setWidth 64 (4#64 * s)) 4#64).fst == 4#64)
 (cond (nonneg IntKind.i64 (v_plic_which (BitVec.setWidth 64 (4#64 * s)) 4#64).snd && decide ((v_plic_which (BitVec.setWidth 64 (4#64 * s)) 4#64).snd.toNat < 2))
 (cond (decide ((v_plic_which (BitVec.setWidth 64 (4#64 * s)) 4#64).snd.toNat < 2))
 (cond (may >>> min s.toNat 64 &&& 1#64 == 1#64)
 (cond (mo.ult (BitVec.setWidth 64 (asU32 ((th.getD (v_plic_which (BitVec.setWidth 64 (4#64 * s)) 4#64).snd.toNat []).headD AV.any))))
 (some (Sum.inl (ClS.a pr pe se en th ctx bits may lim s (BitVec.setWidth 64 (asU32 ((th.getD (v_plic_which (BitVec.setWidth 64 (4#64 * s)) 4#64).snd.toNat []).headD AV.any))) (s + 1#64))))
 (some (Sum.inl (ClS.a pr pe se en th ctx bits may lim be mo (s + 1#64)))))
 (some (Sum.inl (ClS.a pr pe se en th ctx bits may lim be mo (s + 1#64)))))
        none)
       none)
 (cond ((v_plic_which (BitVec.setWidth 64 (4#64 * s)) 4#64).fst == 5#64)
 (cond (nonneg IntKind.i64 (v_plic_which (BitVec.setWidth 64 (4#64 * s)) 4#64).snd && decide ((v_plic_which (BitVec.setWidth 64 (4#64 * s)) 4#64).snd.toNat < 2))
 (cond (decide ((v_plic_which (BitVec.setWidth 64 (4#64 * s)) 4#64).snd.toNat < 2))
 (cond ((0#32).ult (v_best pr (pe &&& asU32 ((en.getD (v_plic_which (BitVec.setWidth 64 (4#64 * s)) 4#64).snd.toNat []).headD AV.any)) 0#32 0#32 1#32))
 (cond (may >>> min s.toNat 64 &&& 1#64 == 1#64)
 (cond (mo.ult (BitVec.setWidth 64 (v_best pr (pe &&& asU32 ((en.getD (v_plic_which (BitVec.setWidth 64 (4#64 * s)) 4#64).snd.toNat []).headD AV.any)) 0#32 0#32 1#32)))
 (some (Sum.inl (ClS.a pr (pe &&& ~~~(1#32 <<< min (v_best pr (pe &&& asU32 ((en.getD (v_plic_which (BitVec.setWidth 64 (4#64 * s)) 4#64).snd.toNat []).headD AV.any)) 0#32 0#32 1#32).toNat 32)) (se ||| 1#32 <<< min (v_best pr (pe &&& asU32 ((en.getD (v_plic_which (BitVec.setWidth 64 (4#64 * s)) 4#64).snd.toNat []).headD AV.any)) 0#32 0#32 1#32).toNat 32) en th ctx bits may lim s (BitVec.setWidth 64 (v_best pr (pe &&& asU32 ((en.getD (v_plic_which (BitVec.setWidth 64 (4#64 * s)) 4#64).snd.toNat []).headD AV.any)) 0#32 0#32 1#32)) (s + 1#64))))
 (some (Sum.inl (ClS.a pr (pe &&& ~~~(1#32 <<< min (v_best pr (pe &&& asU32 ((en.getD (v_plic_which (BitVec.setWidth 64 (4#64 * s)) 4#64).snd.toNat []).headD AV.any)) 0#32 0#32 1#32).toNat 32)) (se ||| 1#32 <<< min (v_best pr (pe &&& asU32 ((en.getD (v_plic_which (BitVec.setWidth 64 (4#64 * s)) 4#64).snd.toNat []).headD AV.any)) 0#32 0#32 1#32).toNat 32) en th ctx bits may lim be mo (s + 1#64)))))
 (some (Sum.inl (ClS.a pr (pe &&& ~~~(1#32 <<< min (v_best pr (pe &&& asU32 ((en.getD (v_plic_which (BitVec.setWidth 64 (4#64 * s)) 4#64).snd.toNat []).headD AV.any)) 0#32 0#32 1#32).toNat 32)) (se ||| 1#32 <<< min (v_best pr (pe &&& asU32 ((en.getD (v_plic_which (BitVec.setWidth 64 (4#64 * s)) 4#64).snd.toNat []).headD AV.any)) 0#32 0#32 1#32).toNat 32) en th ctx bits may lim be mo (s + 1#64)))))
 (cond (may >>> min s.toNat 64 &&& 1#64 == 1#64)
 (cond (mo.ult (BitVec.setWidth 64 (v_best pr (pe &&& asU32 ((en.getD (v_plic_which (BitVec.setWidth 64 (4#64 * s)) 4#64).snd.toNat []).headD AV.any)) 0#32 0#32 1#32)))
 (some (Sum.inl (ClS.a pr pe se en th ctx bits may lim s (BitVec.setWidth 64 (v_best pr (pe &&& asU32 ((en.getD (v_plic_which (BitVec.setWidth 64 (4#64 * s)) 4#64).snd.toNat []).headD AV.any)) 0#32 0#32 1#32)) (s + 1#64))))
 (some (Sum.inl (ClS.a pr pe se en th ctx bits may lim be mo (s + 1#64)))))
 (some (Sum.inl (ClS.a pr pe se en th ctx bits may lim be mo (s + 1#64))))))
         none)
        none)
 (cond (may >>> min s.toNat 64 &&& 1#64 == 1#64)
 (some (Sum.inl (ClS.a pr pe se en th ctx bits may lim be mo (s + 1#64))))
 (some (Sum.inl (ClS.a pr pe se en th ctx bits may lim be mo (s + 1#64)))))))))))
 (some (Sum.inr (ClE.fine pr pe se en th ctx bits lim be mo))))
end Go.Sx

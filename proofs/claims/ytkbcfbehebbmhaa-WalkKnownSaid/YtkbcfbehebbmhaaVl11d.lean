/- What loops do, round by round. -/
import Derived.Test.YtkbcfbehebbmhaaSxX
import Derived.Test.YtkbcfbehebbmhaaSxLen2
import Derived.Test.YtkbcfbehebbmhaaSxEC
import Derived.Test.YtkbcfbehebbmhaaVa03
import Derived.Test.YtkbcfbehebbmhaaPlRam3
set_option linter.unusedSimpArgs false
set_option linter.unusedVariables false
set_option linter.unnecessarySimpa false
namespace Go.Sx
open Go

/-! ### tags, granule by granule -/
inductive MtgS where
  | z (n : Nat) (tg : List (List AV)) (m : Nat) (d : List (List AV)) (i : BitVec 64)
  | s (n : Nat) (tg : List (List AV)) (m : Nat) (d : List (List AV)) (k : Nat) (kk : Nat) (g : List (List AV)) (i : BitVec 64)
inductive MtgE where
  | z (n : Nat) (tg : List (List AV)) (m : Nat) (d : List (List AV))
  | s (n : Nat) (tg : List (List AV)) (m : Nat) (d : List (List AV)) (k : Nat) (kk : Nat) (g : List (List AV))
def mtgT : MtgS → List AV
  | .z _ _ _ _ i => [.ptr ⟨0, 0, 0, 0, 0⟩, .nilslice, .int .i64 i]
  | .s _ _ _ _ k _ _ i => [.ptr ⟨0, 0, 0, 0, 0⟩, .slice ⟨2, 0, 0, 1, 0⟩ 1 k, .int .i64 i]
def mtgH : MtgS → Heap
  | .z n tg m d _ => [(0, ⟨true, [.cell (.slice ⟨1, 0, 0, 1, 0⟩ 1 n), .arr [.int .u64] 64 tg]⟩), (1, ⟨true, [.arr [.int .u8] m d]⟩)]
  | .s n tg m d _ kk g _ => [(0, ⟨true, [.cell (.slice ⟨1, 0, 0, 1, 0⟩ 1 n), .arr [.int .u64] 64 tg]⟩), (1, ⟨true, [.arr [.int .u8] m d]⟩), (2, ⟨true, [.arr [.int .i64] kk g]⟩)]
def mtgN : MtgS → Nat
  | .z _ _ _ _ _ => 2
  | .s _ _ _ _ _ _ _ _ => 3
def mtgDec (vs : List AV) (H : Heap) (N : Nat) : Option MtgS := match vs, H.find 0, H.find 1, H.find 2, N with
  | [.ptr ⟨0, 0, 0, 0, 0⟩, .nilslice, .int .i64 i], some ⟨true, [.cell (.slice ⟨1, 0, 0, 1, 0⟩ 1 n), .arr [.int .u64] 64 tg]⟩, some ⟨true, [.arr [.int .u8] m d]⟩, _, 2 => some (.z n tg m d i)
  | [.ptr ⟨0, 0, 0, 0, 0⟩, .slice ⟨2, 0, 0, 1, 0⟩ 1 k, .int .i64 i], some ⟨true, [.cell (.slice ⟨1, 0, 0, 1, 0⟩ 1 n), .arr [.int .u64] 64 tg]⟩, some ⟨true, [.arr [.int .u8] m d]⟩, some ⟨true, [.arr [.int .i64] kk g]⟩, 3 => some (.s n tg m d k kk g i)
  | _, _, _, _, _ => none
theorem mtgDec_ok (vs : List AV) (H : Heap) (N : Nat) (y : MtgS) (h : mtgDec vs H N = some y) : vs = mtgT y ∧ (mtgH y).sub H ∧ N = mtgN y := by
  unfold mtgDec at h
  split at h
  all_goals first
    | (cases h; done)
    | (cases h; refine ⟨rfl, ?_, rfl⟩; repeat (first | exact sub_nil | refine sub_cons (by assumption) ?_))
def mtgO : MtgE → Out
  | .z _ _ _ _ => .exit 0
  | .s _ _ _ _ _ _ _ => .exit 0
def mtgV : MtgE → List AV
  | .z _ _ _ _ => [.nilslice]
  | .s _ _ _ _ k _ _ => [.slice ⟨2, 0, 0, 1, 0⟩ 1 k]
def mtgG : MtgE → Heap
  | .z n tg m d => [(0, ⟨true, [.cell (.slice ⟨1, 0, 0, 1, 0⟩ 1 n), .arr [.int .u64] 64 tg]⟩), (1, ⟨true, [.arr [.int .u8] m d]⟩)]
  | .s n tg m d _ kk g => [(0, ⟨true, [.cell (.slice ⟨1, 0, 0, 1, 0⟩ 1 n), .arr [.int .u64] 64 tg]⟩), (1, ⟨true, [.arr [.int .u8] m d]⟩), (2, ⟨true, [.arr [.int .i64] kk g]⟩)]
def mtgM : MtgE → Nat
  | .z _ _ _ _ => 2
  | .s _ _ _ _ _ _ _ => 3
def mtgDecE (o : Out) (vs : List AV) (H : Heap) (N : Nat) : Option MtgE := match o, vs, H.find 0, H.find 1, H.find 2, N with
  | .exit 0, [.nilslice], some ⟨true, [.cell (.slice ⟨1, 0, 0, 1, 0⟩ 1 n), .arr [.int .u64] 64 tg]⟩, some ⟨true, [.arr [.int .u8] m d]⟩, _, 2 => some (.z n tg m d)
  | .exit 0, [.slice ⟨2, 0, 0, 1, 0⟩ 1 k], some ⟨true, [.cell (.slice ⟨1, 0, 0, 1, 0⟩ 1 n), .arr [.int .u64] 64 tg]⟩, some ⟨true, [.arr [.int .u8] m d]⟩, some ⟨true, [.arr [.int .i64] kk g]⟩, 3 => some (.s n tg m d k kk g)
  | _, _, _, _, _, _ => none
theorem mtgDecE_ok (o : Out) (vs : List AV) (H : Heap) (N : Nat) (z : MtgE) (h : mtgDecE o vs H N = some z) : o = mtgO z ∧ o ≠ .normal ∧ vs = mtgV z ∧ (mtgG z).sub H ∧ N = mtgM z := by
  unfold mtgDecE at h
  split at h
  all_goals first
    | (cases h; done)
    | (cases h; refine ⟨rfl, nofun, rfl, ?_, rfl⟩; repeat (first | exact sub_nil | refine sub_cons (by assumption) ?_))
noncomputable def mtgStep : MtgS → Option (MtgS ⊕ MtgE)
 | .z n tg m d i =>
 (cond (i.slt (BitVec.ofNat 64 n))
 (cond (nonneg IntKind.i64 ((i.sdiv 16#64).sdiv 64#64) && decide (((i.sdiv 16#64).sdiv 64#64).toNat < 64))
 (cond (nonneg IntKind.i64 ((i.sdiv 16#64).srem 64#64))
 (cond (decide (((i.sdiv 16#64).sdiv 64#64).toNat < 64))
 (cond (!asU64 ((tg.getD ((i.sdiv 16#64).sdiv 64#64).toNat []).headD AV.any) &&& 1#64 <<< min ((i.sdiv 16#64).srem 64#64).toNat 64 == 0#64)
 (some (Sum.inl (MtgS.s n tg m d 1 1 [[AV.int IntKind.i64 i]] (i + 16#64))))
 (some (Sum.inl (MtgS.z n tg m d (i + 16#64)))))
    none)
   none)
  none)
 (some (Sum.inr (MtgE.z n tg m d))))
 | .s n tg m d k kk g i =>
 (cond (i.slt (BitVec.ofNat 64 n))
 (cond (nonneg IntKind.i64 ((i.sdiv 16#64).sdiv 64#64) && decide (((i.sdiv 16#64).sdiv 64#64).toNat < 64))
 (cond (nonneg IntKind.i64 ((i.sdiv 16#64).srem 64#64))
 (cond (decide (((i.sdiv 16#64).sdiv 64#64).toNat < 64))
 (cond (!asU64 ((tg.getD ((i.sdiv 16#64).sdiv 64#64).toNat []).headD AV.any) &&& 1#64 <<< min ((i.sdiv 16#64).srem 64#64).toNat 64 == 0#64)
 (cond (decide (0 + k ≤ kk) && decide (g.length = kk))
 (cond (true && v_room (k + 1) 8)
 (some (Sum.inl (MtgS.s n tg m d (k + 1) (k + 1) (List.take k (List.drop 0 g) ++ [[AV.int IntKind.i64 i]]) (i + 16#64))))
       none)
      none)
 (some (Sum.inl (MtgS.s n tg m d k kk g (i + 16#64)))))
    none)
   none)
  none)
 (some (Sum.inr (MtgE.s n tg m d k kk g))))
end Go.Sx

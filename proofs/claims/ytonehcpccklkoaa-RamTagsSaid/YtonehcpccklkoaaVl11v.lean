/- What loops do, round by round. -/
import Derived.Test.YtonehcpccklkoaaSxX
import Derived.Test.YtonehcpccklkoaaSxSR
import Derived.Test.YtonehcpccklkoaaSxEC
import Derived.Test.YtonehcpccklkoaaVa03
import Derived.Test.YtonehcpccklkoaaPlRamR
set_option linter.unusedSimpArgs false
set_option linter.unusedVariables false
set_option linter.unnecessarySimpa false
namespace Go.Sx
open Go

/-! ### RamTags: granule by granule -/
inductive MtbS where
  | z (n : Nat) (tg : List (List AV)) (m : Nat) (d : List (List AV)) (t : Nat) (mt : Nat) (T : List (List AV)) (i : BitVec 64)
  | s (n : Nat) (tg : List (List AV)) (m : Nat) (d : List (List AV)) (t : Nat) (mt : Nat) (T : List (List AV)) (k : Nat) (kk : Nat) (g : List (List AV)) (i : BitVec 64)
inductive MtbE where
  | z (n : Nat) (tg : List (List AV)) (m : Nat) (d : List (List AV))
  | s (n : Nat) (tg : List (List AV)) (m : Nat) (d : List (List AV)) (k : Nat) (kk : Nat) (g : List (List AV))
  | bad (nn : Nat) (w : AV)
def mtbT : MtbS → List AV
  | .z _ _ _ _ t _ _ i => [.ptr ⟨1, 0, 0, 0, 0⟩, .slice ⟨3, 0, 0, 1, 0⟩ 1 t, .nilslice, .int .i64 i]
  | .s _ _ _ _ t _ _ k _ _ i => [.ptr ⟨1, 0, 0, 0, 0⟩, .slice ⟨3, 0, 0, 1, 0⟩ 1 t, .slice ⟨4, 0, 0, 1, 0⟩ 1 k, .int .i64 i]
def mtbH : MtbS → Heap
  | .z n tg m d _ mt T _ => [(1, ⟨true, [.cell (.slice ⟨2, 0, 0, 1, 0⟩ 1 n), .arr [.int .u64] 64 tg]⟩), (2, ⟨true, [.arr [.int .u8] m d]⟩), (3, ⟨true, [.arr [.bool] mt T]⟩)]
  | .s n tg m d _ mt T _ kk g _ => [(1, ⟨true, [.cell (.slice ⟨2, 0, 0, 1, 0⟩ 1 n), .arr [.int .u64] 64 tg]⟩), (2, ⟨true, [.arr [.int .u8] m d]⟩), (3, ⟨true, [.arr [.bool] mt T]⟩), (4, ⟨true, [.arr [.int .i64] kk g]⟩)]
def mtbN : MtbS → Nat
  | .z _ _ _ _ _ _ _ _ => 4
  | .s _ _ _ _ _ _ _ _ _ _ _ => 5
def mtbDec (vs : List AV) (H : Heap) (N : Nat) : Option MtbS := match vs, H.find 1, H.find 2, H.find 3, H.find 4, N with
  | [.ptr ⟨1, 0, 0, 0, 0⟩, .slice ⟨3, 0, 0, 1, 0⟩ 1 t, .nilslice, .int .i64 i], some ⟨true, [.cell (.slice ⟨2, 0, 0, 1, 0⟩ 1 n), .arr [.int .u64] 64 tg]⟩, some ⟨true, [.arr [.int .u8] m d]⟩, some ⟨true, [.arr [.bool] mt T]⟩, _, 4 => some (.z n tg m d t mt T i)
  | [.ptr ⟨1, 0, 0, 0, 0⟩, .slice ⟨3, 0, 0, 1, 0⟩ 1 t, .slice ⟨4, 0, 0, 1, 0⟩ 1 k, .int .i64 i], some ⟨true, [.cell (.slice ⟨2, 0, 0, 1, 0⟩ 1 n), .arr [.int .u64] 64 tg]⟩, some ⟨true, [.arr [.int .u8] m d]⟩, some ⟨true, [.arr [.bool] mt T]⟩, some ⟨true, [.arr [.int .i64] kk g]⟩, 5 => some (.s n tg m d t mt T k kk g i)
  | _, _, _, _, _, _ => none
theorem mtbDec_ok (vs : List AV) (H : Heap) (N : Nat) (y : MtbS) (h : mtbDec vs H N = some y) : vs = mtbT y ∧ (mtbH y).sub H ∧ N = mtbN y := by
  unfold mtbDec at h
  split at h
  all_goals first
    | (cases h; done)
    | (cases h; refine ⟨rfl, ?_, rfl⟩; repeat (first | exact sub_nil | refine sub_cons (by assumption) ?_))
def mtbO : MtbE → Out
  | .z _ _ _ _ => .exit 2
  | .s _ _ _ _ _ _ _ => .exit 2
  | .bad _ _ => .ret
def mtbV : MtbE → List AV
  | .z _ _ _ _ => [.any, .ptr ⟨1, 0, 0, 0, 0⟩, .nilslice]
  | .s _ _ _ _ k _ _ => [.any, .ptr ⟨1, 0, 0, 0, 0⟩, .slice ⟨4, 0, 0, 1, 0⟩ 1 k]
  | .bad _ w => [.bool false, .ptr ⟨1, 0, 0, 0, 0⟩, w]
def mtbG : MtbE → Heap
  | .z n tg m d => [(1, ⟨true, [.cell (.slice ⟨2, 0, 0, 1, 0⟩ 1 n), .arr [.int .u64] 64 tg]⟩), (2, ⟨true, [.arr [.int .u8] m d]⟩)]
  | .s n tg m d _ kk g => [(1, ⟨true, [.cell (.slice ⟨2, 0, 0, 1, 0⟩ 1 n), .arr [.int .u64] 64 tg]⟩), (2, ⟨true, [.arr [.int .u8] m d]⟩), (4, ⟨true, [.arr [.int .i64] kk g]⟩)]
  | .bad _ _ => []
def mtbM : MtbE → Nat
  | .z _ _ _ _ => 4
  | .s _ _ _ _ _ _ _ => 5
  | .bad nn _ => nn
def mtbDecE (o : Out) (vs : List AV) (H : Heap) (N : Nat) : Option MtbE := match o, vs, H.find 1, H.find 2, H.find 4, N with
  | .exit 2, [.any, .ptr ⟨1, 0, 0, 0, 0⟩, .nilslice], some ⟨true, [.cell (.slice ⟨2, 0, 0, 1, 0⟩ 1 n), .arr [.int .u64] 64 tg]⟩, some ⟨true, [.arr [.int .u8] m d]⟩, _, 4 => some (.z n tg m d)
  | .exit 2, [.any, .ptr ⟨1, 0, 0, 0, 0⟩, .slice ⟨4, 0, 0, 1, 0⟩ 1 k], some ⟨true, [.cell (.slice ⟨2, 0, 0, 1, 0⟩ 1 n), .arr [.int .u64] 64 tg]⟩, some ⟨true, [.arr [.int .u8] m d]⟩, some ⟨true, [.arr [.int .i64] kk g]⟩, 5 => some (.s n tg m d k kk g)
  | .ret, [.bool false, .ptr ⟨1, 0, 0, 0, 0⟩, w], _, _, _, nn => some (.bad nn w)
  | _, _, _, _, _, _ => none
theorem mtbDecE_ok (o : Out) (vs : List AV) (H : Heap) (N : Nat) (z : MtbE) (h : mtbDecE o vs H N = some z) : o = mtbO z ∧ o ≠ .normal ∧ vs = mtbV z ∧ (mtbG z).sub H ∧ N = mtbM z := by
  unfold mtbDecE at h
  split at h
  all_goals first
    | (cases h; done)
    | (cases h; refine ⟨rfl, nofun, rfl, ?_, rfl⟩; repeat (first | exact sub_nil | refine sub_cons (by assumption) ?_))
noncomputable def mtbStep : MtbS → Option (MtbS ⊕ MtbE)
 | .z n tg m d t mt T i =>
 (cond (i.slt 256#64)
 (cond (g_ram n tg m d)
 (cond (!v_okC n (16#64 * i))
 (some (Sum.inr (MtbE.bad 4 AV.nilslice)))
 (cond (nonneg IntKind.i64 i && decide (i.toNat < t))
 (cond (decide (0 + i.toNat < mt))
 (cond (!v_cT n tg (16#64 * i) == ((T.getD (0 + i.toNat) []).headD AV.any).asBool)
 (some (Sum.inr (MtbE.bad 4 AV.nilslice)))
 (cond (nonneg IntKind.i64 i && decide (i.toNat < t))
 (cond (decide (0 + i.toNat < mt))
 (cond (((T.getD (0 + i.toNat) []).headD AV.any).asBool)
 (some (Sum.inl (MtbS.s n tg m d t mt T 1 1 [[AV.int IntKind.i64 (16#64 * i)]] (i + 1#64))))
 (some (Sum.inl (MtbS.z n tg m d t mt T (i + 1#64)))))
        none)
       none))
     none)
    none))
  none)
 (some (Sum.inr (MtbE.z n tg m d))))
 | .s n tg m d t mt T k kk g i =>
 (cond (i.slt 256#64)
 (cond (g_ram n tg m d)
 (cond (!v_okC n (16#64 * i))
 (some (Sum.inr (MtbE.bad 5 (AV.slice { x := 4, off := 0, i := 0, sz := 1, j := 0 } 1 k))))
 (cond (nonneg IntKind.i64 i && decide (i.toNat < t))
 (cond (decide (0 + i.toNat < mt))
 (cond (!v_cT n tg (16#64 * i) == ((T.getD (0 + i.toNat) []).headD AV.any).asBool)
 (some (Sum.inr (MtbE.bad 5 (AV.slice { x := 4, off := 0, i := 0, sz := 1, j := 0 } 1 k))))
 (cond (nonneg IntKind.i64 i && decide (i.toNat < t))
 (cond (decide (0 + i.toNat < mt))
 (cond (((T.getD (0 + i.toNat) []).headD AV.any).asBool)
 (cond (decide (0 + k ≤ kk) && decide (g.length = kk))
 (cond (true && v_room (k + 1) 8)
 (some (Sum.inl (MtbS.s n tg m d t mt T (k + 1) (k + 1) (List.take k (List.drop 0 g) ++ [[AV.int IntKind.i64 (16#64 * i)]]) (i + 1#64))))
           none)
          none)
 (some (Sum.inl (MtbS.s n tg m d t mt T k kk g (i + 1#64)))))
        none)
       none))
     none)
    none))
  none)
 (some (Sum.inr (MtbE.s n tg m d k kk g))))
end Go.Sx

/- What loops do, round by round. -/
import Derived.Test.YtonehcpccklkoaaSxX
import Derived.Test.YtonehcpccklkoaaSxSR
import Derived.Test.YtonehcpccklkoaaSxEC
import Derived.Test.YtonehcpccklkoaaVa03
import Derived.Test.YtonehcpccklkoaaPlRamR
set_option linter.unusedSimpArgs false
set_option linter.unusedVariables false
set_option linter.unnecessarySimpa false
namespace Go.Sx
open Go

/-! ### RamTags: act by act -/
inductive MtaS where
  | a (rw : Bool) (na : Nat) (ma : Nat) (da : List (List AV)) (n : Nat) (tg : List (List AV)) (m : Nat) (d : List (List AV)) (t : Nat) (mt : Nat) (T : List (List AV)) (i : BitVec 64)
  | z (n : Nat) (tg : List (List AV)) (m : Nat) (d : List (List AV)) (t : Nat) (mt : Nat) (T : List (List AV)) (i : BitVec 64)
inductive MtaE where
  | fine (n : Nat) (tg : List (List AV)) (m : Nat) (d : List (List AV)) (t : Nat) (mt : Nat) (T : List (List AV))
def mtaT : MtaS → List AV
  | .a _ na _ _ _ _ _ _ t _ _ i => [.slice ⟨0, 0, 0, 6, 0⟩ 6 na, .ptr ⟨1, 0, 0, 0, 0⟩, .slice ⟨3, 0, 0, 1, 0⟩ 1 t, .int .i64 i]
  | .z _ _ _ _ t _ _ i => [.nilslice, .ptr ⟨1, 0, 0, 0, 0⟩, .slice ⟨3, 0, 0, 1, 0⟩ 1 t, .int .i64 i]
def mtaH : MtaS → Heap
  | .a rw _ ma da n tg m d _ mt T _ => [(0, ⟨rw, [.arr [.int .i64, .int .i64, .int .i64, .bool, .int .u64, .int .u64] ma da]⟩), (1, ⟨true, [.cell (.slice ⟨2, 0, 0, 1, 0⟩ 1 n), .arr [.int .u64] 64 tg]⟩), (2, ⟨true, [.arr [.int .u8] m d]⟩), (3, ⟨true, [.arr [.bool] mt T]⟩)]
  | .z n tg m d _ mt T _ => [(1, ⟨true, [.cell (.slice ⟨2, 0, 0, 1, 0⟩ 1 n), .arr [.int .u64] 64 tg]⟩), (2, ⟨true, [.arr [.int .u8] m d]⟩), (3, ⟨true, [.arr [.bool] mt T]⟩)]
def mtaN : MtaS → Nat
  | .a _ _ _ _ _ _ _ _ _ _ _ _ => 4
  | .z _ _ _ _ _ _ _ _ => 4
def mtaDec_a (vs : List AV) (H : Heap) (N : Nat) : Option MtaS := match vs, H.find 0, H.find 1, H.find 2, H.find 3, N with
  | [.slice ⟨0, 0, 0, 6, 0⟩ 6 na, .ptr ⟨1, 0, 0, 0, 0⟩, .slice ⟨3, 0, 0, 1, 0⟩ 1 t, .int .i64 i], some ⟨rw, [.arr [.int .i64, .int .i64, .int .i64, .bool, .int .u64, .int .u64] ma da]⟩, some ⟨true, [.cell (.slice ⟨2, 0, 0, 1, 0⟩ 1 n), .arr [.int .u64] 64 tg]⟩, some ⟨true, [.arr [.int .u8] m d]⟩, some ⟨true, [.arr [.bool] mt T]⟩, 4 => some (.a rw na ma da n tg m d t mt T i)
  | _, _, _, _, _, _ => none
theorem mtaDec_a_ok (vs : List AV) (H : Heap) (N : Nat) (y : MtaS) (h : mtaDec_a vs H N = some y) : vs = mtaT y ∧ (mtaH y).sub H ∧ N = mtaN y := by
  unfold mtaDec_a at h
  split at h
  all_goals first
    | (cases h; done)
    | (cases h; refine ⟨rfl, ?_, rfl⟩; repeat (first | exact sub_nil | refine sub_cons (by assumption) ?_))
def mtaDec_z (vs : List AV) (H : Heap) (N : Nat) : Option MtaS := match vs, H.find 1, H.find 2, H.find 3, N with
  | [.nilslice, .ptr ⟨1, 0, 0, 0, 0⟩, .slice ⟨3, 0, 0, 1, 0⟩ 1 t, .int .i64 i], some ⟨true, [.cell (.slice ⟨2, 0, 0, 1, 0⟩ 1 n), .arr [.int .u64] 64 tg]⟩, some ⟨true, [.arr [.int .u8] m d]⟩, some ⟨true, [.arr [.bool] mt T]⟩, 4 => some (.z n tg m d t mt T i)
  | _, _, _, _, _ => none
theorem mtaDec_z_ok (vs : List AV) (H : Heap) (N : Nat) (y : MtaS) (h : mtaDec_z vs H N = some y) : vs = mtaT y ∧ (mtaH y).sub H ∧ N = mtaN y := by
  unfold mtaDec_z at h
  split at h
  all_goals first
    | (cases h; done)
    | (cases h; refine ⟨rfl, ?_, rfl⟩; repeat (first | exact sub_nil | refine sub_cons (by assumption) ?_))
def mtaDec (vs : List AV) (H : Heap) (N : Nat) : Option MtaS := orO (mtaDec_a vs H N) (mtaDec_z vs H N)
theorem mtaDec_ok (vs : List AV) (H : Heap) (N : Nat) (y : MtaS) (h : mtaDec vs H N = some y) : vs = mtaT y ∧ (mtaH y).sub H ∧ N = mtaN y := (orO_some h).elim (fun h => mtaDec_a_ok _ _ _ _ h) (fun h => mtaDec_z_ok _ _ _ _ h)
def mtaO : MtaE → Out
  | .fine _ _ _ _ _ _ _ => .exit 0
def mtaV : MtaE → List AV
  | .fine _ _ _ _ t _ _ => [.ptr ⟨1, 0, 0, 0, 0⟩, .slice ⟨3, 0, 0, 1, 0⟩ 1 t]
def mtaG : MtaE → Heap
  | .fine n tg m d _ mt T => [(1, ⟨true, [.cell (.slice ⟨2, 0, 0, 1, 0⟩ 1 n), .arr [.int .u64] 64 tg]⟩), (2, ⟨true, [.arr [.int .u8] m d]⟩), (3, ⟨true, [.arr [.bool] mt T]⟩)]
def mtaM : MtaE → Nat
  | .fine _ _ _ _ _ _ _ => 4
def mtaDecE (o : Out) (vs : List AV) (H : Heap) (N : Nat) : Option MtaE := match o, vs, H.find 1, H.find 2, H.find 3, N with
  | .exit 0, [.ptr ⟨1, 0, 0, 0, 0⟩, .slice ⟨3, 0, 0, 1, 0⟩ 1 t], some ⟨true, [.cell (.slice ⟨2, 0, 0, 1, 0⟩ 1 n), .arr [.int .u64] 64 tg]⟩, some ⟨true, [.arr [.int .u8] m d]⟩, some ⟨true, [.arr [.bool] mt T]⟩, 4 => some (.fine n tg m d t mt T)
  | _, _, _, _, _, _ => none
theorem mtaDecE_ok (o : Out) (vs : List AV) (H : Heap) (N : Nat) (z : MtaE) (h : mtaDecE o vs H N = some z) : o = mtaO z ∧ o ≠ .normal ∧ vs = mtaV z ∧ (mtaG z).sub H ∧ N = mtaM z := by
  unfold mtaDecE at h
  split at h
  all_goals first
    | (cases h; done)
    | (cases h; refine ⟨rfl, nofun, rfl, ?_, rfl⟩; repeat (first | exact sub_nil | refine sub_cons (by assumption) ?_))
noncomputable def mtaStep : MtaS → Option (MtaS ⊕ MtaE)
 | .a rw na ma da n tg m d t mt T i =>
 (cond (i.slt (BitVec.ofNat 64 na))
 (cond (i.slt 200#64)
 (cond (nonneg IntKind.i64 i && decide (i.toNat < na))
 (cond (decide (0 + i.toNat < ma))
 (cond (v_kit_Pick (asI64 ((da.getD (0 + i.toNat) []).headD AV.any)) 2#64 == 0#64)
 (cond (g_ram n tg m d)
 (cond (v_okC n (asI64 ((da.getD (0 + i.toNat) []).tail.headD AV.any)))
 (cond (nonneg IntKind.i64 ((asI64 ((da.getD (0 + i.toNat) []).tail.headD AV.any)).sdiv 16#64) && decide (((asI64 ((da.getD (0 + i.toNat) []).tail.headD AV.any)).sdiv 16#64).toNat < t))
 (cond (decide (0 + ((asI64 ((da.getD (0 + i.toNat) []).tail.headD AV.any)).sdiv 16#64).toNat < mt) && decide (0 + ((asI64 ((da.getD (0 + i.toNat) []).tail.headD AV.any)).sdiv 16#64).toNat < T.length))
 (some (Sum.inl (MtaS.a rw na ma da n (v_tT n tg (asI64 ((da.getD (0 + i.toNat) []).tail.headD AV.any)) ((da.getD (0 + i.toNat) []).tail.tail.tail.headD AV.any).asBool) m (v_tD n d (asI64 ((da.getD (0 + i.toNat) []).tail.headD AV.any)) (asU64 ((da.getD (0 + i.toNat) []).tail.tail.tail.tail.headD AV.any)) (asU64 ((da.getD (0 + i.toNat) []).tail.tail.tail.tail.tail.headD AV.any))) t mt (T.set (0 + ((asI64 ((da.getD (0 + i.toNat) []).tail.headD AV.any)).sdiv 16#64).toNat) [AV.bool ((da.getD (0 + i.toNat) []).tail.tail.tail.headD AV.any).asBool]) (i + 1#64))))
         none)
        none)
 (some (Sum.inl (MtaS.a rw na ma da n (v_tT n tg (asI64 ((da.getD (0 + i.toNat) []).tail.headD AV.any)) ((da.getD (0 + i.toNat) []).tail.tail.tail.headD AV.any).asBool) m (v_tD n d (asI64 ((da.getD (0 + i.toNat) []).tail.headD AV.any)) (asU64 ((da.getD (0 + i.toNat) []).tail.tail.tail.tail.headD AV.any)) (asU64 ((da.getD (0 + i.toNat) []).tail.tail.tail.tail.tail.headD AV.any))) t mt T (i + 1#64)))))
      none)
 (cond (g_ram n tg m d)
 (cond (v_ok n (asI64 ((da.getD (0 + i.toNat) []).tail.headD AV.any)) (asI64 ((da.getD (0 + i.toNat) []).tail.tail.headD AV.any)))
 (cond (nonneg IntKind.i64 ((asI64 ((da.getD (0 + i.toNat) []).tail.headD AV.any)).sdiv 16#64) && decide (((asI64 ((da.getD (0 + i.toNat) []).tail.headD AV.any)).sdiv 16#64).toNat < t))
 (cond (decide (0 + ((asI64 ((da.getD (0 + i.toNat) []).tail.headD AV.any)).sdiv 16#64).toNat < mt) && decide (0 + ((asI64 ((da.getD (0 + i.toNat) []).tail.headD AV.any)).sdiv 16#64).toNat < T.length))
 (cond (nonneg IntKind.i64 ((asI64 ((da.getD (0 + i.toNat) []).tail.headD AV.any) + asI64 ((da.getD (0 + i.toNat) []).tail.tail.headD AV.any) - 1#64).sdiv 16#64) && decide (((asI64 ((da.getD (0 + i.toNat) []).tail.headD AV.any) + asI64 ((da.getD (0 + i.toNat) []).tail.tail.headD AV.any) - 1#64).sdiv 16#64).toNat < t))
 (cond (decide (0 + ((asI64 ((da.getD (0 + i.toNat) []).tail.headD AV.any) + asI64 ((da.getD (0 + i.toNat) []).tail.tail.headD AV.any) - 1#64).sdiv 16#64).toNat < mt) && decide (0 + ((asI64 ((da.getD (0 + i.toNat) []).tail.headD AV.any) + asI64 ((da.getD (0 + i.toNat) []).tail.tail.headD AV.any) - 1#64).sdiv 16#64).toNat < (T.set (0 + ((asI64 ((da.getD (0 + i.toNat) []).tail.headD AV.any)).sdiv 16#64).toNat) [AV.bool false]).length))
 (some (Sum.inl (MtaS.a rw na ma da n (v_sT n tg (asI64 ((da.getD (0 + i.toNat) []).tail.headD AV.any)) (asI64 ((da.getD (0 + i.toNat) []).tail.tail.headD AV.any))) m (v_sD n d (asI64 ((da.getD (0 + i.toNat) []).tail.headD AV.any)) (asI64 ((da.getD (0 + i.toNat) []).tail.tail.headD AV.any)) (asU64 ((da.getD (0 + i.toNat) []).tail.tail.tail.tail.headD AV.any))) t mt ((T.set (0 + ((asI64 ((da.getD (0 + i.toNat) []).tail.headD AV.any)).sdiv 16#64).toNat) [AV.bool false]).set (0 + ((asI64 ((da.getD (0 + i.toNat) []).tail.headD AV.any) + asI64 ((da.getD (0 + i.toNat) []).tail.tail.headD AV.any) - 1#64).sdiv 16#64).toNat) [AV.bool false]) (i + 1#64))))
           none)
          none)
         none)
        none)
 (some (Sum.inl (MtaS.a rw na ma da n (v_sT n tg (asI64 ((da.getD (0 + i.toNat) []).tail.headD AV.any)) (asI64 ((da.getD (0 + i.toNat) []).tail.tail.headD AV.any))) m (v_sD n d (asI64 ((da.getD (0 + i.toNat) []).tail.headD AV.any)) (asI64 ((da.getD (0 + i.toNat) []).tail.tail.headD AV.any)) (asU64 ((da.getD (0 + i.toNat) []).tail.tail.tail.tail.headD AV.any))) t mt T (i + 1#64)))))
      none))
    none)
   none)
 (some (Sum.inr (MtaE.fine n tg m d t mt T))))
 (some (Sum.inr (MtaE.fine n tg m d t mt T))))
 | .z n tg m d t mt T i =>
 (cond (i.slt 0#64)
 (cond (i.slt 200#64)
  none
 (some (Sum.inr (MtaE.fine n tg m d t mt T))))
 (some (Sum.inr (MtaE.fine n tg m d t mt T))))
end Go.Sx

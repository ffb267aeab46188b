/- What loops do, round by round. -/
import Derived.Test.YtonehcpccklkoaaSxX
import Derived.Test.YtonehcpccklkoaaSxSR
import Derived.Test.YtonehcpccklkoaaSxEC
import Derived.Test.YtonehcpccklkoaaVa03
import Derived.Test.YtonehcpccklkoaaPlRamZ
import Derived.Test.YtonehcpccklkoaaPlRam4
import Derived.Test.YtonehcpccklkoaaPlRamU
set_option linter.unusedSimpArgs false
set_option linter.unusedVariables false
set_option linter.unnecessarySimpa false
namespace Go.Sx
open Go

/-! ### act by act -/
inductive MpaS where
  | a (rw : Bool) (na : Nat) (ma : Nat) (da : List (List AV)) (n : Nat) (tg : List (List AV)) (m : Nat) (d : List (List AV)) (nx : Nat) (t : Nat) (mx : Nat) (dx : List (List AV)) (mt : Nat) (T : List (List AV)) (i : BitVec 64)
  | z (n : Nat) (tg : List (List AV)) (m : Nat) (d : List (List AV)) (nx : Nat) (t : Nat) (mx : Nat) (dx : List (List AV)) (mt : Nat) (T : List (List AV)) (i : BitVec 64)
inductive MpaE where
  | fine (n : Nat) (tg : List (List AV)) (m : Nat) (d : List (List AV)) (nx : Nat) (t : Nat) (mx : Nat) (dx : List (List AV)) (mt : Nat) (T : List (List AV))
  | bad (nn : Nat)
def mpaT : MpaS → List AV
  | .a _ na _ _ _ _ _ _ _ _ _ _ _ _ i => [.slice ⟨1, 0, 0, 6, 0⟩ 6 na, .ptr ⟨2, 0, 0, 0, 0⟩, .ptr ⟨4, 0, 0, 0, 0⟩, .int .i64 i]
  | .z _ _ _ _ _ _ _ _ _ _ i => [.nilslice, .ptr ⟨2, 0, 0, 0, 0⟩, .ptr ⟨4, 0, 0, 0, 0⟩, .int .i64 i]
def mpaH : MpaS → Heap
  | .a rw _ ma da n tg m d nx t mx dx mt T _ => [(1, ⟨rw, [.arr [.int .i64, .int .i64, .int .i64, .bool, .int .u64, .int .u64] ma da]⟩), (2, ⟨true, [.cell (.slice ⟨3, 0, 0, 1, 0⟩ 1 n), .arr [.int .u64] 64 tg]⟩), (3, ⟨true, [.arr [.int .u8] m d]⟩), (4, ⟨true, [.cell (.slice ⟨5, 0, 0, 1, 0⟩ 1 nx), .cell (.slice ⟨6, 0, 0, 1, 0⟩ 1 t)]⟩), (5, ⟨true, [.arr [.int .u8] mx dx]⟩), (6, ⟨true, [.arr [.bool] mt T]⟩)]
  | .z n tg m d nx t mx dx mt T _ => [(2, ⟨true, [.cell (.slice ⟨3, 0, 0, 1, 0⟩ 1 n), .arr [.int .u64] 64 tg]⟩), (3, ⟨true, [.arr [.int .u8] m d]⟩), (4, ⟨true, [.cell (.slice ⟨5, 0, 0, 1, 0⟩ 1 nx), .cell (.slice ⟨6, 0, 0, 1, 0⟩ 1 t)]⟩), (5, ⟨true, [.arr [.int .u8] mx dx]⟩), (6, ⟨true, [.arr [.bool] mt T]⟩)]
def mpaN : MpaS → Nat
  | .a _ _ _ _ _ _ _ _ _ _ _ _ _ _ _ => 7
  | .z _ _ _ _ _ _ _ _ _ _ _ => 7
def mpaDec_a (vs : List AV) (H : Heap) (N : Nat) : Option MpaS := match vs, H.find 1, H.find 2, H.find 3, H.find 4, H.find 5, H.find 6, N with
  | [.slice ⟨1, 0, 0, 6, 0⟩ 6 na, .ptr ⟨2, 0, 0, 0, 0⟩, .ptr ⟨4, 0, 0, 0, 0⟩, .int .i64 i], some ⟨rw, [.arr [.int .i64, .int .i64, .int .i64, .bool, .int .u64, .int .u64] ma da]⟩, some ⟨true, [.cell (.slice ⟨3, 0, 0, 1, 0⟩ 1 n), .arr [.int .u64] 64 tg]⟩, some ⟨true, [.arr [.int .u8] m d]⟩, some ⟨true, [.cell (.slice ⟨5, 0, 0, 1, 0⟩ 1 nx), .cell (.slice ⟨6, 0, 0, 1, 0⟩ 1 t)]⟩, some ⟨true, [.arr [.int .u8] mx dx]⟩, some ⟨true, [.arr [.bool] mt T]⟩, 7 => some (.a rw na ma da n tg m d nx t mx dx mt T i)
  | _, _, _, _, _, _, _, _ => none
theorem mpaDec_a_ok (vs : List AV) (H : Heap) (N : Nat) (y : MpaS) (h : mpaDec_a vs H N = some y) : vs = mpaT y ∧ (mpaH y).sub H ∧ N = mpaN y := by
  unfold mpaDec_a at h
  split at h
  all_goals first
    | (cases h; done)
    | (cases h; refine ⟨rfl, ?_, rfl⟩; repeat (first | exact sub_nil | refine sub_cons (by assumption) ?_))
def mpaDec_z (vs : List AV) (H : Heap) (N : Nat) : Option MpaS := match vs, H.find 2, H.find 3, H.find 4, H.find 5, H.find 6, N with
  | [.nilslice, .ptr ⟨2, 0, 0, 0, 0⟩, .ptr ⟨4, 0, 0, 0, 0⟩, .int .i64 i], some ⟨true, [.cell (.slice ⟨3, 0, 0, 1, 0⟩ 1 n), .arr [.int .u64] 64 tg]⟩, some ⟨true, [.arr [.int .u8] m d]⟩, some ⟨true, [.cell (.slice ⟨5, 0, 0, 1, 0⟩ 1 nx), .cell (.slice ⟨6, 0, 0, 1, 0⟩ 1 t)]⟩, some ⟨true, [.arr [.int .u8] mx dx]⟩, some ⟨true, [.arr [.bool] mt T]⟩, 7 => some (.z n tg m d nx t mx dx mt T i)
  | _, _, _, _, _, _, _ => none
theorem mpaDec_z_ok (vs : List AV) (H : Heap) (N : Nat) (y : MpaS) (h : mpaDec_z vs H N = some y) : vs = mpaT y ∧ (mpaH y).sub H ∧ N = mpaN y := by
  unfold mpaDec_z at h
  split at h
  all_goals first
    | (cases h; done)
    | (cases h; refine ⟨rfl, ?_, rfl⟩; repeat (first | exact sub_nil | refine sub_cons (by assumption) ?_))
def mpaDec (vs : List AV) (H : Heap) (N : Nat) : Option MpaS := orO (mpaDec_a vs H N) (mpaDec_z vs H N)
theorem mpaDec_ok (vs : List AV) (H : Heap) (N : Nat) (y : MpaS) (h : mpaDec vs H N = some y) : vs = mpaT y ∧ (mpaH y).sub H ∧ N = mpaN y := (orO_some h).elim (fun h => mpaDec_a_ok _ _ _ _ h) (fun h => mpaDec_z_ok _ _ _ _ h)
def mpaO : MpaE → Out
  | .fine _ _ _ _ _ _ _ _ _ _ => .exit 0
  | .bad _ => .ret
def mpaV : MpaE → List AV
  | .fine _ _ _ _ _ _ _ _ _ _ => [.any, .ptr ⟨2, 0, 0, 0, 0⟩, .ptr ⟨4, 0, 0, 0, 0⟩]
  | .bad _ => [.bool false, .ptr ⟨2, 0, 0, 0, 0⟩, .ptr ⟨4, 0, 0, 0, 0⟩]
def mpaG : MpaE → Heap
  | .fine n tg m d nx t mx dx mt T => [(2, ⟨true, [.cell (.slice ⟨3, 0, 0, 1, 0⟩ 1 n), .arr [.int .u64] 64 tg]⟩), (3, ⟨true, [.arr [.int .u8] m d]⟩), (4, ⟨true, [.cell (.slice ⟨5, 0, 0, 1, 0⟩ 1 nx), .cell (.slice ⟨6, 0, 0, 1, 0⟩ 1 t)]⟩), (5, ⟨true, [.arr [.int .u8] mx dx]⟩), (6, ⟨true, [.arr [.bool] mt T]⟩)]
  | .bad _ => []
def mpaM : MpaE → Nat
  | .fine _ _ _ _ _ _ _ _ _ _ => 7
  | .bad nn => nn
def mpaDecE (o : Out) (vs : List AV) (H : Heap) (N : Nat) : Option MpaE := match o, vs, H.find 2, H.find 3, H.find 4, H.find 5, H.find 6, N with
  | .exit 0, [.any, .ptr ⟨2, 0, 0, 0, 0⟩, .ptr ⟨4, 0, 0, 0, 0⟩], some ⟨true, [.cell (.slice ⟨3, 0, 0, 1, 0⟩ 1 n), .arr [.int .u64] 64 tg]⟩, some ⟨true, [.arr [.int .u8] m d]⟩, some ⟨true, [.cell (.slice ⟨5, 0, 0, 1, 0⟩ 1 nx), .cell (.slice ⟨6, 0, 0, 1, 0⟩ 1 t)]⟩, some ⟨true, [.arr [.int .u8] mx dx]⟩, some ⟨true, [.arr [.bool] mt T]⟩, 7 => some (.fine n tg m d nx t mx dx mt T)
  | .ret, [.bool false, .ptr ⟨2, 0, 0, 0, 0⟩, .ptr ⟨4, 0, 0, 0, 0⟩], _, _, _, _, _, nn => some (.bad nn)
  | _, _, _, _, _, _, _, _ => none
theorem mpaDecE_ok (o : Out) (vs : List AV) (H : Heap) (N : Nat) (z : MpaE) (h : mpaDecE o vs H N = some z) : o = mpaO z ∧ o ≠ .normal ∧ vs = mpaV z ∧ (mpaG z).sub H ∧ N = mpaM z := by
  unfold mpaDecE at h
  split at h
  all_goals first
    | (cases h; done)
    | (cases h; refine ⟨rfl, nofun, rfl, ?_, rfl⟩; repeat (first | exact sub_nil | refine sub_cons (by assumption) ?_))
noncomputable def mpaStep : MpaS → Option (MpaS ⊕ MpaE)
 | .a rw na ma da n tg m d nx t mx dx mt T i =>
 (cond (i.slt (BitVec.ofNat 64 na))
 (cond (i.slt 200#64)
 (cond (nonneg IntKind.i64 i && decide (i.toNat < na))
 (cond (decide (0 + i.toNat < ma))
 (cond (v_kit_Pick (asI64 ((da.getD (0 + i.toNat) []).headD AV.any)) 4#64 == 0#64)
 (cond (g_ram n tg m d)
 (cond (g_xram nx t mx dx mt T)
 (cond (v_lV n d (asI64 ((da.getD (0 + i.toNat) []).tail.headD AV.any)) (asI64 ((da.getD (0 + i.toNat) []).tail.tail.headD AV.any)) == v_xlV nx dx (asI64 ((da.getD (0 + i.toNat) []).tail.headD AV.any)) (asI64 ((da.getD (0 + i.toNat) []).tail.tail.headD AV.any)))
 (cond (!v_ok n (asI64 ((da.getD (0 + i.toNat) []).tail.headD AV.any)) (asI64 ((da.getD (0 + i.toNat) []).tail.tail.headD AV.any)) == v_ok nx (asI64 ((da.getD (0 + i.toNat) []).tail.headD AV.any)) (asI64 ((da.getD (0 + i.toNat) []).tail.tail.headD AV.any)))
 (some (Sum.inr (MpaE.bad 7)))
 (cond (!BitVec.ofNat 64 n == BitVec.ofNat 64 nx)
 (some (Sum.inr (MpaE.bad 7)))
 (cond (i.srem 20#64 == 0#64)
 (cond (g_tag n tg m d)
 (cond (v_emp (v_tagged tg n))
 (cond (g_xd t mt)
 (cond (v_emp (v_xtagged T t))
 (some (Sum.inl (MpaS.a rw na ma da n tg m d nx t mx dx mt T (i + 1#64))))
 (cond ((v_xtagged T t).length.blt 9223372036854775808)
 (cond (!(v_xtagged T t).length.beq 0)
 (some (Sum.inr (MpaE.bad 8)))
 (some (Sum.inl (MpaS.a rw na ma da n tg m d nx t mx dx mt T (i + 1#64)))))
                none))
              none)
 (cond (g_xd t mt)
 (cond (v_emp (v_xtagged T t))
 (cond ((v_tagged tg n).length.blt 9223372036854775808)
 (cond (!(v_tagged tg n).length.beq 0)
 (some (Sum.inr (MpaE.bad 8)))
 (some (Sum.inl (MpaS.a rw na ma da n tg m d nx t mx dx mt T (i + 1#64)))))
                none)
 (cond (g_ss (v_tagged tg n).length (v_tagged tg n).length (v_xtagged T t).length (v_xtagged T t).length)
 (cond (!v_same (v_tagged tg n) (v_xtagged T t) (v_tagged tg n).length (v_xtagged T t).length)
 (some (Sum.inr (MpaE.bad 9)))
 (some (Sum.inl (MpaS.a rw na ma da n tg m d nx t mx dx mt T (i + 1#64)))))
                none))
              none))
            none)
 (some (Sum.inl (MpaS.a rw na ma da n tg m d nx t mx dx mt T (i + 1#64)))))))
 (some (Sum.inr (MpaE.bad 7))))
       none)
      none)
 (cond (v_kit_Pick (asI64 ((da.getD (0 + i.toNat) []).headD AV.any)) 4#64 == 1#64)
 (cond (g_ram n tg m d)
 (cond (g_xram nx t mx dx mt T)
 (cond (!v_ok n (asI64 ((da.getD (0 + i.toNat) []).tail.headD AV.any)) (asI64 ((da.getD (0 + i.toNat) []).tail.tail.headD AV.any)) == v_ok nx (asI64 ((da.getD (0 + i.toNat) []).tail.headD AV.any)) (asI64 ((da.getD (0 + i.toNat) []).tail.tail.headD AV.any)))
 (some (Sum.inr (MpaE.bad 7)))
 (cond (!BitVec.ofNat 64 n == BitVec.ofNat 64 nx)
 (some (Sum.inr (MpaE.bad 7)))
 (cond (i.srem 20#64 == 0#64)
 (cond (g_tag n (v_sT n tg (asI64 ((da.getD (0 + i.toNat) []).tail.headD AV.any)) (asI64 ((da.getD (0 + i.toNat) []).tail.tail.headD AV.any))) m (v_sD n d (asI64 ((da.getD (0 + i.toNat) []).tail.headD AV.any)) (asI64 ((da.getD (0 + i.toNat) []).tail.tail.headD AV.any)) (asU64 ((da.getD (0 + i.toNat) []).tail.tail.tail.tail.headD AV.any))))
 (cond (v_emp (v_tagged (v_sT n tg (asI64 ((da.getD (0 + i.toNat) []).tail.headD AV.any)) (asI64 ((da.getD (0 + i.toNat) []).tail.tail.headD AV.any))) n))
 (cond (g_xd t mt)
 (cond (v_emp (v_xtagged (v_xsT nx T (asI64 ((da.getD (0 + i.toNat) []).tail.headD AV.any)) (asI64 ((da.getD (0 + i.toNat) []).tail.tail.headD AV.any))) t))
 (some (Sum.inl (MpaS.a rw na ma da n (v_sT n tg (asI64 ((da.getD (0 + i.toNat) []).tail.headD AV.any)) (asI64 ((da.getD (0 + i.toNat) []).tail.tail.headD AV.any))) m (v_sD n d (asI64 ((da.getD (0 + i.toNat) []).tail.headD AV.any)) (asI64 ((da.getD (0 + i.toNat) []).tail.tail.headD AV.any)) (asU64 ((da.getD (0 + i.toNat) []).tail.tail.tail.tail.headD AV.any))) nx t mx (v_sD nx dx (asI64 ((da.getD (0 + i.toNat) []).tail.headD AV.any)) (asI64 ((da.getD (0 + i.toNat) []).tail.tail.headD AV.any)) (asU64 ((da.getD (0 + i.toNat) []).tail.tail.tail.tail.headD AV.any))) mt (v_xsT nx T (asI64 ((da.getD (0 + i.toNat) []).tail.headD AV.any)) (asI64 ((da.getD (0 + i.toNat) []).tail.tail.headD AV.any))) (i + 1#64))))
 (cond ((v_xtagged (v_xsT nx T (asI64 ((da.getD (0 + i.toNat) []).tail.headD AV.any)) (asI64 ((da.getD (0 + i.toNat) []).tail.tail.headD AV.any))) t).length.blt 9223372036854775808)
 (cond (!(v_xtagged (v_xsT nx T (asI64 ((da.getD (0 + i.toNat) []).tail.headD AV.any)) (asI64 ((da.getD (0 + i.toNat) []).tail.tail.headD AV.any))) t).length.beq 0)
 (some (Sum.inr (MpaE.bad 8)))
 (some (Sum.inl (MpaS.a rw na ma da n (v_sT n tg (asI64 ((da.getD (0 + i.toNat) []).tail.headD AV.any)) (asI64 ((da.getD (0 + i.toNat) []).tail.tail.headD AV.any))) m (v_sD n d (asI64 ((da.getD (0 + i.toNat) []).tail.headD AV.any)) (asI64 ((da.getD (0 + i.toNat) []).tail.tail.headD AV.any)) (asU64 ((da.getD (0 + i.toNat) []).tail.tail.tail.tail.headD AV.any))) nx t mx (v_sD nx dx (asI64 ((da.getD (0 + i.toNat) []).tail.headD AV.any)) (asI64 ((da.getD (0 + i.toNat) []).tail.tail.headD AV.any)) (asU64 ((da.getD (0 + i.toNat) []).tail.tail.tail.tail.headD AV.any))) mt (v_xsT nx T (asI64 ((da.getD (0 + i.toNat) []).tail.headD AV.any)) (asI64 ((da.getD (0 + i.toNat) []).tail.tail.headD AV.any))) (i + 1#64)))))
                none))
              none)
 (cond (g_xd t mt)
 (cond (v_emp (v_xtagged (v_xsT nx T (asI64 ((da.getD (0 + i.toNat) []).tail.headD AV.any)) (asI64 ((da.getD (0 + i.toNat) []).tail.tail.headD AV.any))) t))
 (cond ((v_tagged (v_sT n tg (asI64 ((da.getD (0 + i.toNat) []).tail.headD AV.any)) (asI64 ((da.getD (0 + i.toNat) []).tail.tail.headD AV.any))) n).length.blt 9223372036854775808)
 (cond (!(v_tagged (v_sT n tg (asI64 ((da.getD (0 + i.toNat) []).tail.headD AV.any)) (asI64 ((da.getD (0 + i.toNat) []).tail.tail.headD AV.any))) n).length.beq 0)
 (some (Sum.inr (MpaE.bad 8)))
 (some (Sum.inl (MpaS.a rw na ma da n (v_sT n tg (asI64 ((da.getD (0 + i.toNat) []).tail.headD AV.any)) (asI64 ((da.getD (0 + i.toNat) []).tail.tail.headD AV.any))) m (v_sD n d (asI64 ((da.getD (0 + i.toNat) []).tail.headD AV.any)) (asI64 ((da.getD (0 + i.toNat) []).tail.tail.headD AV.any)) (asU64 ((da.getD (0 + i.toNat) []).tail.tail.tail.tail.headD AV.any))) nx t mx (v_sD nx dx (asI64 ((da.getD (0 + i.toNat) []).tail.headD AV.any)) (asI64 ((da.getD (0 + i.toNat) []).tail.tail.headD AV.any)) (asU64 ((da.getD (0 + i.toNat) []).tail.tail.tail.tail.headD AV.any))) mt (v_xsT nx T (asI64 ((da.getD (0 + i.toNat) []).tail.headD AV.any)) (asI64 ((da.getD (0 + i.toNat) []).tail.tail.headD AV.any))) (i + 1#64)))))
                none)
 (cond (g_ss (v_tagged (v_sT n tg (asI64 ((da.getD (0 + i.toNat) []).tail.headD AV.any)) (asI64 ((da.getD (0 + i.toNat) []).tail.tail.headD AV.any))) n).length (v_tagged (v_sT n tg (asI64 ((da.getD (0 + i.toNat) []).tail.headD AV.any)) (asI64 ((da.getD (0 + i.toNat) []).tail.tail.headD AV.any))) n).length (v_xtagged (v_xsT nx T (asI64 ((da.getD (0 + i.toNat) []).tail.headD AV.any)) (asI64 ((da.getD (0 + i.toNat) []).tail.tail.headD AV.any))) t).length (v_xtagged (v_xsT nx T (asI64 ((da.getD (0 + i.toNat) []).tail.headD AV.any)) (asI64 ((da.getD (0 + i.toNat) []).tail.tail.headD AV.any))) t).length)
 (cond (!v_same (v_tagged (v_sT n tg (asI64 ((da.getD (0 + i.toNat) []).tail.headD AV.any)) (asI64 ((da.getD (0 + i.toNat) []).tail.tail.headD AV.any))) n) (v_xtagged (v_xsT nx T (asI64 ((da.getD (0 + i.toNat) []).tail.headD AV.any)) (asI64 ((da.getD (0 + i.toNat) []).tail.tail.headD AV.any))) t) (v_tagged (v_sT n tg (asI64 ((da.getD (0 + i.toNat) []).tail.headD AV.any)) (asI64 ((da.getD (0 + i.toNat) []).tail.tail.headD AV.any))) n).length (v_xtagged (v_xsT nx T (asI64 ((da.getD (0 + i.toNat) []).tail.headD AV.any)) (asI64 ((da.getD (0 + i.toNat) []).tail.tail.headD AV.any))) t).length)
 (some (Sum.inr (MpaE.bad 9)))
 (some (Sum.inl (MpaS.a rw na ma da n (v_sT n tg (asI64 ((da.getD (0 + i.toNat) []).tail.headD AV.any)) (asI64 ((da.getD (0 + i.toNat) []).tail.tail.headD AV.any))) m (v_sD n d (asI64 ((da.getD (0 + i.toNat) []).tail.headD AV.any)) (asI64 ((da.getD (0 + i.toNat) []).tail.tail.headD AV.any)) (asU64 ((da.getD (0 + i.toNat) []).tail.tail.tail.tail.headD AV.any))) nx t mx (v_sD nx dx (asI64 ((da.getD (0 + i.toNat) []).tail.headD AV.any)) (asI64 ((da.getD (0 + i.toNat) []).tail.tail.headD AV.any)) (asU64 ((da.getD (0 + i.toNat) []).tail.tail.tail.tail.headD AV.any))) mt (v_xsT nx T (asI64 ((da.getD (0 + i.toNat) []).tail.headD AV.any)) (asI64 ((da.getD (0 + i.toNat) []).tail.tail.headD AV.any))) (i + 1#64)))))
                none))
              none))
            none)
 (some (Sum.inl (MpaS.a rw na ma da n (v_sT n tg (asI64 ((da.getD (0 + i.toNat) []).tail.headD AV.any)) (asI64 ((da.getD (0 + i.toNat) []).tail.tail.headD AV.any))) m (v_sD n d (asI64 ((da.getD (0 + i.toNat) []).tail.headD AV.any)) (asI64 ((da.getD (0 + i.toNat) []).tail.tail.headD AV.any)) (asU64 ((da.getD (0 + i.toNat) []).tail.tail.tail.tail.headD AV.any))) nx t mx (v_sD nx dx (asI64 ((da.getD (0 + i.toNat) []).tail.headD AV.any)) (asI64 ((da.getD (0 + i.toNat) []).tail.tail.headD AV.any)) (asU64 ((da.getD (0 + i.toNat) []).tail.tail.tail.tail.headD AV.any))) mt (v_xsT nx T (asI64 ((da.getD (0 + i.toNat) []).tail.headD AV.any)) (asI64 ((da.getD (0 + i.toNat) []).tail.tail.headD AV.any))) (i + 1#64)))))))
        none)
       none)
 (cond (v_kit_Pick (asI64 ((da.getD (0 + i.toNat) []).headD AV.any)) 4#64 == 2#64)
 (cond (g_ram n tg m d)
 (cond (g_xram nx t mx dx mt T)
 (cond (v_cT n tg (asI64 ((da.getD (0 + i.toNat) []).tail.headD AV.any)) == v_xcT nx T (asI64 ((da.getD (0 + i.toNat) []).tail.headD AV.any)))
 (cond (v_cX n d (asI64 ((da.getD (0 + i.toNat) []).tail.headD AV.any)) 0 == v_xcX nx dx (asI64 ((da.getD (0 + i.toNat) []).tail.headD AV.any)) 0)
 (cond (v_cX n d (asI64 ((da.getD (0 + i.toNat) []).tail.headD AV.any)) 8 == v_xcX nx dx (asI64 ((da.getD (0 + i.toNat) []).tail.headD AV.any)) 8)
 (cond (!v_okC n (asI64 ((da.getD (0 + i.toNat) []).tail.headD AV.any)) == v_okC nx (asI64 ((da.getD (0 + i.toNat) []).tail.headD AV.any)))
 (some (Sum.inr (MpaE.bad 7)))
 (cond (!BitVec.ofNat 64 n == BitVec.ofNat 64 nx)
 (some (Sum.inr (MpaE.bad 7)))
 (cond (i.srem 20#64 == 0#64)
 (cond (g_tag n tg m d)
 (cond (v_emp (v_tagged tg n))
 (cond (g_xd t mt)
 (cond (v_emp (v_xtagged T t))
 (some (Sum.inl (MpaS.a rw na ma da n tg m d nx t mx dx mt T (i + 1#64))))
 (cond ((v_xtagged T t).length.blt 9223372036854775808)
 (cond (!(v_xtagged T t).length.beq 0)
 (some (Sum.inr (MpaE.bad 8)))
 (some (Sum.inl (MpaS.a rw na ma da n tg m d nx t mx dx mt T (i + 1#64)))))
                    none))
                  none)
 (cond (g_xd t mt)
 (cond (v_emp (v_xtagged T t))
 (cond ((v_tagged tg n).length.blt 9223372036854775808)
 (cond (!(v_tagged tg n).length.beq 0)
 (some (Sum.inr (MpaE.bad 8)))
 (some (Sum.inl (MpaS.a rw na ma da n tg m d nx t mx dx mt T (i + 1#64)))))
                    none)
 (cond (g_ss (v_tagged tg n).length (v_tagged tg n).length (v_xtagged T t).length (v_xtagged T t).length)
 (cond (!v_same (v_tagged tg n) (v_xtagged T t) (v_tagged tg n).length (v_xtagged T t).length)
 (some (Sum.inr (MpaE.bad 9)))
 (some (Sum.inl (MpaS.a rw na ma da n tg m d nx t mx dx mt T (i + 1#64)))))
                    none))
                  none))
                none)
 (some (Sum.inl (MpaS.a rw na ma da n tg m d nx t mx dx mt T (i + 1#64)))))))
 (some (Sum.inr (MpaE.bad 7))))
 (some (Sum.inr (MpaE.bad 7))))
 (some (Sum.inr (MpaE.bad 7))))
         none)
        none)
 (cond (g_ram n tg m d)
 (cond (g_xram nx t mx dx mt T)
 (cond (!v_okC n (asI64 ((da.getD (0 + i.toNat) []).tail.headD AV.any)) == v_okC nx (asI64 ((da.getD (0 + i.toNat) []).tail.headD AV.any)))
 (some (Sum.inr (MpaE.bad 7)))
 (cond (!BitVec.ofNat 64 n == BitVec.ofNat 64 nx)
 (some (Sum.inr (MpaE.bad 7)))
 (cond (i.srem 20#64 == 0#64)
 (cond (g_tag n (v_tT n tg (asI64 ((da.getD (0 + i.toNat) []).tail.headD AV.any)) ((da.getD (0 + i.toNat) []).tail.tail.tail.headD AV.any).asBool) m (v_tD n d (asI64 ((da.getD (0 + i.toNat) []).tail.headD AV.any)) (asU64 ((da.getD (0 + i.toNat) []).tail.tail.tail.tail.headD AV.any)) (asU64 ((da.getD (0 + i.toNat) []).tail.tail.tail.tail.tail.headD AV.any))))
 (cond (v_emp (v_tagged (v_tT n tg (asI64 ((da.getD (0 + i.toNat) []).tail.headD AV.any)) ((da.getD (0 + i.toNat) []).tail.tail.tail.headD AV.any).asBool) n))
 (cond (g_xd t mt)
 (cond (v_emp (v_xtagged (v_xtT nx T (asI64 ((da.getD (0 + i.toNat) []).tail.headD AV.any)) ((da.getD (0 + i.toNat) []).tail.tail.tail.headD AV.any).asBool) t))
 (some (Sum.inl (MpaS.a rw na ma da n (v_tT n tg (asI64 ((da.getD (0 + i.toNat) []).tail.headD AV.any)) ((da.getD (0 + i.toNat) []).tail.tail.tail.headD AV.any).asBool) m (v_tD n d (asI64 ((da.getD (0 + i.toNat) []).tail.headD AV.any)) (asU64 ((da.getD (0 + i.toNat) []).tail.tail.tail.tail.headD AV.any)) (asU64 ((da.getD (0 + i.toNat) []).tail.tail.tail.tail.tail.headD AV.any))) nx t mx (v_tD nx dx (asI64 ((da.getD (0 + i.toNat) []).tail.headD AV.any)) (asU64 ((da.getD (0 + i.toNat) []).tail.tail.tail.tail.headD AV.any)) (asU64 ((da.getD (0 + i.toNat) []).tail.tail.tail.tail.tail.headD AV.any))) mt (v_xtT nx T (asI64 ((da.getD (0 + i.toNat) []).tail.headD AV.any)) ((da.getD (0 + i.toNat) []).tail.tail.tail.headD AV.any).asBool) (i + 1#64))))
 (cond ((v_xtagged (v_xtT nx T (asI64 ((da.getD (0 + i.toNat) []).tail.headD AV.any)) ((da.getD (0 + i.toNat) []).tail.tail.tail.headD AV.any).asBool) t).length.blt 9223372036854775808)
 (cond (!(v_xtagged (v_xtT nx T (asI64 ((da.getD (0 + i.toNat) []).tail.headD AV.any)) ((da.getD (0 + i.toNat) []).tail.tail.tail.headD AV.any).asBool) t).length.beq 0)
 (some (Sum.inr (MpaE.bad 8)))
 (some (Sum.inl (MpaS.a rw na ma da n (v_tT n tg (asI64 ((da.getD (0 + i.toNat) []).tail.headD AV.any)) ((da.getD (0 + i.toNat) []).tail.tail.tail.headD AV.any).asBool) m (v_tD n d (asI64 ((da.getD (0 + i.toNat) []).tail.headD AV.any)) (asU64 ((da.getD (0 + i.toNat) []).tail.tail.tail.tail.headD AV.any)) (asU64 ((da.getD (0 + i.toNat) []).tail.tail.tail.tail.tail.headD AV.any))) nx t mx (v_tD nx dx (asI64 ((da.getD (0 + i.toNat) []).tail.headD AV.any)) (asU64 ((da.getD (0 + i.toNat) []).tail.tail.tail.tail.headD AV.any)) (asU64 ((da.getD (0 + i.toNat) []).tail.tail.tail.tail.tail.headD AV.any))) mt (v_xtT nx T (asI64 ((da.getD (0 + i.toNat) []).tail.headD AV.any)) ((da.getD (0 + i.toNat) []).tail.tail.tail.headD AV.any).asBool) (i + 1#64)))))
                 none))
               none)
 (cond (g_xd t mt)
 (cond (v_emp (v_xtagged (v_xtT nx T (asI64 ((da.getD (0 + i.toNat) []).tail.headD AV.any)) ((da.getD (0 + i.toNat) []).tail.tail.tail.headD AV.any).asBool) t))
 (cond ((v_tagged (v_tT n tg (asI64 ((da.getD (0 + i.toNat) []).tail.headD AV.any)) ((da.getD (0 + i.toNat) []).tail.tail.tail.headD AV.any).asBool) n).length.blt 9223372036854775808)
 (cond (!(v_tagged (v_tT n tg (asI64 ((da.getD (0 + i.toNat) []).tail.headD AV.any)) ((da.getD (0 + i.toNat) []).tail.tail.tail.headD AV.any).asBool) n).length.beq 0)
 (some (Sum.inr (MpaE.bad 8)))
 (some (Sum.inl (MpaS.a rw na ma da n (v_tT n tg (asI64 ((da.getD (0 + i.toNat) []).tail.headD AV.any)) ((da.getD (0 + i.toNat) []).tail.tail.tail.headD AV.any).asBool) m (v_tD n d (asI64 ((da.getD (0 + i.toNat) []).tail.headD AV.any)) (asU64 ((da.getD (0 + i.toNat) []).tail.tail.tail.tail.headD AV.any)) (asU64 ((da.getD (0 + i.toNat) []).tail.tail.tail.tail.tail.headD AV.any))) nx t mx (v_tD nx dx (asI64 ((da.getD (0 + i.toNat) []).tail.headD AV.any)) (asU64 ((da.getD (0 + i.toNat) []).tail.tail.tail.tail.headD AV.any)) (asU64 ((da.getD (0 + i.toNat) []).tail.tail.tail.tail.tail.headD AV.any))) mt (v_xtT nx T (asI64 ((da.getD (0 + i.toNat) []).tail.headD AV.any)) ((da.getD (0 + i.toNat) []).tail.tail.tail.headD AV.any).asBool) (i + 1#64)))))
                 none)
 (cond (g_ss (v_tagged (v_tT n tg (asI64 ((da.getD (0 + i.toNat) []).tail.headD AV.any)) ((da.getD (0 + i.toNat) []).tail.tail.tail.headD AV.any).asBool) n).length (v_tagged (v_tT n tg (asI64 ((da.getD (0 + i.toNat) []).tail.headD AV.any)) ((da.getD (0 + i.toNat) []).tail.tail.tail.headD AV.any).asBool) n).length (v_xtagged (v_xtT nx T (asI64 ((da.getD (0 + i.toNat) []).tail.headD AV.any)) ((da.getD (0 + i.toNat) []).tail.tail.tail.headD AV.any).asBool) t).length (v_xtagged (v_xtT nx T (asI64 ((da.getD (0 + i.toNat) []).tail.headD AV.any)) ((da.getD (0 + i.toNat) []).tail.tail.tail.headD AV.any).asBool) t).length)
 (cond (!v_same (v_tagged (v_tT n tg (asI64 ((da.getD (0 + i.toNat) []).tail.headD AV.any)) ((da.getD (0 + i.toNat) []).tail.tail.tail.headD AV.any).asBool) n) (v_xtagged (v_xtT nx T (asI64 ((da.getD (0 + i.toNat) []).tail.headD AV.any)) ((da.getD (0 + i.toNat) []).tail.tail.tail.headD AV.any).asBool) t) (v_tagged (v_tT n tg (asI64 ((da.getD (0 + i.toNat) []).tail.headD AV.any)) ((da.getD (0 + i.toNat) []).tail.tail.tail.headD AV.any).asBool) n).length (v_xtagged (v_xtT nx T (asI64 ((da.getD (0 + i.toNat) []).tail.headD AV.any)) ((da.getD (0 + i.toNat) []).tail.tail.tail.headD AV.any).asBool) t).length)
 (some (Sum.inr (MpaE.bad 9)))
 (some (Sum.inl (MpaS.a rw na ma da n (v_tT n tg (asI64 ((da.getD (0 + i.toNat) []).tail.headD AV.any)) ((da.getD (0 + i.toNat) []).tail.tail.tail.headD AV.any).asBool) m (v_tD n d (asI64 ((da.getD (0 + i.toNat) []).tail.headD AV.any)) (asU64 ((da.getD (0 + i.toNat) []).tail.tail.tail.tail.headD AV.any)) (asU64 ((da.getD (0 + i.toNat) []).tail.tail.tail.tail.tail.headD AV.any))) nx t mx (v_tD nx dx (asI64 ((da.getD (0 + i.toNat) []).tail.headD AV.any)) (asU64 ((da.getD (0 + i.toNat) []).tail.tail.tail.tail.headD AV.any)) (asU64 ((da.getD (0 + i.toNat) []).tail.tail.tail.tail.tail.headD AV.any))) mt (v_xtT nx T (asI64 ((da.getD (0 + i.toNat) []).tail.headD AV.any)) ((da.getD (0 + i.toNat) []).tail.tail.tail.headD AV.any).asBool) (i + 1#64)))))
                 none))
               none))
             none)
 (some (Sum.inl (MpaS.a rw na ma da n (v_tT n tg (asI64 ((da.getD (0 + i.toNat) []).tail.headD AV.any)) ((da.getD (0 + i.toNat) []).tail.tail.tail.headD AV.any).asBool) m (v_tD n d (asI64 ((da.getD (0 + i.toNat) []).tail.headD AV.any)) (asU64 ((da.getD (0 + i.toNat) []).tail.tail.tail.tail.headD AV.any)) (asU64 ((da.getD (0 + i.toNat) []).tail.tail.tail.tail.tail.headD AV.any))) nx t mx (v_tD nx dx (asI64 ((da.getD (0 + i.toNat) []).tail.headD AV.any)) (asU64 ((da.getD (0 + i.toNat) []).tail.tail.tail.tail.headD AV.any)) (asU64 ((da.getD (0 + i.toNat) []).tail.tail.tail.tail.tail.headD AV.any))) mt (v_xtT nx T (asI64 ((da.getD (0 + i.toNat) []).tail.headD AV.any)) ((da.getD (0 + i.toNat) []).tail.tail.tail.headD AV.any).asBool) (i + 1#64)))))))
         none)
        none))))
    none)
   none)
 (some (Sum.inr (MpaE.fine n tg m d nx t mx dx mt T))))
 (some (Sum.inr (MpaE.fine n tg m d nx t mx dx mt T))))
 | .z n tg m d nx t mx dx mt T i =>
 (cond (i.slt 0#64)
 (cond (i.slt 200#64)
  none
 (some (Sum.inr (MpaE.fine n tg m d nx t mx dx mt T))))
 (some (Sum.inr (MpaE.fine n tg m d nx t mx dx mt T))))
end Go.Sx

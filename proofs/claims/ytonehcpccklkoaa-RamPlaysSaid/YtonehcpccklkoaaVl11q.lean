/- What loops do, round by round. -/
import Derived.Test.YtonehcpccklkoaaSxX
import Derived.Test.YtonehcpccklkoaaSxSR
import Derived.Test.YtonehcpccklkoaaSxEC
import Derived.Test.YtonehcpccklkoaaVa03
import Derived.Test.YtonehcpccklkoaaPlRamZ
import Derived.Test.YtonehcpccklkoaaPlRam4
import Derived.Test.YtonehcpccklkoaaPlRamU
set_option linter.unusedSimpArgs false
set_option linter.unusedVariables false
set_option linter.unnecessarySimpa false
namespace Go.Sx
open Go

/-! ### all bytes -/
inductive MpbS where
  | a (n : Nat) (tg : List (List AV)) (m : Nat) (d : List (List AV)) (nx : Nat) (t : Nat) (mx : Nat) (dx : List (List AV)) (mt : Nat) (T : List (List AV)) (off : BitVec 64)
inductive MpbE where
  | fine (n : Nat) (tg : List (List AV)) (m : Nat) (d : List (List AV)) (nx : Nat) (t : Nat) (mx : Nat) (dx : List (List AV)) (mt : Nat) (T : List (List AV))
  | bad 
def mpbT : MpbS → List AV
  | .a _ _ _ _ _ _ _ _ _ _ off => [.ptr ⟨2, 0, 0, 0, 0⟩, .ptr ⟨4, 0, 0, 0, 0⟩, .int .i64 off]
def mpbH : MpbS → Heap
  | .a n tg m d nx t mx dx mt T _ => [(2, ⟨true, [.cell (.slice ⟨3, 0, 0, 1, 0⟩ 1 n), .arr [.int .u64] 64 tg]⟩), (3, ⟨true, [.arr [.int .u8] m d]⟩), (4, ⟨true, [.cell (.slice ⟨5, 0, 0, 1, 0⟩ 1 nx), .cell (.slice ⟨6, 0, 0, 1, 0⟩ 1 t)]⟩), (5, ⟨true, [.arr [.int .u8] mx dx]⟩), (6, ⟨true, [.arr [.bool] mt T]⟩)]
def mpbN : MpbS → Nat
  | .a _ _ _ _ _ _ _ _ _ _ _ => 7
def mpbDec (vs : List AV) (H : Heap) (N : Nat) : Option MpbS := match vs, H.find 2, H.find 3, H.find 4, H.find 5, H.find 6, N with
  | [.ptr ⟨2, 0, 0, 0, 0⟩, .ptr ⟨4, 0, 0, 0, 0⟩, .int .i64 off], some ⟨true, [.cell (.slice ⟨3, 0, 0, 1, 0⟩ 1 n), .arr [.int .u64] 64 tg]⟩, some ⟨true, [.arr [.int .u8] m d]⟩, some ⟨true, [.cell (.slice ⟨5, 0, 0, 1, 0⟩ 1 nx), .cell (.slice ⟨6, 0, 0, 1, 0⟩ 1 t)]⟩, some ⟨true, [.arr [.int .u8] mx dx]⟩, some ⟨true, [.arr [.bool] mt T]⟩, 7 => some (.a n tg m d nx t mx dx mt T off)
  | _, _, _, _, _, _, _ => none
theorem mpbDec_ok (vs : List AV) (H : Heap) (N : Nat) (y : MpbS) (h : mpbDec vs H N = some y) : vs = mpbT y ∧ (mpbH y).sub H ∧ N = mpbN y := by
  unfold mpbDec at h
  split at h
  all_goals first
    | (cases h; done)
    | (cases h; refine ⟨rfl, ?_, rfl⟩; repeat (first | exact sub_nil | refine sub_cons (by assumption) ?_))
def mpbO : MpbE → Out
  | .fine _ _ _ _ _ _ _ _ _ _ => .exit 2
  | .bad => .ret
def mpbV : MpbE → List AV
  | .fine _ _ _ _ _ _ _ _ _ _ => [.any, .ptr ⟨2, 0, 0, 0, 0⟩, .ptr ⟨4, 0, 0, 0, 0⟩]
  | .bad => [.bool false, .ptr ⟨2, 0, 0, 0, 0⟩, .ptr ⟨4, 0, 0, 0, 0⟩]
def mpbG : MpbE → Heap
  | .fine n tg m d nx t mx dx mt T => [(2, ⟨true, [.cell (.slice ⟨3, 0, 0, 1, 0⟩ 1 n), .arr [.int .u64] 64 tg]⟩), (3, ⟨true, [.arr [.int .u8] m d]⟩), (4, ⟨true, [.cell (.slice ⟨5, 0, 0, 1, 0⟩ 1 nx), .cell (.slice ⟨6, 0, 0, 1, 0⟩ 1 t)]⟩), (5, ⟨true, [.arr [.int .u8] mx dx]⟩), (6, ⟨true, [.arr [.bool] mt T]⟩)]
  | .bad => []
def mpbM : MpbE → Nat
  | .fine _ _ _ _ _ _ _ _ _ _ => 7
  | .bad => 7
def mpbDecE (o : Out) (vs : List AV) (H : Heap) (N : Nat) : Option MpbE := match o, vs, H.find 2, H.find 3, H.find 4, H.find 5, H.find 6, N with
  | .exit 2, [.any, .ptr ⟨2, 0, 0, 0, 0⟩, .ptr ⟨4, 0, 0, 0, 0⟩], some ⟨true, [.cell (.slice ⟨3, 0, 0, 1, 0⟩ 1 n), .arr [.int .u64] 64 tg]⟩, some ⟨true, [.arr [.int .u8] m d]⟩, some ⟨true, [.cell (.slice ⟨5, 0, 0, 1, 0⟩ 1 nx), .cell (.slice ⟨6, 0, 0, 1, 0⟩ 1 t)]⟩, some ⟨true, [.arr [.int .u8] mx dx]⟩, some ⟨true, [.arr [.bool] mt T]⟩, 7 => some (.fine n tg m d nx t mx dx mt T)
  | .ret, [.bool false, .ptr ⟨2, 0, 0, 0, 0⟩, .ptr ⟨4, 0, 0, 0, 0⟩], _, _, _, _, _, 7 => some (.bad)
  | _, _, _, _, _, _, _, _ => none
theorem mpbDecE_ok (o : Out) (vs : List AV) (H : Heap) (N : Nat) (z : MpbE) (h : mpbDecE o vs H N = some z) : o = mpbO z ∧ o ≠ .normal ∧ vs = mpbV z ∧ (mpbG z).sub H ∧ N = mpbM z := by
  unfold mpbDecE at h
  split at h
  all_goals first
    | (cases h; done)
    | (cases h; refine ⟨rfl, nofun, rfl, ?_, rfl⟩; repeat (first | exact sub_nil | refine sub_cons (by assumption) ?_))
noncomputable def mpbStep : MpbS → Option (MpbS ⊕ MpbE)
 | .a n tg m d nx t mx dx mt T off =>
 (cond (off.slt (BitVec.ofNat 64 nx))
 (cond (g_ram n tg m d)
 (cond (g_xram nx t mx dx mt T)
 (cond (!v_ok n off 8#64)
 (some (Sum.inr MpbE.bad))
 (cond (!v_lV n d off 8#64 == v_xlV nx dx off 8#64)
 (some (Sum.inr MpbE.bad))
 (some (Sum.inl (MpbS.a n tg m d nx t mx dx mt T (off + 8#64))))))
   none)
  none)
 (some (Sum.inr (MpbE.fine n tg m d nx t mx dx mt T))))
end Go.Sx

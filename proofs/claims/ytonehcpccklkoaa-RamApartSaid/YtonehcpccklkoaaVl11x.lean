/- What loops do, round by round. -/
import Derived.Test.YtonehcpccklkoaaSxX
import Derived.Test.YtonehcpccklkoaaSxSR
import Derived.Test.YtonehcpccklkoaaSxEC
import Derived.Test.YtonehcpccklkoaaVa03
import Derived.Test.YtonehcpccklkoaaPlRamR
set_option linter.unusedSimpArgs false
set_option linter.unusedVariables false
set_option linter.unnecessarySimpa false
namespace Go.Sx
open Go

/-! ### RamApart: the same bytes -/
inductive MrxS where
  | a (n : Nat) (tg : List (List AV)) (m : Nat) (d : List (List AV)) (n2 : Nat) (tg2 : List (List AV)) (m2 : Nat) (d2 : List (List AV)) (x : BitVec 64) (y : BitVec 64) (at_ : BitVec 64) (to : BitVec 64) (gg : BitVec 64) (i : BitVec 64)
inductive MrxE where
  | fine (n : Nat) (tg : List (List AV)) (m : Nat) (d : List (List AV)) (x : BitVec 64) (y : BitVec 64) (at_ : BitVec 64) (to : BitVec 64) (gg : BitVec 64)
  | bad (x : BitVec 64) (y : BitVec 64) (at_ : BitVec 64) (to : BitVec 64) (gg : BitVec 64)
def mrxT : MrxS → List AV
  | .a _ _ _ _ _ _ _ _ x y at_ to gg i => [.ptr ⟨4, 0, 0, 0, 0⟩, .ptr ⟨6, 0, 0, 0, 0⟩, .int .i64 x, .int .i64 y, .int .i64 at_, .int .i64 to, .int .i64 gg, .int .i64 i]
def mrxH : MrxS → Heap
  | .a n tg m d n2 tg2 m2 d2 _ _ _ _ _ _ => [(4, ⟨true, [.cell (.slice ⟨5, 0, 0, 1, 0⟩ 1 n), .arr [.int .u64] 64 tg]⟩), (5, ⟨true, [.arr [.int .u8] m d]⟩), (6, ⟨true, [.cell (.slice ⟨7, 0, 0, 1, 0⟩ 1 n2), .arr [.int .u64] 64 tg2]⟩), (7, ⟨true, [.arr [.int .u8] m2 d2]⟩)]
def mrxN : MrxS → Nat
  | .a _ _ _ _ _ _ _ _ _ _ _ _ _ _ => 11
def mrxDec (vs : List AV) (H : Heap) (N : Nat) : Option MrxS := match vs, H.find 4, H.find 5, H.find 6, H.find 7, N with
  | [.ptr ⟨4, 0, 0, 0, 0⟩, .ptr ⟨6, 0, 0, 0, 0⟩, .int .i64 x, .int .i64 y, .int .i64 at_, .int .i64 to, .int .i64 gg, .int .i64 i], some ⟨true, [.cell (.slice ⟨5, 0, 0, 1, 0⟩ 1 n), .arr [.int .u64] 64 tg]⟩, some ⟨true, [.arr [.int .u8] m d]⟩, some ⟨true, [.cell (.slice ⟨7, 0, 0, 1, 0⟩ 1 n2), .arr [.int .u64] 64 tg2]⟩, some ⟨true, [.arr [.int .u8] m2 d2]⟩, 11 => some (.a n tg m d n2 tg2 m2 d2 x y at_ to gg i)
  | _, _, _, _, _, _ => none
theorem mrxDec_ok (vs : List AV) (H : Heap) (N : Nat) (y : MrxS) (h : mrxDec vs H N = some y) : vs = mrxT y ∧ (mrxH y).sub H ∧ N = mrxN y := by
  unfold mrxDec at h
  split at h
  all_goals first
    | (cases h; done)
    | (cases h; refine ⟨rfl, ?_, rfl⟩; repeat (first | exact sub_nil | refine sub_cons (by assumption) ?_))
def mrxO : MrxE → Out
  | .fine _ _ _ _ _ _ _ _ _ => .exit 0
  | .bad _ _ _ _ _ => .ret
def mrxV : MrxE → List AV
  | .fine _ _ _ _ x y at_ to gg => [.any, .ptr ⟨4, 0, 0, 0, 0⟩, .int .i64 x, .int .i64 y, .int .i64 at_, .int .i64 to, .int .i64 gg]
  | .bad x y at_ to gg => [.bool false, .ptr ⟨4, 0, 0, 0, 0⟩, .int .i64 x, .int .i64 y, .int .i64 at_, .int .i64 to, .int .i64 gg]
def mrxG : MrxE → Heap
  | .fine n tg m d _ _ _ _ _ => [(4, ⟨true, [.cell (.slice ⟨5, 0, 0, 1, 0⟩ 1 n), .arr [.int .u64] 64 tg]⟩), (5, ⟨true, [.arr [.int .u8] m d]⟩)]
  | .bad _ _ _ _ _ => []
def mrxM : MrxE → Nat
  | .fine _ _ _ _ _ _ _ _ _ => 11
  | .bad _ _ _ _ _ => 11
def mrxDecE (o : Out) (vs : List AV) (H : Heap) (N : Nat) : Option MrxE := match o, vs, H.find 4, H.find 5, N with
  | .exit 0, [.any, .ptr ⟨4, 0, 0, 0, 0⟩, .int .i64 x, .int .i64 y, .int .i64 at_, .int .i64 to, .int .i64 gg], some ⟨true, [.cell (.slice ⟨5, 0, 0, 1, 0⟩ 1 n), .arr [.int .u64] 64 tg]⟩, some ⟨true, [.arr [.int .u8] m d]⟩, 11 => some (.fine n tg m d x y at_ to gg)
  | .ret, [.bool false, .ptr ⟨4, 0, 0, 0, 0⟩, .int .i64 x, .int .i64 y, .int .i64 at_, .int .i64 to, .int .i64 gg], _, _, 11 => some (.bad x y at_ to gg)
  | _, _, _, _, _ => none
theorem mrxDecE_ok (o : Out) (vs : List AV) (H : Heap) (N : Nat) (z : MrxE) (h : mrxDecE o vs H N = some z) : o = mrxO z ∧ o ≠ .normal ∧ vs = mrxV z ∧ (mrxG z).sub H ∧ N = mrxM z := by
  unfold mrxDecE at h
  split at h
  all_goals first
    | (cases h; done)
    | (cases h; refine ⟨rfl, nofun, rfl, ?_, rfl⟩; repeat (first | exact sub_nil | refine sub_cons (by assumption) ?_))
noncomputable def mrxStep : MrxS → Option (MrxS ⊕ MrxE)
 | .a n tg m d n2 tg2 m2 d2 x y at_ to gg i =>
 (cond (i.slt 4096#64)
 (cond (g_ram n tg m d)
 (cond (g_ram n2 tg2 m2 d2)
 (cond (!v_lV n d i 8#64 == v_lV n2 d2 i 8#64)
 (some (Sum.inr (MrxE.bad x y at_ to gg)))
 (some (Sum.inl (MrxS.a n tg m d n2 tg2 m2 d2 x y at_ to gg (i + 8#64)))))
   none)
  none)
 (some (Sum.inr (MrxE.fine n tg m d x y at_ to gg))))

/-! ### RamApart: the same bytes -/
inductive MraS where
  | a (n : Nat) (tg : List (List AV)) (m : Nat) (d : List (List AV)) (n2 : Nat) (tg2 : List (List AV)) (m2 : Nat) (d2 : List (List AV)) (x : BitVec 64) (y : BitVec 64) (at_ : BitVec 64) (to : BitVec 64) (gg : BitVec 64) (i : BitVec 64)
inductive MraE where
  | fine (n : Nat) (tg : List (List AV)) (m : Nat) (d : List (List AV)) (x : BitVec 64) (y : BitVec 64) (at_ : BitVec 64) (to : BitVec 64) (gg : BitVec 64)
  | bad (x : BitVec 64) (y : BitVec 64) (at_ : BitVec 64) (to : BitVec 64) (gg : BitVec 64)
def mraT : MraS → List AV
  | .a _ _ _ _ _ _ _ _ x y at_ to gg i => [.ptr ⟨4, 0, 0, 0, 0⟩, .ptr ⟨6, 0, 0, 0, 0⟩, .int .i64 x, .int .i64 y, .int .i64 at_, .int .i64 to, .int .i64 gg, .int .i64 i]
def mraH : MraS → Heap
  | .a n tg m d n2 tg2 m2 d2 _ _ _ _ _ _ => [(4, ⟨true, [.cell (.slice ⟨5, 0, 0, 1, 0⟩ 1 n), .arr [.int .u64] 64 tg]⟩), (5, ⟨true, [.arr [.int .u8] m d]⟩), (6, ⟨true, [.cell (.slice ⟨7, 0, 0, 1, 0⟩ 1 n2), .arr [.int .u64] 64 tg2]⟩), (7, ⟨true, [.arr [.int .u8] m2 d2]⟩)]
def mraN : MraS → Nat
  | .a _ _ _ _ _ _ _ _ _ _ _ _ _ _ => 9
def mraDec (vs : List AV) (H : Heap) (N : Nat) : Option MraS := match vs, H.find 4, H.find 5, H.find 6, H.find 7, N with
  | [.ptr ⟨4, 0, 0, 0, 0⟩, .ptr ⟨6, 0, 0, 0, 0⟩, .int .i64 x, .int .i64 y, .int .i64 at_, .int .i64 to, .int .i64 gg, .int .i64 i], some ⟨true, [.cell (.slice ⟨5, 0, 0, 1, 0⟩ 1 n), .arr [.int .u64] 64 tg]⟩, some ⟨true, [.arr [.int .u8] m d]⟩, some ⟨true, [.cell (.slice ⟨7, 0, 0, 1, 0⟩ 1 n2), .arr [.int .u64] 64 tg2]⟩, some ⟨true, [.arr [.int .u8] m2 d2]⟩, 9 => some (.a n tg m d n2 tg2 m2 d2 x y at_ to gg i)
  | _, _, _, _, _, _ => none
theorem mraDec_ok (vs : List AV) (H : Heap) (N : Nat) (y : MraS) (h : mraDec vs H N = some y) : vs = mraT y ∧ (mraH y).sub H ∧ N = mraN y := by
  unfold mraDec at h
  split at h
  all_goals first
    | (cases h; done)
    | (cases h; refine ⟨rfl, ?_, rfl⟩; repeat (first | exact sub_nil | refine sub_cons (by assumption) ?_))
def mraO : MraE → Out
  | .fine _ _ _ _ _ _ _ _ _ => .exit 0
  | .bad _ _ _ _ _ => .ret
def mraV : MraE → List AV
  | .fine _ _ _ _ x y at_ to gg => [.any, .ptr ⟨4, 0, 0, 0, 0⟩, .int .i64 x, .int .i64 y, .int .i64 at_, .int .i64 to, .int .i64 gg]
  | .bad x y at_ to gg => [.bool false, .ptr ⟨4, 0, 0, 0, 0⟩, .int .i64 x, .int .i64 y, .int .i64 at_, .int .i64 to, .int .i64 gg]
def mraG : MraE → Heap
  | .fine n tg m d _ _ _ _ _ => [(4, ⟨true, [.cell (.slice ⟨5, 0, 0, 1, 0⟩ 1 n), .arr [.int .u64] 64 tg]⟩), (5, ⟨true, [.arr [.int .u8] m d]⟩)]
  | .bad _ _ _ _ _ => []
def mraM : MraE → Nat
  | .fine _ _ _ _ _ _ _ _ _ => 9
  | .bad _ _ _ _ _ => 9
def mraDecE (o : Out) (vs : List AV) (H : Heap) (N : Nat) : Option MraE := match o, vs, H.find 4, H.find 5, N with
  | .exit 0, [.any, .ptr ⟨4, 0, 0, 0, 0⟩, .int .i64 x, .int .i64 y, .int .i64 at_, .int .i64 to, .int .i64 gg], some ⟨true, [.cell (.slice ⟨5, 0, 0, 1, 0⟩ 1 n), .arr [.int .u64] 64 tg]⟩, some ⟨true, [.arr [.int .u8] m d]⟩, 9 => some (.fine n tg m d x y at_ to gg)
  | .ret, [.bool false, .ptr ⟨4, 0, 0, 0, 0⟩, .int .i64 x, .int .i64 y, .int .i64 at_, .int .i64 to, .int .i64 gg], _, _, 9 => some (.bad x y at_ to gg)
  | _, _, _, _, _ => none
theorem mraDecE_ok (o : Out) (vs : List AV) (H : Heap) (N : Nat) (z : MraE) (h : mraDecE o vs H N = some z) : o = mraO z ∧ o ≠ .normal ∧ vs = mraV z ∧ (mraG z).sub H ∧ N = mraM z := by
  unfold mraDecE at h
  split at h
  all_goals first
    | (cases h; done)
    | (cases h; refine ⟨rfl, nofun, rfl, ?_, rfl⟩; repeat (first | exact sub_nil | refine sub_cons (by assumption) ?_))
noncomputable def mraStep : MraS → Option (MraS ⊕ MraE)
 | .a n tg m d n2 tg2 m2 d2 x y at_ to gg i =>
 (cond (i.slt 4096#64)
 (cond (g_ram n tg m d)
 (cond (g_ram n2 tg2 m2 d2)
 (cond (!v_lV n d i 8#64 == v_lV n2 d2 i 8#64)
 (some (Sum.inr (MraE.bad x y at_ to gg)))
 (some (Sum.inl (MraS.a n tg m d n2 tg2 m2 d2 x y at_ to gg (i + 8#64)))))
   none)
  none)
 (some (Sum.inr (MraE.fine n tg m d x y at_ to gg))))
end Go.Sx

/- What loops do, round by round. -/
import Derived.Test.YtkbcfbehebbmhaaSxX
import Derived.Test.YtkbcfbehebbmhaaSxLen2
import Derived.Test.YtkbcfbehebbmhaaSxEC
import Derived.Test.YtkbcfbehebbmhaaVa03
import Derived.Test.YtkbcfbehebbmhaaPlRam2
set_option linter.unusedSimpArgs false
set_option linter.unusedVariables false
set_option linter.unnecessarySimpa false
namespace Go.Sx
open Go

/-! ### a load -/
inductive MrlS where
  | a (n : Nat) (tg : List (List AV)) (m : Nat) (d : List (List AV)) (off : BitVec 64) (size : BitVec 64)
inductive MrlR where
  | a (x : BitVec 64) (r : Bool) (n2 : Nat) (tg2 : List (List AV)) (m2 : Nat) (d2 : List (List AV))
def mrlA : MrlS → List AV
  | .a _ _ _ _ off size => [.ptr ⟨0, 0, 0, 0, 0⟩, .int .i64 off, .int .i64 size]
def mrlH : MrlS → Heap
  | .a n tg m d _ _ => [(0, ⟨true, [.cell (.slice ⟨1, 0, 0, 1, 0⟩ 1 n), .arr [.int .u64] 64 tg]⟩), (1, ⟨true, [.arr [.int .u8] m d]⟩)]
def mrlDec (args : List AV) (H : Heap) : Option MrlS := match args, H with
  | [.ptr ⟨0, 0, 0, 0, 0⟩, .int .i64 off, .int .i64 size], [(0, ⟨true, [.cell (.slice ⟨1, 0, 0, 1, 0⟩ 1 n), .arr [.int .u64] 64 tg]⟩), (1, ⟨true, [.arr [.int .u8] m d]⟩)] => some (.a n tg m d off size)
  | _, _ => none
theorem mrlDec_ok (args : List AV) (H : Heap) (x : MrlS) (h : mrlDec args H = some x) : args = mrlA x ∧ H = mrlH x := by
  unfold mrlDec at h
  split at h
  all_goals first
    | (cases h; done)
    | (cases h; exact ⟨rfl, rfl⟩)
def mrlU : MrlR → AV × Eff × Nat
  | .a x r n2 tg2 m2 d2 => (.tup [.int .u64 x, .bool r], [(1, some ⟨true, [.arr [.int .u8] m2 d2]⟩), (0, some ⟨true, [.cell (.slice ⟨1, 0, 0, 1, 0⟩ 1 n2), .arr [.int .u64] 64 tg2]⟩)], 2)
def mrlDecR (v : AV) (e : Eff) (k : Nat) : Option MrlR := match v, e, k with
  | .tup [.int .u64 x, .bool r], [(1, some ⟨true, [.arr [.int .u8] m2 d2]⟩), (0, some ⟨true, [.cell (.slice ⟨1, 0, 0, 1, 0⟩ 1 n2), .arr [.int .u64] 64 tg2]⟩)], 2 => some (.a x r n2 tg2 m2 d2)
  | _, _, _ => none
theorem mrlDecR_ok (v : AV) (e : Eff) (k : Nat) (z : MrlR) (h : mrlDecR v e k = some z) : (v, e, k) = mrlU z := by
  unfold mrlDecR at h
  split at h
  all_goals first
    | (cases h; done)
    | (cases h; rfl)
noncomputable def mrlStep : MrlS → Option MrlR
 | .a n tg m d off size =>
 (cond (size == 1#64)
 (cond (off.slt 0#64)
 (some (MrlR.a (0#64) false n tg m d))
 (cond ((BitVec.ofNat 64 n - size).slt off)
 (some (MrlR.a (0#64) false n tg m d))
 (cond (nonneg IntKind.i64 off)
 (cond (decide (n ≤ n) && (decide (off.toNat < n) || off.toNat.beq 0))
 (cond (nonneg IntKind.i64 size)
 (cond (decide (size.toNat ≤ n - off.toNat) && (decide (0 < size.toNat) || true))
 (cond (g_get m (0 + off.toNat + 0) (size.toNat - 0))
 (some (MrlR.a (v_get d (0 + off.toNat + 0) (size.toNat - 0)) true n tg m d))
        none)
       none)
      none)
     none)
    none)))
 (cond (size == 2#64)
 (cond (off.slt 0#64)
 (some (MrlR.a (0#64) false n tg m d))
 (cond ((BitVec.ofNat 64 n - size).slt off)
 (some (MrlR.a (0#64) false n tg m d))
 (cond (nonneg IntKind.i64 off)
 (cond (decide (n ≤ n) && (decide (off.toNat < n) || off.toNat.beq 0))
 (cond (nonneg IntKind.i64 size)
 (cond (decide (size.toNat ≤ n - off.toNat) && (decide (0 < size.toNat) || true))
 (cond (g_get m (0 + off.toNat + 0) (size.toNat - 0))
 (some (MrlR.a (v_get d (0 + off.toNat + 0) (size.toNat - 0)) true n tg m d))
         none)
        none)
       none)
      none)
     none)))
 (cond (size == 4#64)
 (cond (off.slt 0#64)
 (some (MrlR.a (0#64) false n tg m d))
 (cond ((BitVec.ofNat 64 n - size).slt off)
 (some (MrlR.a (0#64) false n tg m d))
 (cond (nonneg IntKind.i64 off)
 (cond (decide (n ≤ n) && (decide (off.toNat < n) || off.toNat.beq 0))
 (cond (nonneg IntKind.i64 size)
 (cond (decide (size.toNat ≤ n - off.toNat) && (decide (0 < size.toNat) || true))
 (cond (g_get m (0 + off.toNat + 0) (size.toNat - 0))
 (some (MrlR.a (v_get d (0 + off.toNat + 0) (size.toNat - 0)) true n tg m d))
          none)
         none)
        none)
       none)
      none)))
 (cond (size == 8#64)
 (cond (off.slt 0#64)
 (some (MrlR.a (0#64) false n tg m d))
 (cond ((BitVec.ofNat 64 n - size).slt off)
 (some (MrlR.a (0#64) false n tg m d))
 (cond (nonneg IntKind.i64 off)
 (cond (decide (n ≤ n) && (decide (off.toNat < n) || off.toNat.beq 0))
 (cond (nonneg IntKind.i64 size)
 (cond (decide (size.toNat ≤ n - off.toNat) && (decide (0 < size.toNat) || true))
 (cond (g_get m (0 + off.toNat + 0) (size.toNat - 0))
 (some (MrlR.a (v_get d (0 + off.toNat + 0) (size.toNat - 0)) true n tg m d))
           none)
          none)
         none)
        none)
       none)))
 (some (MrlR.a (0#64) false n tg m d))))))

/-! ### a store -/
inductive MrsS where
  | a (n : Nat) (tg : List (List AV)) (m : Nat) (d : List (List AV)) (off : BitVec 64) (size : BitVec 64) (v : BitVec 64)
inductive MrsR where
  | a (r : Bool) (n2 : Nat) (tg2 : List (List AV)) (m2 : Nat) (d2 : List (List AV))
def mrsA : MrsS → List AV
  | .a _ _ _ _ off size v => [.ptr ⟨0, 0, 0, 0, 0⟩, .int .i64 off, .int .i64 size, .int .u64 v]
def mrsH : MrsS → Heap
  | .a n tg m d _ _ _ => [(0, ⟨true, [.cell (.slice ⟨1, 0, 0, 1, 0⟩ 1 n), .arr [.int .u64] 64 tg]⟩), (1, ⟨true, [.arr [.int .u8] m d]⟩)]
def mrsDec (args : List AV) (H : Heap) : Option MrsS := match args, H with
  | [.ptr ⟨0, 0, 0, 0, 0⟩, .int .i64 off, .int .i64 size, .int .u64 v], [(0, ⟨true, [.cell (.slice ⟨1, 0, 0, 1, 0⟩ 1 n), .arr [.int .u64] 64 tg]⟩), (1, ⟨true, [.arr [.int .u8] m d]⟩)] => some (.a n tg m d off size v)
  | _, _ => none
theorem mrsDec_ok (args : List AV) (H : Heap) (x : MrsS) (h : mrsDec args H = some x) : args = mrsA x ∧ H = mrsH x := by
  unfold mrsDec at h
  split at h
  all_goals first
    | (cases h; done)
    | (cases h; exact ⟨rfl, rfl⟩)
def mrsU : MrsR → AV × Eff × Nat
  | .a r n2 tg2 m2 d2 => (.bool r, [(1, some ⟨true, [.arr [.int .u8] m2 d2]⟩), (0, some ⟨true, [.cell (.slice ⟨1, 0, 0, 1, 0⟩ 1 n2), .arr [.int .u64] 64 tg2]⟩)], 2)
def mrsDecR (v : AV) (e : Eff) (k : Nat) : Option MrsR := match v, e, k with
  | .bool r, [(1, some ⟨true, [.arr [.int .u8] m2 d2]⟩), (0, some ⟨true, [.cell (.slice ⟨1, 0, 0, 1, 0⟩ 1 n2), .arr [.int .u64] 64 tg2]⟩)], 2 => some (.a r n2 tg2 m2 d2)
  | _, _, _ => none
theorem mrsDecR_ok (v : AV) (e : Eff) (k : Nat) (z : MrsR) (h : mrsDecR v e k = some z) : (v, e, k) = mrsU z := by
  unfold mrsDecR at h
  split at h
  all_goals first
    | (cases h; done)
    | (cases h; rfl)
noncomputable def mrsStep : MrsS → Option MrsR
 | .a n tg m d off size v =>
 (cond (size == 1#64)
 (cond (off.slt 0#64)
 (some (MrsR.a false n tg m d))
 (cond ((BitVec.ofNat 64 n - size).slt off)
 (some (MrsR.a false n tg m d))
 (cond (nonneg IntKind.i64 off)
 (cond (decide (n ≤ n) && (decide (off.toNat < n) || off.toNat.beq 0))
 (cond (nonneg IntKind.i64 size)
 (cond (decide (size.toNat ≤ n - off.toNat) && (decide (0 < size.toNat) || true))
 (cond (g_put m d (0 + off.toNat + 0) (size.toNat - 0))
 (cond (nonneg IntKind.i64 (((asI64 (AV.int IntKind.i64 off)).sdiv 16#64).sdiv 64#64) && decide ((((asI64 (AV.int IntKind.i64 off)).sdiv 16#64).sdiv 64#64).toNat < 64))
 (cond (nonneg IntKind.i64 (((asI64 (AV.int IntKind.i64 off)).sdiv 16#64).srem 64#64))
 (cond (decide ((((asI64 (AV.int IntKind.i64 off)).sdiv 16#64).sdiv 64#64).toNat < 64))
 (cond (decide ((((asI64 (AV.int IntKind.i64 off)).sdiv 16#64).sdiv 64#64).toNat < 64) && decide ((((asI64 (AV.int IntKind.i64 off)).sdiv 16#64).sdiv 64#64).toNat < tg.length))
 (cond (nonneg IntKind.i64 (((asI64 (AV.int IntKind.i64 (off + size - 1#64))).sdiv 16#64).sdiv 64#64) && decide ((((asI64 (AV.int IntKind.i64 (off + size - 1#64))).sdiv 16#64).sdiv 64#64).toNat < 64))
 (cond (nonneg IntKind.i64 (((asI64 (AV.int IntKind.i64 (off + size - 1#64))).sdiv 16#64).srem 64#64))
 (cond (decide ((((asI64 (AV.int IntKind.i64 (off + size - 1#64))).sdiv 16#64).sdiv 64#64).toNat < 64))
 (cond (decide ((((asI64 (AV.int IntKind.i64 (off + size - 1#64))).sdiv 16#64).sdiv 64#64).toNat < 64) && decide ((((asI64 (AV.int IntKind.i64 (off + size - 1#64))).sdiv 16#64).sdiv 64#64).toNat < (tg.set (((asI64 (AV.int IntKind.i64 off)).sdiv 16#64).sdiv 64#64).toNat [AV.int IntKind.u64 (asU64 ((tg.getD (((asI64 (AV.int IntKind.i64 off)).sdiv 16#64).sdiv 64#64).toNat []).headD AV.any) &&& ~~~(1#64 <<< min (((asI64 (AV.int IntKind.i64 off)).sdiv 16#64).srem 64#64).toNat 64))]).length))
 (some (MrsR.a true n ((tg.set (((asI64 (AV.int IntKind.i64 off)).sdiv 16#64).sdiv 64#64).toNat [AV.int IntKind.u64 (asU64 ((tg.getD (((asI64 (AV.int IntKind.i64 off)).sdiv 16#64).sdiv 64#64).toNat []).headD AV.any) &&& ~~~(1#64 <<< min (((asI64 (AV.int IntKind.i64 off)).sdiv 16#64).srem 64#64).toNat 64))]).set (((asI64 (AV.int IntKind.i64 (off + size - 1#64))).sdiv 16#64).sdiv 64#64).toNat [AV.int IntKind.u64 (asU64 (((tg.set (((asI64 (AV.int IntKind.i64 off)).sdiv 16#64).sdiv 64#64).toNat [AV.int IntKind.u64 (asU64 ((tg.getD (((asI64 (AV.int IntKind.i64 off)).sdiv 16#64).sdiv 64#64).toNat []).headD AV.any) &&& ~~~(1#64 <<< min (((asI64 (AV.int IntKind.i64 off)).sdiv 16#64).srem 64#64).toNat 64))]).getD (((asI64 (AV.int IntKind.i64 (off + size - 1#64))).sdiv 16#64).sdiv 64#64).toNat []).headD AV.any) &&& ~~~(1#64 <<< min (((asI64 (AV.int IntKind.i64 (off + size - 1#64))).sdiv 16#64).srem 64#64).toNat 64))]) m (v_put d (0 + off.toNat + 0) (size.toNat - 0) v)))
                none)
               none)
              none)
             none)
            none)
           none)
          none)
         none)
        none)
       none)
      none)
     none)
    none)))
 (cond (size == 2#64)
 (cond (off.slt 0#64)
 (some (MrsR.a false n tg m d))
 (cond ((BitVec.ofNat 64 n - size).slt off)
 (some (MrsR.a false n tg m d))
 (cond (nonneg IntKind.i64 off)
 (cond (decide (n ≤ n) && (decide (off.toNat < n) || off.toNat.beq 0))
 (cond (nonneg IntKind.i64 size)
 (cond (decide (size.toNat ≤ n - off.toNat) && (decide (0 < size.toNat) || true))
 (cond (g_put m d (0 + off.toNat + 0) (size.toNat - 0))
 (cond (nonneg IntKind.i64 (((asI64 (AV.int IntKind.i64 off)).sdiv 16#64).sdiv 64#64) && decide ((((asI64 (AV.int IntKind.i64 off)).sdiv 16#64).sdiv 64#64).toNat < 64))
 (cond (nonneg IntKind.i64 (((asI64 (AV.int IntKind.i64 off)).sdiv 16#64).srem 64#64))
 (cond (decide ((((asI64 (AV.int IntKind.i64 off)).sdiv 16#64).sdiv 64#64).toNat < 64))
 (cond (decide ((((asI64 (AV.int IntKind.i64 off)).sdiv 16#64).sdiv 64#64).toNat < 64) && decide ((((asI64 (AV.int IntKind.i64 off)).sdiv 16#64).sdiv 64#64).toNat < tg.length))
 (cond (nonneg IntKind.i64 (((asI64 (AV.int IntKind.i64 (off + size - 1#64))).sdiv 16#64).sdiv 64#64) && decide ((((asI64 (AV.int IntKind.i64 (off + size - 1#64))).sdiv 16#64).sdiv 64#64).toNat < 64))
 (cond (nonneg IntKind.i64 (((asI64 (AV.int IntKind.i64 (off + size - 1#64))).sdiv 16#64).srem 64#64))
 (cond (decide ((((asI64 (AV.int IntKind.i64 (off + size - 1#64))).sdiv 16#64).sdiv 64#64).toNat < 64))
 (cond (decide ((((asI64 (AV.int IntKind.i64 (off + size - 1#64))).sdiv 16#64).sdiv 64#64).toNat < 64) && decide ((((asI64 (AV.int IntKind.i64 (off + size - 1#64))).sdiv 16#64).sdiv 64#64).toNat < (tg.set (((asI64 (AV.int IntKind.i64 off)).sdiv 16#64).sdiv 64#64).toNat [AV.int IntKind.u64 (asU64 ((tg.getD (((asI64 (AV.int IntKind.i64 off)).sdiv 16#64).sdiv 64#64).toNat []).headD AV.any) &&& ~~~(1#64 <<< min (((asI64 (AV.int IntKind.i64 off)).sdiv 16#64).srem 64#64).toNat 64))]).length))
 (some (MrsR.a true n ((tg.set (((asI64 (AV.int IntKind.i64 off)).sdiv 16#64).sdiv 64#64).toNat [AV.int IntKind.u64 (asU64 ((tg.getD (((asI64 (AV.int IntKind.i64 off)).sdiv 16#64).sdiv 64#64).toNat []).headD AV.any) &&& ~~~(1#64 <<< min (((asI64 (AV.int IntKind.i64 off)).sdiv 16#64).srem 64#64).toNat 64))]).set (((asI64 (AV.int IntKind.i64 (off + size - 1#64))).sdiv 16#64).sdiv 64#64).toNat [AV.int IntKind.u64 (asU64 (((tg.set (((asI64 (AV.int IntKind.i64 off)).sdiv 16#64).sdiv 64#64).toNat [AV.int IntKind.u64 (asU64 ((tg.getD (((asI64 (AV.int IntKind.i64 off)).sdiv 16#64).sdiv 64#64).toNat []).headD AV.any) &&& ~~~(1#64 <<< min (((asI64 (AV.int IntKind.i64 off)).sdiv 16#64).srem 64#64).toNat 64))]).getD (((asI64 (AV.int IntKind.i64 (off + size - 1#64))).sdiv 16#64).sdiv 64#64).toNat []).headD AV.any) &&& ~~~(1#64 <<< min (((asI64 (AV.int IntKind.i64 (off + size - 1#64))).sdiv 16#64).srem 64#64).toNat 64))]) m (v_put d (0 + off.toNat + 0) (size.toNat - 0) v)))
                 none)
                none)
               none)
              none)
             none)
            none)
           none)
          none)
         none)
        none)
       none)
      none)
     none)))
 (cond (size == 4#64)
 (cond (off.slt 0#64)
 (some (MrsR.a false n tg m d))
 (cond ((BitVec.ofNat 64 n - size).slt off)
 (some (MrsR.a false n tg m d))
 (cond (nonneg IntKind.i64 off)
 (cond (decide (n ≤ n) && (decide (off.toNat < n) || off.toNat.beq 0))
 (cond (nonneg IntKind.i64 size)
 (cond (decide (size.toNat ≤ n - off.toNat) && (decide (0 < size.toNat) || true))
 (cond (g_put m d (0 + off.toNat + 0) (size.toNat - 0))
 (cond (nonneg IntKind.i64 (((asI64 (AV.int IntKind.i64 off)).sdiv 16#64).sdiv 64#64) && decide ((((asI64 (AV.int IntKind.i64 off)).sdiv 16#64).sdiv 64#64).toNat < 64))
 (cond (nonneg IntKind.i64 (((asI64 (AV.int IntKind.i64 off)).sdiv 16#64).srem 64#64))
 (cond (decide ((((asI64 (AV.int IntKind.i64 off)).sdiv 16#64).sdiv 64#64).toNat < 64))
 (cond (decide ((((asI64 (AV.int IntKind.i64 off)).sdiv 16#64).sdiv 64#64).toNat < 64) && decide ((((asI64 (AV.int IntKind.i64 off)).sdiv 16#64).sdiv 64#64).toNat < tg.length))
 (cond (nonneg IntKind.i64 (((asI64 (AV.int IntKind.i64 (off + size - 1#64))).sdiv 16#64).sdiv 64#64) && decide ((((asI64 (AV.int IntKind.i64 (off + size - 1#64))).sdiv 16#64).sdiv 64#64).toNat < 64))
 (cond (nonneg IntKind.i64 (((asI64 (AV.int IntKind.i64 (off + size - 1#64))).sdiv 16#64).srem 64#64))
 (cond (decide ((((asI64 (AV.int IntKind.i64 (off + size - 1#64))).sdiv 16#64).sdiv 64#64).toNat < 64))
 (cond (decide ((((asI64 (AV.int IntKind.i64 (off + size - 1#64))).sdiv 16#64).sdiv 64#64).toNat < 64) && decide ((((asI64 (AV.int IntKind.i64 (off + size - 1#64))).sdiv 16#64).sdiv 64#64).toNat < (tg.set (((asI64 (AV.int IntKind.i64 off)).sdiv 16#64).sdiv 64#64).toNat [AV.int IntKind.u64 (asU64 ((tg.getD (((asI64 (AV.int IntKind.i64 off)).sdiv 16#64).sdiv 64#64).toNat []).headD AV.any) &&& ~~~(1#64 <<< min (((asI64 (AV.int IntKind.i64 off)).sdiv 16#64).srem 64#64).toNat 64))]).length))
 (some (MrsR.a true n ((tg.set (((asI64 (AV.int IntKind.i64 off)).sdiv 16#64).sdiv 64#64).toNat [AV.int IntKind.u64 (asU64 ((tg.getD (((asI64 (AV.int IntKind.i64 off)).sdiv 16#64).sdiv 64#64).toNat []).headD AV.any) &&& ~~~(1#64 <<< min (((asI64 (AV.int IntKind.i64 off)).sdiv 16#64).srem 64#64).toNat 64))]).set (((asI64 (AV.int IntKind.i64 (off + size - 1#64))).sdiv 16#64).sdiv 64#64).toNat [AV.int IntKind.u64 (asU64 (((tg.set (((asI64 (AV.int IntKind.i64 off)).sdiv 16#64).sdiv 64#64).toNat [AV.int IntKind.u64 (asU64 ((tg.getD (((asI64 (AV.int IntKind.i64 off)).sdiv 16#64).sdiv 64#64).toNat []).headD AV.any) &&& ~~~(1#64 <<< min (((asI64 (AV.int IntKind.i64 off)).sdiv 16#64).srem 64#64).toNat 64))]).getD (((asI64 (AV.int IntKind.i64 (off + size - 1#64))).sdiv 16#64).sdiv 64#64).toNat []).headD AV.any) &&& ~~~(1#64 <<< min (((asI64 (AV.int IntKind.i64 (off + size - 1#64))).sdiv 16#64).srem 64#64).toNat 64))]) m (v_put d (0 + off.toNat + 0) (size.toNat - 0) v)))
                  none)
                 none)
                none)
               none)
              none)
             none)
            none)
           none)
          none)
         none)
        none)
       none)
      none)))
 (cond (size == 8#64)
 (cond (off.slt 0#64)
 (some (MrsR.a false n tg m d))
 (cond ((BitVec.ofNat 64 n - size).slt off)
 (some (MrsR.a false n tg m d))
 (cond (nonneg IntKind.i64 off)
 (cond (decide (n ≤ n) && (decide (off.toNat < n) || off.toNat.beq 0))
 (cond (nonneg IntKind.i64 size)
 (cond (decide (size.toNat ≤ n - off.toNat) && (decide (0 < size.toNat) || true))
 (cond (g_put m d (0 + off.toNat + 0) (size.toNat - 0))
 (cond (nonneg IntKind.i64 (((asI64 (AV.int IntKind.i64 off)).sdiv 16#64).sdiv 64#64) && decide ((((asI64 (AV.int IntKind.i64 off)).sdiv 16#64).sdiv 64#64).toNat < 64))
 (cond (nonneg IntKind.i64 (((asI64 (AV.int IntKind.i64 off)).sdiv 16#64).srem 64#64))
 (cond (decide ((((asI64 (AV.int IntKind.i64 off)).sdiv 16#64).sdiv 64#64).toNat < 64))
 (cond (decide ((((asI64 (AV.int IntKind.i64 off)).sdiv 16#64).sdiv 64#64).toNat < 64) && decide ((((asI64 (AV.int IntKind.i64 off)).sdiv 16#64).sdiv 64#64).toNat < tg.length))
 (cond (nonneg IntKind.i64 (((asI64 (AV.int IntKind.i64 (off + size - 1#64))).sdiv 16#64).sdiv 64#64) && decide ((((asI64 (AV.int IntKind.i64 (off + size - 1#64))).sdiv 16#64).sdiv 64#64).toNat < 64))
 (cond (nonneg IntKind.i64 (((asI64 (AV.int IntKind.i64 (off + size - 1#64))).sdiv 16#64).srem 64#64))
 (cond (decide ((((asI64 (AV.int IntKind.i64 (off + size - 1#64))).sdiv 16#64).sdiv 64#64).toNat < 64))
 (cond (decide ((((asI64 (AV.int IntKind.i64 (off + size - 1#64))).sdiv 16#64).sdiv 64#64).toNat < 64) && decide ((((asI64 (AV.int IntKind.i64 (off + size - 1#64))).sdiv 16#64).sdiv 64#64).toNat < (tg.set (((asI64 (AV.int IntKind.i64 off)).sdiv 16#64).sdiv 64#64).toNat [AV.int IntKind.u64 (asU64 ((tg.getD (((asI64 (AV.int IntKind.i64 off)).sdiv 16#64).sdiv 64#64).toNat []).headD AV.any) &&& ~~~(1#64 <<< min (((asI64 (AV.int IntKind.i64 off)).sdiv 16#64).srem 64#64).toNat 64))]).length))
 (some (MrsR.a true n ((tg.set (((asI64 (AV.int IntKind.i64 off)).sdiv 16#64).sdiv 64#64).toNat [AV.int IntKind.u64 (asU64 ((tg.getD (((asI64 (AV.int IntKind.i64 off)).sdiv 16#64).sdiv 64#64).toNat []).headD AV.any) &&& ~~~(1#64 <<< min (((asI64 (AV.int IntKind.i64 off)).sdiv 16#64).srem 64#64).toNat 64))]).set (((asI64 (AV.int IntKind.i64 (off + size - 1#64))).sdiv 16#64).sdiv 64#64).toNat [AV.int IntKind.u64 (asU64 (((tg.set (((asI64 (AV.int IntKind.i64 off)).sdiv 16#64).sdiv 64#64).toNat [AV.int IntKind.u64 (asU64 ((tg.getD (((asI64 (AV.int IntKind.i64 off)).sdiv 16#64).sdiv 64#64).toNat []).headD AV.any) &&& ~~~(1#64 <<< min (((asI64 (AV.int IntKind.i64 off)).sdiv 16#64).srem 64#64).toNat 64))]).getD (((asI64 (AV.int IntKind.i64 (off + size - 1#64))).sdiv 16#64).sdiv 64#64).toNat []).headD AV.any) &&& ~~~(1#64 <<< min (((asI64 (AV.int IntKind.i64 (off + size - 1#64))).sdiv 16#64).srem 64#64).toNat 64))]) m (v_put d (0 + off.toNat + 0) (size.toNat - 0) v)))
                   none)
                  none)
                 none)
                none)
               none)
              none)
             none)
            none)
           none)
          none)
         none)
        none)
       none)))
 (some (MrsR.a false n tg m d))))))

/-! ### a granule -/
inductive MrcS where
  | a (n : Nat) (tg : List (List AV)) (m : Nat) (d : List (List AV)) (off : BitVec 64)
inductive MrcR where
  | a (t : Bool) (x : BitVec 64) (y : BitVec 64) (r : Bool) (n2 : Nat) (tg2 : List (List AV)) (m2 : Nat) (d2 : List (List AV))
def mrcA : MrcS → List AV
  | .a _ _ _ _ off => [.ptr ⟨0, 0, 0, 0, 0⟩, .int .i64 off]
def mrcH : MrcS → Heap
  | .a n tg m d _ => [(0, ⟨true, [.cell (.slice ⟨1, 0, 0, 1, 0⟩ 1 n), .arr [.int .u64] 64 tg]⟩), (1, ⟨true, [.arr [.int .u8] m d]⟩)]
def mrcDec (args : List AV) (H : Heap) : Option MrcS := match args, H with
  | [.ptr ⟨0, 0, 0, 0, 0⟩, .int .i64 off], [(0, ⟨true, [.cell (.slice ⟨1, 0, 0, 1, 0⟩ 1 n), .arr [.int .u64] 64 tg]⟩), (1, ⟨true, [.arr [.int .u8] m d]⟩)] => some (.a n tg m d off)
  | _, _ => none
theorem mrcDec_ok (args : List AV) (H : Heap) (x : MrcS) (h : mrcDec args H = some x) : args = mrcA x ∧ H = mrcH x := by
  unfold mrcDec at h
  split at h
  all_goals first
    | (cases h; done)
    | (cases h; exact ⟨rfl, rfl⟩)
def mrcU : MrcR → AV × Eff × Nat
  | .a t x y r n2 tg2 m2 d2 => (.tup [.bool t, .int .u64 x, .int .u64 y, .bool r], [(1, some ⟨true, [.arr [.int .u8] m2 d2]⟩), (0, some ⟨true, [.cell (.slice ⟨1, 0, 0, 1, 0⟩ 1 n2), .arr [.int .u64] 64 tg2]⟩)], 2)
def mrcDecR (v : AV) (e : Eff) (k : Nat) : Option MrcR := match v, e, k with
  | .tup [.bool t, .int .u64 x, .int .u64 y, .bool r], [(1, some ⟨true, [.arr [.int .u8] m2 d2]⟩), (0, some ⟨true, [.cell (.slice ⟨1, 0, 0, 1, 0⟩ 1 n2), .arr [.int .u64] 64 tg2]⟩)], 2 => some (.a t x y r n2 tg2 m2 d2)
  | _, _, _ => none
theorem mrcDecR_ok (v : AV) (e : Eff) (k : Nat) (z : MrcR) (h : mrcDecR v e k = some z) : (v, e, k) = mrcU z := by
  unfold mrcDecR at h
  split at h
  all_goals first
    | (cases h; done)
    | (cases h; rfl)
noncomputable def mrcStep : MrcS → Option MrcR
 | .a n tg m d off =>
 (cond (off.slt 0#64)
 (some (MrcR.a false (0#64) (0#64) false n tg m d))
 (cond ((BitVec.ofNat 64 n - 16#64).slt off)
 (some (MrcR.a false (0#64) (0#64) false n tg m d))
 (cond (nonneg IntKind.i64 off)
 (cond (decide (n ≤ n) && (decide (off.toNat < n) || off.toNat.beq 0))
 (cond (decide (16 ≤ n - off.toNat) && true)
 (cond (!off.srem 16#64 == 0#64)
 (some (MrcR.a false (0#64) (0#64) false n tg m d))
 (cond (nonneg IntKind.i64 ((off.sdiv 16#64).sdiv 64#64) && decide (((off.sdiv 16#64).sdiv 64#64).toNat < 64))
 (cond (nonneg IntKind.i64 ((off.sdiv 16#64).srem 64#64))
 (cond (decide (((off.sdiv 16#64).sdiv 64#64).toNat < 64))
 (cond (g_get m (0 + off.toNat + 0 + 0) 8)
 (cond (g_get m (0 + off.toNat + 0 + 8) 8)
 (some (MrcR.a (!asU64 ((tg.getD ((off.sdiv 16#64).sdiv 64#64).toNat []).headD AV.any) &&& 1#64 <<< min ((off.sdiv 16#64).srem 64#64).toNat 64 == 0#64) (v_get d (0 + off.toNat + 0 + 0) 8) (v_get d (0 + off.toNat + 0 + 8) 8) true n tg m d))
           none)
          none)
         none)
        none)
       none))
     none)
    none)
   none)))

/-! ### a granule laid -/
inductive MrtS where
  | a (n : Nat) (tg : List (List AV)) (m : Nat) (d : List (List AV)) (off : BitVec 64) (t : Bool) (x : BitVec 64) (y : BitVec 64)
inductive MrtR where
  | a (r : Bool) (n2 : Nat) (tg2 : List (List AV)) (m2 : Nat) (d2 : List (List AV))
def mrtA : MrtS → List AV
  | .a _ _ _ _ off t x y => [.ptr ⟨0, 0, 0, 0, 0⟩, .int .i64 off, .bool t, .int .u64 x, .int .u64 y]
def mrtH : MrtS → Heap
  | .a n tg m d _ _ _ _ => [(0, ⟨true, [.cell (.slice ⟨1, 0, 0, 1, 0⟩ 1 n), .arr [.int .u64] 64 tg]⟩), (1, ⟨true, [.arr [.int .u8] m d]⟩)]
def mrtDec (args : List AV) (H : Heap) : Option MrtS := match args, H with
  | [.ptr ⟨0, 0, 0, 0, 0⟩, .int .i64 off, .bool t, .int .u64 x, .int .u64 y], [(0, ⟨true, [.cell (.slice ⟨1, 0, 0, 1, 0⟩ 1 n), .arr [.int .u64] 64 tg]⟩), (1, ⟨true, [.arr [.int .u8] m d]⟩)] => some (.a n tg m d off t x y)
  | _, _ => none
theorem mrtDec_ok (args : List AV) (H : Heap) (x : MrtS) (h : mrtDec args H = some x) : args = mrtA x ∧ H = mrtH x := by
  unfold mrtDec at h
  split at h
  all_goals first
    | (cases h; done)
    | (cases h; exact ⟨rfl, rfl⟩)
def mrtU : MrtR → AV × Eff × Nat
  | .a r n2 tg2 m2 d2 => (.bool r, [(1, some ⟨true, [.arr [.int .u8] m2 d2]⟩), (0, some ⟨true, [.cell (.slice ⟨1, 0, 0, 1, 0⟩ 1 n2), .arr [.int .u64] 64 tg2]⟩)], 2)
def mrtDecR (v : AV) (e : Eff) (k : Nat) : Option MrtR := match v, e, k with
  | .bool r, [(1, some ⟨true, [.arr [.int .u8] m2 d2]⟩), (0, some ⟨true, [.cell (.slice ⟨1, 0, 0, 1, 0⟩ 1 n2), .arr [.int .u64] 64 tg2]⟩)], 2 => some (.a r n2 tg2 m2 d2)
  | _, _, _ => none
theorem mrtDecR_ok (v : AV) (e : Eff) (k : Nat) (z : MrtR) (h : mrtDecR v e k = some z) : (v, e, k) = mrtU z := by
  unfold mrtDecR at h
  split at h
  all_goals first
    | (cases h; done)
    | (cases h; rfl)
noncomputable def mrtStep : MrtS → Option MrtR
 | .a n tg m d off t x y =>
 (cond (off.slt 0#64)
 (some (MrtR.a false n tg m d))
 (cond ((BitVec.ofNat 64 n - 16#64).slt off)
 (some (MrtR.a false n tg m d))
 (cond (nonneg IntKind.i64 off)
 (cond (decide (n ≤ n) && (decide (off.toNat < n) || off.toNat.beq 0))
 (cond (decide (16 ≤ n - off.toNat) && true)
 (cond (!off.srem 16#64 == 0#64)
 (some (MrtR.a false n tg m d))
 (cond (g_put m d (0 + off.toNat + 0 + 0) 8)
 (cond (g_put m (v_put d (0 + off.toNat + 0 + 0) 8 x) (0 + off.toNat + 0 + 8) 8)
 (cond (nonneg IntKind.i64 ((off.sdiv 16#64).sdiv 64#64) && decide (((off.sdiv 16#64).sdiv 64#64).toNat < 64))
 (cond (nonneg IntKind.i64 ((off.sdiv 16#64).srem 64#64))
 (cond (decide (((off.sdiv 16#64).sdiv 64#64).toNat < 64))
 (cond (decide (((off.sdiv 16#64).sdiv 64#64).toNat < 64) && decide (((off.sdiv 16#64).sdiv 64#64).toNat < tg.length))
 (cond (t)
 (cond (decide (((off.sdiv 16#64).sdiv 64#64).toNat < 64))
 (cond (decide (((off.sdiv 16#64).sdiv 64#64).toNat < 64) && decide (((off.sdiv 16#64).sdiv 64#64).toNat < (tg.set ((off.sdiv 16#64).sdiv 64#64).toNat [AV.int IntKind.u64 (asU64 ((tg.getD ((off.sdiv 16#64).sdiv 64#64).toNat []).headD AV.any) &&& ~~~(1#64 <<< min ((off.sdiv 16#64).srem 64#64).toNat 64))]).length))
 (some (MrtR.a true n ((tg.set ((off.sdiv 16#64).sdiv 64#64).toNat [AV.int IntKind.u64 (asU64 ((tg.getD ((off.sdiv 16#64).sdiv 64#64).toNat []).headD AV.any) &&& ~~~(1#64 <<< min ((off.sdiv 16#64).srem 64#64).toNat 64))]).set ((off.sdiv 16#64).sdiv 64#64).toNat [AV.int IntKind.u64 (asU64 (((tg.set ((off.sdiv 16#64).sdiv 64#64).toNat [AV.int IntKind.u64 (asU64 ((tg.getD ((off.sdiv 16#64).sdiv 64#64).toNat []).headD AV.any) &&& ~~~(1#64 <<< min ((off.sdiv 16#64).srem 64#64).toNat 64))]).getD ((off.sdiv 16#64).sdiv 64#64).toNat []).headD AV.any) ||| 1#64 <<< min ((off.sdiv 16#64).srem 64#64).toNat 64)]) m (v_put (v_put d (0 + off.toNat + 0 + 0) 8 x) (0 + off.toNat + 0 + 8) 8 y)))
               none)
              none)
 (some (MrtR.a true n (tg.set ((off.sdiv 16#64).sdiv 64#64).toNat [AV.int IntKind.u64 (asU64 ((tg.getD ((off.sdiv 16#64).sdiv 64#64).toNat []).headD AV.any) &&& ~~~(1#64 <<< min ((off.sdiv 16#64).srem 64#64).toNat 64))]) m (v_put (v_put d (0 + off.toNat + 0 + 0) 8 x) (0 + off.toNat + 0 + 8) 8 y))))
            none)
           none)
          none)
         none)
        none)
       none))
     none)
    none)
   none)))
end Go.Sx

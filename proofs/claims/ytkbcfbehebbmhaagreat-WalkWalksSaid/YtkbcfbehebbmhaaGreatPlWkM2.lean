/- Several texts in one. -/
import Derived.Test.YtkbcfbehebbmhaaGreatSxX
import Derived.Test.YtkbcfbehebbmhaaGreatSxLen2
import Derived.Test.YtkbcfbehebbmhaaGreatSxEC
import Derived.Test.YtkbcfbehebbmhaaGreatVa03
import Derived.Test.YtkbcfbehebbmhaaGreatPlWkL
set_option linter.unusedSimpArgs false
set_option linter.unusedVariables false
set_option linter.unnecessarySimpa false
/- What loops do, round by round. -/
namespace Go.Sx
open Go

/-! ### Lay -/
inductive MlzS where
  | a (rw : Bool) (na : Nat) (ma : Nat) (da : List (List AV))
  | n 
inductive MlzR where
  | a (rw : Bool) (ma : Nat) (da : List (List AV)) (n : Nat) (tg : List (List AV)) (m : Nat) (d : List (List AV)) (b1 : Blk) (b4 : Blk) (b5 : Blk) (b6 : Blk) (b7 : Blk)
  | n (n : Nat) (tg : List (List AV)) (m : Nat) (d : List (List AV)) (b0 : Blk) (b3 : Blk) (b4 : Blk) (b5 : Blk) (b6 : Blk)
noncomputable def mlzA : MlzS → List AV
  | .a _ na _ _ => [.slice ⟨0, 0, 0, 2, 0⟩ 2 na]
  | .n => [.nilslice]
noncomputable def mlzH : MlzS → Heap
  | .a rw _ ma da => [(0, ⟨rw, [.arr [.int .i64, .int .u64] ma da]⟩)]
  | .n => []
noncomputable def mlzDec (args : List AV) (H : Heap) : Option MlzS := match args, H with
  | [.slice ⟨0, 0, 0, 2, 0⟩ 2 na], [(0, ⟨rw, [.arr [.int .i64, .int .u64] ma da]⟩)] => some (.a rw na ma da)
  | [.nilslice], [] => some (.n)
  | _, _ => none
theorem mlzDec_ok (args : List AV) (H : Heap) (x : MlzS) (h : mlzDec args H = some x) : args = mlzA x ∧ H = mlzH x := by
  unfold mlzDec at h
  split at h
  all_goals first
    | (cases h; done)
    | (cases h; exact ⟨rfl, rfl⟩)
noncomputable def mlzU : MlzR → AV × Eff × Nat
  | .a rw ma da n tg m d b1 b4 b5 b6 b7 => (.tup [.ptr ⟨1, 0, 0, 0, 0⟩, .bool true], [(7, some b7), (6, some b6), (5, some b5), (4, some b4), (3, some ⟨true, [.arr [.int .u8] m d]⟩), (2, some ⟨true, [.cell (.slice ⟨3, 0, 0, 1, 0⟩ 1 n), .arr [.int .u64] 64 tg]⟩), (1, some b1), (0, some ⟨rw, [.arr [.int .i64, .int .u64] ma da]⟩)], 8)
  | .n n tg m d b0 b3 b4 b5 b6 => (.tup [.ptr ⟨0, 0, 0, 0, 0⟩, .bool true], [(1, some ⟨true, [.cell (.slice ⟨2, 0, 0, 1, 0⟩ 1 n), .arr [.int .u64] 64 tg]⟩), (2, some ⟨true, [.arr [.int .u8] m d]⟩), (3, some b3), (4, some b4), (5, some b5), (6, some b6), (0, some b0)], 7)
noncomputable def mlzDecR_a (v : AV) (e : Eff) (k : Nat) : Option MlzR := match v, e, k with
  | .tup [.ptr ⟨1, 0, 0, 0, 0⟩, .bool true], [(7, some b7), (6, some b6), (5, some b5), (4, some b4), (3, some ⟨true, [.arr [.int .u8] m d]⟩), (2, some ⟨true, [.cell (.slice ⟨3, 0, 0, 1, 0⟩ 1 n), .arr [.int .u64] 64 tg]⟩), (1, some b1), (0, some ⟨rw, [.arr [.int .i64, .int .u64] ma da]⟩)], 8 => some (.a rw ma da n tg m d b1 b4 b5 b6 b7)
  | _, _, _ => none
theorem mlzDecR_a_ok (v : AV) (e : Eff) (k : Nat) (z : MlzR) (h : mlzDecR_a v e k = some z) : (v, e, k) = mlzU z := by
  unfold mlzDecR_a at h
  split at h
  all_goals first
    | (cases h; done)
    | (cases h; rfl)
noncomputable def mlzDecR_n (v : AV) (e : Eff) (k : Nat) : Option MlzR := match v, e, k with
  | .tup [.ptr ⟨0, 0, 0, 0, 0⟩, .bool true], [(1, some ⟨true, [.cell (.slice ⟨2, 0, 0, 1, 0⟩ 1 n), .arr [.int .u64] 64 tg]⟩), (2, some ⟨true, [.arr [.int .u8] m d]⟩), (3, some b3), (4, some b4), (5, some b5), (6, some b6), (0, some b0)], 7 => some (.n n tg m d b0 b3 b4 b5 b6)
  | _, _, _ => none
theorem mlzDecR_n_ok (v : AV) (e : Eff) (k : Nat) (z : MlzR) (h : mlzDecR_n v e k = some z) : (v, e, k) = mlzU z := by
  unfold mlzDecR_n at h
  split at h
  all_goals first
    | (cases h; done)
    | (cases h; rfl)
noncomputable def mlzDecR (v : AV) (e : Eff) (k : Nat) : Option MlzR := orO (mlzDecR_a v e k) (mlzDecR_n v e k)
theorem mlzDecR_ok (v : AV) (e : Eff) (k : Nat) (z : MlzR) (h : mlzDecR v e k = some z) : (v, e, k) = mlzU z := (orO_some h).elim (fun h => mlzDecR_a_ok _ _ _ _ h) (fun h => mlzDecR_n_ok _ _ _ _ h)
noncomputable def mlzStep : MlzS → Option MlzR
 | .a rw na ma da =>
 (cond (g_ly 12288 zT 12288
 (zB 12288)
  na ma 0#64)
 (some (MlzR.a rw ma da 12288 (v_lyT 12288 zT (v_lyR na da 0)) 12288
 (v_lyD 12288
 (zB 12288)
 (v_lyR na da 0))
  bus1 { rw := true, segs := bif true then [Seg.cell (AV.int IntKind.u64 0#64), Seg.cell (AV.int IntKind.u64 18446744073709551615#64), Seg.cell (AV.int IntKind.u64 0#64)] else [] } { rw := true, segs := bif true then [Seg.arr [CK.int IntKind.u32] 32 [[AV.int IntKind.u32 0#32], [AV.int IntKind.u32 0#32], [AV.int IntKind.u32 0#32], [AV.int IntKind.u32 0#32], [AV.int IntKind.u32 0#32], [AV.int IntKind.u32 0#32], [AV.int IntKind.u32 0#32], [AV.int IntKind.u32 0#32], [AV.int IntKind.u32 0#32], [AV.int IntKind.u32 0#32], [AV.int IntKind.u32 0#32], [AV.int IntKind.u32 0#32], [AV.int IntKind.u32 0#32], [AV.int IntKind.u32 0#32], [AV.int IntKind.u32 0#32], [AV.int IntKind.u32 0#32], [AV.int IntKind.u32 0#32], [AV.int IntKind.u32 0#32], [AV.int IntKind.u32 0#32], [AV.int IntKind.u32 0#32], [AV.int IntKind.u32 0#32], [AV.int IntKind.u32 0#32], [AV.int IntKind.u32 0#32], [AV.int IntKind.u32 0#32], [AV.int IntKind.u32 0#32], [AV.int IntKind.u32 0#32], [AV.int IntKind.u32 0#32], [AV.int IntKind.u32 0#32], [AV.int IntKind.u32 0#32], [AV.int IntKind.u32 0#32], [AV.int IntKind.u32 0#32], [AV.int IntKind.u32 0#32]], Seg.cell (AV.int IntKind.u32 0#32), Seg.cell (AV.int IntKind.u32 0#32), Seg.arr [CK.int IntKind.u32] 2 [[AV.int IntKind.u32 0#32], [AV.int IntKind.u32 0#32]], Seg.arr [CK.int IntKind.u32] 2 [[AV.int IntKind.u32 0#32], [AV.int IntKind.u32 0#32]]] else [] } { rw := true, segs := bif true then [Seg.arr [CK.int IntKind.u8] 16 [[AV.int IntKind.u8 0#8], [AV.int IntKind.u8 0#8], [AV.int IntKind.u8 0#8], [AV.int IntKind.u8 0#8], [AV.int IntKind.u8 0#8], [AV.int IntKind.u8 0#8], [AV.int IntKind.u8 0#8], [AV.int IntKind.u8 0#8], [AV.int IntKind.u8 0#8], [AV.int IntKind.u8 0#8], [AV.int IntKind.u8 0#8], [AV.int IntKind.u8 0#8], [AV.int IntKind.u8 0#8], [AV.int IntKind.u8 0#8], [AV.int IntKind.u8 0#8], [AV.int IntKind.u8 0#8]], Seg.cell (AV.int IntKind.i64 0#64), Seg.cell (AV.int IntKind.i64 0#64), Seg.cell (AV.bool false), Seg.cell AV.nilslice] else [] } { rw := true, segs := bif true then [Seg.cell (AV.bool false)] else [] }))
 none)
 | .n =>
 (some (MlzR.n 12288 zT 12288
 (zB 12288)
  { rw := true, segs := [Seg.cell (AV.ptr { x := 1, off := 0, i := 0, sz := 0, j := 0 }), Seg.cell (AV.ptr { x := 3, off := 0, i := 0, sz := 0, j := 0 }), Seg.cell (AV.ptr { x := 4, off := 0, i := 0, sz := 0, j := 0 }), Seg.cell (AV.ptr { x := 5, off := 0, i := 0, sz := 0, j := 0 }), Seg.cell (AV.ptr { x := 6, off := 0, i := 0, sz := 0, j := 0 })] } { rw := true, segs := [Seg.cell (AV.int IntKind.u64 0#64), Seg.cell (AV.int IntKind.u64 18446744073709551615#64), Seg.cell (AV.int IntKind.u64 0#64)] } { rw := true, segs := [Seg.arr [CK.int IntKind.u32] 32 [[AV.int IntKind.u32 0#32], [AV.int IntKind.u32 0#32], [AV.int IntKind.u32 0#32], [AV.int IntKind.u32 0#32], [AV.int IntKind.u32 0#32], [AV.int IntKind.u32 0#32], [AV.int IntKind.u32 0#32], [AV.int IntKind.u32 0#32], [AV.int IntKind.u32 0#32], [AV.int IntKind.u32 0#32], [AV.int IntKind.u32 0#32], [AV.int IntKind.u32 0#32], [AV.int IntKind.u32 0#32], [AV.int IntKind.u32 0#32], [AV.int IntKind.u32 0#32], [AV.int IntKind.u32 0#32], [AV.int IntKind.u32 0#32], [AV.int IntKind.u32 0#32], [AV.int IntKind.u32 0#32], [AV.int IntKind.u32 0#32], [AV.int IntKind.u32 0#32], [AV.int IntKind.u32 0#32], [AV.int IntKind.u32 0#32], [AV.int IntKind.u32 0#32], [AV.int IntKind.u32 0#32], [AV.int IntKind.u32 0#32], [AV.int IntKind.u32 0#32], [AV.int IntKind.u32 0#32], [AV.int IntKind.u32 0#32], [AV.int IntKind.u32 0#32], [AV.int IntKind.u32 0#32], [AV.int IntKind.u32 0#32]], Seg.cell (AV.int IntKind.u32 0#32), Seg.cell (AV.int IntKind.u32 0#32), Seg.arr [CK.int IntKind.u32] 2 [[AV.int IntKind.u32 0#32], [AV.int IntKind.u32 0#32]], Seg.arr [CK.int IntKind.u32] 2 [[AV.int IntKind.u32 0#32], [AV.int IntKind.u32 0#32]]] } { rw := true, segs := [Seg.arr [CK.int IntKind.u8] 16 [[AV.int IntKind.u8 0#8], [AV.int IntKind.u8 0#8], [AV.int IntKind.u8 0#8], [AV.int IntKind.u8 0#8], [AV.int IntKind.u8 0#8], [AV.int IntKind.u8 0#8], [AV.int IntKind.u8 0#8], [AV.int IntKind.u8 0#8], [AV.int IntKind.u8 0#8], [AV.int IntKind.u8 0#8], [AV.int IntKind.u8 0#8], [AV.int IntKind.u8 0#8], [AV.int IntKind.u8 0#8], [AV.int IntKind.u8 0#8], [AV.int IntKind.u8 0#8], [AV.int IntKind.u8 0#8]], Seg.cell (AV.int IntKind.i64 0#64), Seg.cell (AV.int IntKind.i64 0#64), Seg.cell (AV.bool false), Seg.cell AV.nilslice] } { rw := true, segs := [Seg.cell (AV.bool false)] }))
end Go.Sx

/- Lay, as an answer; new memory is not reckoned with. -/
namespace Go.Sx
open Go
def bClint0 : Blk := bClint 0#64 18446744073709551615#64 0#64
def bPlic0 : Blk := bPlic (List.replicate 32 [.int .u32 0#32]) 0#32 0#32 [[.int .u32 0#32], [.int .u32 0#32]] [[.int .u32 0#32], [.int .u32 0#32]]
def bUart0 : Blk := bUart (List.replicate 16 [.int .u8 0#8]) 0#64 0#64 false
def bPow0 : Blk := bPow false
theorem zB_ex : ∃ l : List (List AV), l = zB 12288 := ⟨_, rfl⟩
theorem zT_ex : ∃ l : List (List AV), l = zT := ⟨_, rfl⟩
noncomputable def v_zB : List (List AV) := zB_ex.choose
noncomputable def v_zT : List (List AV) := zT_ex.choose
theorem zB_eq : v_zB = zB 12288 := zB_ex.choose_spec
theorem zT_eq : v_zT = zT := zT_ex.choose_spec
def g_lz (na ma : Nat) : Bool := Nat.ble na ma && Nat.blt na 9223372036854775808
noncomputable def mlzCps : ECps MlzS MlzR := fun R x K => match x with
  | .a rw na ma da => cond (g_lz na ma) (K (.a rw ma da 12288 (v_lyT 12288 v_zT (v_lyR na da 0)) 12288 (v_lyD 12288 v_zB (v_lyR na da 0)) bus1 bClint0 bPlic0 bUart0 bPow0)) none
  | .n => K (.n 12288 v_zT 12288 v_zB bus0 bClint0 bPlic0 bUart0 bPow0)
theorem rok_zero : Rok 12288 zT (zB 12288) := { ld := List.length_replicate, lg := rfl, lo := by decide, hi := by decide }
theorem mlzCps_ok : ECok mlzStep mlzCps := by
  intro R x K r h
  cases x with
  | a rw na ma da =>
    obtain ⟨hg, hk⟩ := condK h
    rw [zB_eq, zT_eq] at hk
    refine ⟨_, ?_, hk⟩
    unfold g_lz at hg
    unfold mlzStep
    dsimp only
    rw [show g_ly 12288 zT 12288 (zB 12288) na ma 0#64 = true by unfold g_ly; rw [rok_zero.ram]; rw [Bool.and_eq_true] at hg; rw [hg.1, hg.2]; rfl]
    rfl
  | n =>
    unfold mlzCps at h
    dsimp only at h
    rw [zB_eq, zT_eq] at h
    exact ⟨_, rfl, h⟩
end Go.Sx


/- Several texts in one. -/
import Derived.Test.YtkbcfbehebbmhaaGreatSxX
import Derived.Test.YtkbcfbehebbmhaaGreatSxLen2
import Derived.Test.YtkbcfbehebbmhaaGreatSxEC
import Derived.Test.YtkbcfbehebbmhaaGreatVa03
import Derived.Test.YtkbcfbehebbmhaaGreatPlWkS
import Derived.Test.YtkbcfbehebbmhaaGreatPlWkM2
set_option linter.unusedSimpArgs false
set_option linter.unusedVariables false
set_option linter.unnecessarySimpa false
/- What loops do, round by round. -/
namespace Go.Sx
open Go

/-! ### Said -/
inductive MszS where
  | a (rw : Bool) (na : Nat) (ma : Nat) (da : List (List AV))
  | n 
inductive MszR where
  | a (rw : Bool) (ma : Nat) (da : List (List AV)) (nx : Nat) (t : Nat) (mx : Nat) (dx : List (List AV)) (mt : Nat) (T : List (List AV)) (b1 : Blk) (b5 : Blk) (b6 : Blk) (b7 : Blk) (b8 : Blk)
  | n (nx : Nat) (t : Nat) (mx : Nat) (dx : List (List AV)) (mt : Nat) (T : List (List AV)) (b0 : Blk) (b4 : Blk) (b5 : Blk) (b6 : Blk) (b7 : Blk)
noncomputable def mszA : MszS → List AV
  | .a _ na _ _ => [.slice ⟨0, 0, 0, 2, 0⟩ 2 na]
  | .n => [.nilslice]
noncomputable def mszH : MszS → Heap
  | .a rw _ ma da => [(0, ⟨rw, [.arr [.int .i64, .int .u64] ma da]⟩)]
  | .n => []
noncomputable def mszDec (args : List AV) (H : Heap) : Option MszS := match args, H with
  | [.slice ⟨0, 0, 0, 2, 0⟩ 2 na], [(0, ⟨rw, [.arr [.int .i64, .int .u64] ma da]⟩)] => some (.a rw na ma da)
  | [.nilslice], [] => some (.n)
  | _, _ => none
theorem mszDec_ok (args : List AV) (H : Heap) (x : MszS) (h : mszDec args H = some x) : args = mszA x ∧ H = mszH x := by
  unfold mszDec at h
  split at h
  all_goals first
    | (cases h; done)
    | (cases h; exact ⟨rfl, rfl⟩)
noncomputable def mszU : MszR → AV × Eff × Nat
  | .a rw ma da nx t mx dx mt T b1 b5 b6 b7 b8 => (.ptr ⟨1, 0, 0, 0, 0⟩, [(8, some b8), (7, some b7), (6, some b6), (5, some b5), (4, some ⟨true, [.arr [.bool] mt T]⟩), (3, some ⟨true, [.arr [.int .u8] mx dx]⟩), (2, some ⟨true, [.cell (.slice ⟨3, 0, 0, 1, 0⟩ 1 nx), .cell (.slice ⟨4, 0, 0, 1, 0⟩ 1 t)]⟩), (1, some b1), (0, some ⟨rw, [.arr [.int .i64, .int .u64] ma da]⟩)], 9)
  | .n nx t mx dx mt T b0 b4 b5 b6 b7 => (.ptr ⟨0, 0, 0, 0, 0⟩, [(1, some ⟨true, [.cell (.slice ⟨2, 0, 0, 1, 0⟩ 1 nx), .cell (.slice ⟨3, 0, 0, 1, 0⟩ 1 t)]⟩), (3, some ⟨true, [.arr [.bool] mt T]⟩), (2, some ⟨true, [.arr [.int .u8] mx dx]⟩), (4, some b4), (5, some b5), (6, some b6), (7, some b7), (0, some b0)], 8)
noncomputable def mszDecR_a (v : AV) (e : Eff) (k : Nat) : Option MszR := match v, e, k with
  | .ptr ⟨1, 0, 0, 0, 0⟩, [(8, some b8), (7, some b7), (6, some b6), (5, some b5), (4, some ⟨true, [.arr [.bool] mt T]⟩), (3, some ⟨true, [.arr [.int .u8] mx dx]⟩), (2, some ⟨true, [.cell (.slice ⟨3, 0, 0, 1, 0⟩ 1 nx), .cell (.slice ⟨4, 0, 0, 1, 0⟩ 1 t)]⟩), (1, some b1), (0, some ⟨rw, [.arr [.int .i64, .int .u64] ma da]⟩)], 9 => some (.a rw ma da nx t mx dx mt T b1 b5 b6 b7 b8)
  | _, _, _ => none
theorem mszDecR_a_ok (v : AV) (e : Eff) (k : Nat) (z : MszR) (h : mszDecR_a v e k = some z) : (v, e, k) = mszU z := by
  unfold mszDecR_a at h
  split at h
  all_goals first
    | (cases h; done)
    | (cases h; rfl)
noncomputable def mszDecR_n (v : AV) (e : Eff) (k : Nat) : Option MszR := match v, e, k with
  | .ptr ⟨0, 0, 0, 0, 0⟩, [(1, some ⟨true, [.cell (.slice ⟨2, 0, 0, 1, 0⟩ 1 nx), .cell (.slice ⟨3, 0, 0, 1, 0⟩ 1 t)]⟩), (3, some ⟨true, [.arr [.bool] mt T]⟩), (2, some ⟨true, [.arr [.int .u8] mx dx]⟩), (4, some b4), (5, some b5), (6, some b6), (7, some b7), (0, some b0)], 8 => some (.n nx t mx dx mt T b0 b4 b5 b6 b7)
  | _, _, _ => none
theorem mszDecR_n_ok (v : AV) (e : Eff) (k : Nat) (z : MszR) (h : mszDecR_n v e k = some z) : (v, e, k) = mszU z := by
  unfold mszDecR_n at h
  split at h
  all_goals first
    | (cases h; done)
    | (cases h; rfl)
noncomputable def mszDecR (v : AV) (e : Eff) (k : Nat) : Option MszR := orO (mszDecR_a v e k) (mszDecR_n v e k)
theorem mszDecR_ok (v : AV) (e : Eff) (k : Nat) (z : MszR) (h : mszDecR v e k = some z) : (v, e, k) = mszU z := (orO_some h).elim (fun h => mszDecR_a_ok _ _ _ _ h) (fun h => mszDecR_n_ok _ _ _ _ h)
noncomputable def mszStep : MszS → Option MszR
 | .a rw na ma da =>
 (cond (g_sy 12288 768 12288
 (zB 12288)
  768 (zF 768) na ma 0#64)
 (some (MszR.a rw ma da 12288 768 12288
 (v_lyD 12288
 (zB 12288)
 (v_lyR na da 0))
  768 (v_lyX 12288 (zF 768) (v_lyR na da 0)) xbus1 { rw := true, segs := bif true then [Seg.cell (AV.int IntKind.u64 0#64), Seg.cell (AV.int IntKind.u64 18446744073709551615#64), Seg.cell (AV.bool false)] else [] } { rw := true, segs := bif true then [Seg.arr [CK.int IntKind.i64, CK.bool, CK.bool, CK.bool, CK.bool] 32 [[AV.int IntKind.i64 0#64, AV.bool false, AV.bool false, AV.bool false, AV.bool false], [AV.int IntKind.i64 0#64, AV.bool false, AV.bool false, AV.bool false, AV.bool false], [AV.int IntKind.i64 0#64, AV.bool false, AV.bool false, AV.bool false, AV.bool false], [AV.int IntKind.i64 0#64, AV.bool false, AV.bool false, AV.bool false, AV.bool false], [AV.int IntKind.i64 0#64, AV.bool false, AV.bool false, AV.bool false, AV.bool false], [AV.int IntKind.i64 0#64, AV.bool false, AV.bool false, AV.bool false, AV.bool false], [AV.int IntKind.i64 0#64, AV.bool false, AV.bool false, AV.bool false, AV.bool false], [AV.int IntKind.i64 0#64, AV.bool false, AV.bool false, AV.bool false, AV.bool false], [AV.int IntKind.i64 0#64, AV.bool false, AV.bool false, AV.bool false, AV.bool false], [AV.int IntKind.i64 0#64, AV.bool false, AV.bool false, AV.bool false, AV.bool false], [AV.int IntKind.i64 0#64, AV.bool false, AV.bool false, AV.bool false, AV.bool false], [AV.int IntKind.i64 0#64, AV.bool false, AV.bool false, AV.bool false, AV.bool false], [AV.int IntKind.i64 0#64, AV.bool false, AV.bool false, AV.bool false, AV.bool false], [AV.int IntKind.i64 0#64, AV.bool false, AV.bool false, AV.bool false, AV.bool false], [AV.int IntKind.i64 0#64, AV.bool false, AV.bool false, AV.bool false, AV.bool false], [AV.int IntKind.i64 0#64, AV.bool false, AV.bool false, AV.bool false, AV.bool false], [AV.int IntKind.i64 0#64, AV.bool false, AV.bool false, AV.bool false, AV.bool false], [AV.int IntKind.i64 0#64, AV.bool false, AV.bool false, AV.bool false, AV.bool false], [AV.int IntKind.i64 0#64, AV.bool false, AV.bool false, AV.bool false, AV.bool false], [AV.int IntKind.i64 0#64, AV.bool false, AV.bool false, AV.bool false, AV.bool false], [AV.int IntKind.i64 0#64, AV.bool false, AV.bool false, AV.bool false, AV.bool false], [AV.int IntKind.i64 0#64, AV.bool false, AV.bool false, AV.bool false, AV.bool false], [AV.int IntKind.i64 0#64, AV.bool false, AV.bool false, AV.bool false, AV.bool false], [AV.int IntKind.i64 0#64, AV.bool false, AV.bool false, AV.bool false, AV.bool false], [AV.int IntKind.i64 0#64, AV.bool false, AV.bool false, AV.bool false, AV.bool false], [AV.int IntKind.i64 0#64, AV.bool false, AV.bool false, AV.bool false, AV.bool false], [AV.int IntKind.i64 0#64, AV.bool false, AV.bool false, AV.bool false, AV.bool false], [AV.int IntKind.i64 0#64, AV.bool false, AV.bool false, AV.bool false, AV.bool false], [AV.int IntKind.i64 0#64, AV.bool false, AV.bool false, AV.bool false, AV.bool false], [AV.int IntKind.i64 0#64, AV.bool false, AV.bool false, AV.bool false, AV.bool false], [AV.int IntKind.i64 0#64, AV.bool false, AV.bool false, AV.bool false, AV.bool false], [AV.int IntKind.i64 0#64, AV.bool false, AV.bool false, AV.bool false, AV.bool false]], Seg.arr [CK.int IntKind.i64] 2 [[AV.int IntKind.i64 0#64], [AV.int IntKind.i64 0#64]]] else [] } { rw := true, segs := bif true then [Seg.cell AV.nilslice, Seg.cell (AV.bool false), Seg.cell (AV.int IntKind.i64 18446744073709551615#64)] else [] } { rw := true, segs := bif true then [Seg.cell (AV.bool false)] else [] }))
 none)
 | .n =>
 (some (MszR.n 12288 768 12288
 (zB 12288)
  768 (zF 768) { rw := true, segs := [Seg.cell (AV.ptr { x := 1, off := 0, i := 0, sz := 0, j := 0 }), Seg.cell (AV.ptr { x := 4, off := 0, i := 0, sz := 0, j := 0 }), Seg.cell (AV.ptr { x := 5, off := 0, i := 0, sz := 0, j := 0 }), Seg.cell (AV.ptr { x := 6, off := 0, i := 0, sz := 0, j := 0 }), Seg.cell (AV.ptr { x := 7, off := 0, i := 0, sz := 0, j := 0 })] } { rw := true, segs := [Seg.cell (AV.int IntKind.u64 0#64), Seg.cell (AV.int IntKind.u64 18446744073709551615#64), Seg.cell (AV.bool false)] } { rw := true, segs := [Seg.arr [CK.int IntKind.i64, CK.bool, CK.bool, CK.bool, CK.bool] 32 [[AV.int IntKind.i64 0#64, AV.bool false, AV.bool false, AV.bool false, AV.bool false], [AV.int IntKind.i64 0#64, AV.bool false, AV.bool false, AV.bool false, AV.bool false], [AV.int IntKind.i64 0#64, AV.bool false, AV.bool false, AV.bool false, AV.bool false], [AV.int IntKind.i64 0#64, AV.bool false, AV.bool false, AV.bool false, AV.bool false], [AV.int IntKind.i64 0#64, AV.bool false, AV.bool false, AV.bool false, AV.bool false], [AV.int IntKind.i64 0#64, AV.bool false, AV.bool false, AV.bool false, AV.bool false], [AV.int IntKind.i64 0#64, AV.bool false, AV.bool false, AV.bool false, AV.bool false], [AV.int IntKind.i64 0#64, AV.bool false, AV.bool false, AV.bool false, AV.bool false], [AV.int IntKind.i64 0#64, AV.bool false, AV.bool false, AV.bool false, AV.bool false], [AV.int IntKind.i64 0#64, AV.bool false, AV.bool false, AV.bool false, AV.bool false], [AV.int IntKind.i64 0#64, AV.bool false, AV.bool false, AV.bool false, AV.bool false], [AV.int IntKind.i64 0#64, AV.bool false, AV.bool false, AV.bool false, AV.bool false], [AV.int IntKind.i64 0#64, AV.bool false, AV.bool false, AV.bool false, AV.bool false], [AV.int IntKind.i64 0#64, AV.bool false, AV.bool false, AV.bool false, AV.bool false], [AV.int IntKind.i64 0#64, AV.bool false, AV.bool false, AV.bool false, AV.bool false], [AV.int IntKind.i64 0#64, AV.bool false, AV.bool false, AV.bool false, AV.bool false], [AV.int IntKind.i64 0#64, AV.bool false, AV.bool false, AV.bool false, AV.bool false], [AV.int IntKind.i64 0#64, AV.bool false, AV.bool false, AV.bool false, AV.bool false], [AV.int IntKind.i64 0#64, AV.bool false, AV.bool false, AV.bool false, AV.bool false], [AV.int IntKind.i64 0#64, AV.bool false, AV.bool false, AV.bool false, AV.bool false], [AV.int IntKind.i64 0#64, AV.bool false, AV.bool false, AV.bool false, AV.bool false], [AV.int IntKind.i64 0#64, AV.bool false, AV.bool false, AV.bool false, AV.bool false], [AV.int IntKind.i64 0#64, AV.bool false, AV.bool false, AV.bool false, AV.bool false], [AV.int IntKind.i64 0#64, AV.bool false, AV.bool false, AV.bool false, AV.bool false], [AV.int IntKind.i64 0#64, AV.bool false, AV.bool false, AV.bool false, AV.bool false], [AV.int IntKind.i64 0#64, AV.bool false, AV.bool false, AV.bool false, AV.bool false], [AV.int IntKind.i64 0#64, AV.bool false, AV.bool false, AV.bool false, AV.bool false], [AV.int IntKind.i64 0#64, AV.bool false, AV.bool false, AV.bool false, AV.bool false], [AV.int IntKind.i64 0#64, AV.bool false, AV.bool false, AV.bool false, AV.bool false], [AV.int IntKind.i64 0#64, AV.bool false, AV.bool false, AV.bool false, AV.bool false], [AV.int IntKind.i64 0#64, AV.bool false, AV.bool false, AV.bool false, AV.bool false], [AV.int IntKind.i64 0#64, AV.bool false, AV.bool false, AV.bool false, AV.bool false]], Seg.arr [CK.int IntKind.i64] 2 [[AV.int IntKind.i64 0#64], [AV.int IntKind.i64 0#64]]] } { rw := true, segs := [Seg.cell AV.nilslice, Seg.cell (AV.bool false), Seg.cell (AV.int IntKind.i64 18446744073709551615#64)] } { rw := true, segs := [Seg.cell (AV.bool false)] }))
end Go.Sx

/- Said, as an answer; new memory is not reckoned with. -/
namespace Go.Sx
open Go
theorem zX_ex : ∃ l : List (List AV), l = zF 768 := ⟨_, rfl⟩
noncomputable def v_zX : List (List AV) := zX_ex.choose
theorem zX_eq : v_zX = zF 768 := zX_ex.choose_spec
def xClint0 : Blk := xClint 0#64 18446744073709551615#64 false
def xPlic0 : Blk := xPlic (List.replicate 32 [.int .i64 0#64, .bool false, .bool false, .bool false, .bool false]) [[.int .i64 0#64], [.int .i64 0#64]]
def xUart0 : Blk := xUart false 18446744073709551615#64
def xPow0 : Blk := xPow false
theorem mem_zero : Mem 12288 zT (zB 12288) 768 (zF 768) := Mem.zero (by decide) (by decide) (by decide)
noncomputable def mszCps : ECps MszS MszR := fun R x K => match x with
  | .a rw na ma da => cond (g_lz na ma) (K (.a rw ma da 12288 768 12288 (v_lyD 12288 v_zB (v_lyR na da 0)) 768 (v_lyX 12288 v_zX (v_lyR na da 0)) xbus1 xClint0 xPlic0 xUart0 xPow0)) none
  | .n => K (.n 12288 768 12288 v_zB 768 v_zX xbus0 xClint0 xPlic0 xUart0 xPow0)
theorem mszCps_ok : ECok mszStep mszCps := by
  intro R x K r h
  cases x with
  | a rw na ma da =>
    obtain ⟨hg, hk⟩ := condK h
    rw [zB_eq, zX_eq] at hk
    refine ⟨_, ?_, hk⟩
    unfold g_lz at hg
    unfold mszStep
    dsimp only
    rw [show g_sy 12288 768 12288 (zB 12288) 768 (zF 768) na ma 0#64 = true by unfold g_sy; rw [mem_zero.xram]; rw [Bool.and_eq_true] at hg; rw [hg.1, hg.2]; rfl]
    rfl
  | n =>
    unfold mszCps at h
    dsimp only at h
    rw [zB_eq, zX_eq] at h
    exact ⟨_, rfl, h⟩
end Go.Sx


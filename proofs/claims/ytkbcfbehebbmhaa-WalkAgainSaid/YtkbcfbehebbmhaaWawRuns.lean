import Derived.Test.YtkbcfbehebbmhaaSxLen2
import Derived.Test.YtkbcfbehebbmhaaSxAE
import Derived.Test.YtkbcfbehebbmhaaSxEC
import Derived.Test.YtkbcfbehebbmhaaSxX
import Derived.Test.YtkbcfbehebbmhaaSxAt6
import Derived.Test.YtkbcfbehebbmhaaVa03
import Derived.Test.YtkbcfbehebbmhaaVa11
import Derived.Test.YtkbcfbehebbmhaaPlRam3
import Derived.Test.YtkbcfbehebbmhaaPlRam4
import Derived.Test.YtkbcfbehebbmhaaPlRamU
import Derived.Test.YtkbcfbehebbmhaaPlRamR
import Derived.Test.YtkbcfbehebbmhaaVl15a
import Derived.Test.YtkbcfbehebbmhaaPlBusO
import Derived.Test.YtkbcfbehebbmhaaVa21
import Derived.Test.YtkbcfbehebbmhaaPlBusB1
import Derived.Test.YtkbcfbehebbmhaaVl21a
import Derived.Test.YtkbcfbehebbmhaaPlWkB
import Derived.Test.YtkbcfbehebbmhaaVa21w
import Derived.KernelRfl
import Derived.Test.YtkbcfbehebbmhaaProg
set_option linter.unusedSimpArgs false
set_option linter.unusedVariables false
set_option linter.unnecessarySimpa false
/- What the functions of the seat answer. -/
namespace Go.Proofs.Ytkbcfbehebbmhaa.K
open Go Go.Sx Go.Proofs
set_option maxRecDepth 100000
set_option maxHeartbeats 4000000

/- ravelin/ram.New -/
def F27 : Cfg := { F := 400, roots := [0, 1, 2], fl := ⟨false, false⟩ }
noncomputable def C_27 : Oracle := inlS Try.prog 27 Try.f27 F27 nothing (nothing)
theorem C_27_snd : Snd Try.prog C_27 := inlS_snd Try.func27 (by kernel_rfl) nothing_snd nothing_snd

/- ravelin/clint.New -/
def F28 : Cfg := { F := 400, roots := [0], fl := ⟨false, false⟩ }
noncomputable def C_28 : Oracle := inlS Try.prog 28 Try.f28 F28 C_27 (C_27)
theorem C_28_snd : Snd Try.prog C_28 := inlS_snd Try.func28 (by kernel_rfl) C_27_snd C_27_snd

/- ravelin/plic.New -/
def F29 : Cfg := { F := 400, roots := [0], fl := ⟨false, false⟩ }
noncomputable def C_29 : Oracle := inlS Try.prog 29 Try.f29 F29 C_28 (C_28)
theorem C_29_snd : Snd Try.prog C_29 := inlS_snd Try.func29 (by kernel_rfl) C_28_snd C_28_snd

/- ravelin/serial.New -/
def F30 : Cfg := { F := 400, roots := [0], fl := ⟨false, false⟩ }
noncomputable def C_30 : Oracle := inlS Try.prog 30 Try.f30 F30 C_29 (C_29)
theorem C_30_snd : Snd Try.prog C_30 := inlS_snd Try.func30 (by kernel_rfl) C_29_snd C_29_snd

/- ravelin/serial.NewPower -/
def F31 : Cfg := { F := 400, roots := [0], fl := ⟨false, false⟩ }
noncomputable def C_31 : Oracle := inlS Try.prog 31 Try.f31 F31 C_30 (C_30)
theorem C_31_snd : Snd Try.prog C_31 := inlS_snd Try.func31 (by kernel_rfl) C_30_snd C_30_snd

/- ravelin/bus.New -/
def F15 : Cfg := { F := 400, roots := [0, 1, 2, 3, 4], fl := ⟨false, false⟩ }
noncomputable def C_15 : Oracle := inlS Try.prog 15 Try.f15 F15 C_31 (C_31)
theorem C_15_snd : Snd Try.prog C_15 := inlS_snd Try.func15 (by kernel_rfl) C_31_snd C_31_snd

/- ravelin/ravelinkit.Pick -/
def F14 : Cfg := { F := 400, roots := [0, 1, 2], fl := ⟨true, false⟩ }
theorem run_14 : ∀ (k : BitVec 64) (n : BitVec 64), pureRun Try.prog C_15 F14 Try.f14 [.int .i64 k, .int .i64 n] = some (.int .i64 (v_kit_Pick k n)) := fun k n =>
 (show pureRun Try.prog C_15 F14 Try.f14 [.int .i64 k, .int .i64 n] = t_kit_Pick k n by kernel_rfl).trans (t_kit_Pick_eq k n)
noncomputable def C_14 : Oracle := pureE 14 (pure2 dI64 dI64 (fun k n => .int .i64 (v_kit_Pick k n))) (C_15)
theorem C_14_snd : Snd Try.prog C_14 := pureE_snd (pure2_ok (F := F14) (C_15_snd) Try.func14 (by kernel_rfl) run_14 (fun _ _ => rfl)) (C_15_snd)

/- (*ravelin/ram.Ram).Len -/
def F37 : Cfg := { F := 400, roots := [0, 1], fl := ⟨false, false⟩ }
noncomputable def C_37 : Oracle := quiS Try.prog 37 Try.f37 F37 C_14 (C_14)
theorem C_37_snd : Snd Try.prog C_37 := quiS_snd Try.func37 (by kernel_rfl) C_14_snd C_14_snd

/- (*ravelin/bus.Bus).regions -/
def F23 : Cfg := { F := 400, roots := [0, 1], fl := ⟨false, false⟩ }
noncomputable def C_23 : Oracle := inlS Try.prog 23 Try.f23 F23 C_37 (C_37)
theorem C_23_snd : Snd Try.prog C_23 := inlS_snd Try.func23 (by kernel_rfl) C_37_snd C_37_snd

/- (ravelin/bus.region).off -/
def F24 : Cfg := { F := 400, roots := [0, 1, 2, 3, 4, 5], fl := ⟨false, false⟩ }
noncomputable def C_24 : Oracle := inlS Try.prog 24 Try.f24 F24 C_23 (C_23)
theorem C_24_snd : Snd Try.prog C_24 := inlS_snd Try.func24 (by kernel_rfl) C_23_snd C_23_snd

/- an entry: are bytes in a region? -/
def FE_24_mbo : Cfg := { F := 400, roots := [0, 1, 2, 3, 4, 5, 6, 7, 8, 9, 10, 11], fl := ⟨false, false⟩, laws := [] }
noncomputable def C_24_mbo : Oracle := elC 24 mboDec mboCps mboU (C_24)
theorem nx_24_mbo_r : ∀ (n : Nat) (tg : List (List AV)) (m : Nat) (d : List (List AV)) (t2 : Nat) (bg : BitVec 64) (sz : BitVec 64) (pa : BitVec 64) (size : BitVec 64), inlineA Try.prog (C_23) (drawA Try.prog) FE_24_mbo Try.f24 (mboA (.r n tg m d t2 bg sz pa size)) (mboH (.r n tg m d t2 bg sz pa size)) (mboH (.r n tg m d t2 bg sz pa size)).length mboDecR = mboStep (.r n tg m d t2 bg sz pa size) := fun _ _ _ _ _ _ _ _ _ => by kernel_rfl
theorem nx_24_mbo_c : ∀ (c0 : BitVec 64) (c1 : BitVec 64) (c2 : BitVec 64) (t2 : Nat) (bg : BitVec 64) (sz : BitVec 64) (pa : BitVec 64) (size : BitVec 64), inlineA Try.prog (C_23) (drawA Try.prog) FE_24_mbo Try.f24 (mboA (.c c0 c1 c2 t2 bg sz pa size)) (mboH (.c c0 c1 c2 t2 bg sz pa size)) (mboH (.c c0 c1 c2 t2 bg sz pa size)).length mboDecR = mboStep (.c c0 c1 c2 t2 bg sz pa size) := fun _ _ _ _ _ _ _ _ => by kernel_rfl
theorem nx_24_mbo_p : ∀ (pr : List (List AV)) (p1 : BitVec 32) (p2 : BitVec 32) (en : List (List AV)) (th : List (List AV)) (t2 : Nat) (bg : BitVec 64) (sz : BitVec 64) (pa : BitVec 64) (size : BitVec 64), inlineA Try.prog (C_23) (drawA Try.prog) FE_24_mbo Try.f24 (mboA (.p pr p1 p2 en th t2 bg sz pa size)) (mboH (.p pr p1 p2 en th t2 bg sz pa size)) (mboH (.p pr p1 p2 en th t2 bg sz pa size)).length mboDecR = mboStep (.p pr p1 p2 en th t2 bg sz pa size) := fun _ _ _ _ _ _ _ _ _ _ => by kernel_rfl
theorem nx_24_mbo_u : ∀ (q : List (List AV)) (u1 : BitVec 64) (u2 : BitVec 64) (u3 : Bool) (t2 : Nat) (bg : BitVec 64) (sz : BitVec 64) (pa : BitVec 64) (size : BitVec 64), inlineA Try.prog (C_23) (drawA Try.prog) FE_24_mbo Try.f24 (mboA (.u q u1 u2 u3 t2 bg sz pa size)) (mboH (.u q u1 u2 u3 t2 bg sz pa size)) (mboH (.u q u1 u2 u3 t2 bg sz pa size)).length mboDecR = mboStep (.u q u1 u2 u3 t2 bg sz pa size) := fun _ _ _ _ _ _ _ _ _ => by kernel_rfl
theorem nx_24_mbo_w : ∀ (w : Bool) (t2 : Nat) (bg : BitVec 64) (sz : BitVec 64) (pa : BitVec 64) (size : BitVec 64), inlineA Try.prog (C_23) (drawA Try.prog) FE_24_mbo Try.f24 (mboA (.w w t2 bg sz pa size)) (mboH (.w w t2 bg sz pa size)) (mboH (.w w t2 bg sz pa size)).length mboDecR = mboStep (.w w t2 bg sz pa size) := fun _ _ _ _ _ _ => by kernel_rfl
noncomputable def EL_24_mbo : EL Try.prog (C_23) FE_24_mbo Try.f24 MboS MboR :=
  { eA := mboA, eH := mboH, dec := mboDec, dec_ok := mboDec_ok, enc := mboU, decR := mboDecR, decR_ok := mboDecR_ok, step := mboStep, hstep := fun x => match x with
      | .r n tg m d t2 bg sz pa size => nx_24_mbo_r n tg m d t2 bg sz pa size
      | .c c0 c1 c2 t2 bg sz pa size => nx_24_mbo_c c0 c1 c2 t2 bg sz pa size
      | .p pr p1 p2 en th t2 bg sz pa size => nx_24_mbo_p pr p1 p2 en th t2 bg sz pa size
      | .u q u1 u2 u3 t2 bg sz pa size => nx_24_mbo_u q u1 u2 u3 t2 bg sz pa size
      | .w w t2 bg sz pa size => nx_24_mbo_w w t2 bg sz pa size
  }
theorem C_24_mbo_snd : Snd Try.prog C_24_mbo := elC_snd EL_24_mbo (C_23_snd) Try.func24 (by kernel_rfl) (cps := mboCps) mboCps_ok (C_24_snd)

/- (*ravelin/bus.Bus).find -/
def F32 : Cfg := { F := 400, roots := [0, 1, 2, 3, 4, 5, 6, 7, 8], fl := ⟨false, false⟩ }
noncomputable def C_32 : Oracle := inlS Try.prog 32 Try.f32 F32 C_24_mbo (C_24_mbo)
theorem C_32_snd : Snd Try.prog C_32 := inlS_snd Try.func32 (by kernel_rfl) C_24_mbo_snd C_24_mbo_snd

/- (*ravelin/ram.Ram).part -/
def F38 : Cfg := { F := 400, roots := [0, 1, 2, 3, 4], fl := ⟨false, false⟩ }
noncomputable def C_38 : Oracle := inlS Try.prog 38 Try.f38 F38 C_32 (C_32)
theorem C_38_snd : Snd Try.prog C_38 := inlS_snd Try.func38 (by kernel_rfl) C_32_snd C_32_snd

/- (*ravelin/ram.Ram).number -/
def F25 : Cfg := { F := 400, roots := [0, 1, 2, 3, 4], fl := ⟨false, false⟩ }
noncomputable def C_25 : Oracle := inlS Try.prog 25 Try.f25 F25 C_38 (C_38)
theorem C_25_snd : Snd Try.prog C_25 := inlS_snd Try.func25 (by kernel_rfl) C_38_snd C_38_snd

/- a loop of ravelin/ram.put -/
noncomputable def FL_56_mpl : Cfg := { F := 400, roots := [0, 1, 6, 7], fl := ⟨false, false⟩, laws := [] }
noncomputable def LC_56_mpl : Code := loopIn 0 Try.f56
theorem nx_56_mpl_a : ∀ (m : Nat) (d : List (List AV)) (o : Nat) (n : Nat) (v : BitVec 64) (ln : BitVec 64) (ix : BitVec 64), codeA Try.prog (C_25) (drawA Try.prog FL_56_mpl.fl Try.f56.ntmps (C_25)) FL_56_mpl Try.f56.ntmps LC_56_mpl (tmOf [0, 1, 6, 7] (mplT (.a m d o n v ln ix))) (mplH (.a m d o n v ln ix)) (mplN (.a m d o n v ln ix)) (roundK 1 [0, 1, 6, 7] [0, 1, 6, 7] [] mplDec mplDecE) = mplStep (.a m d o n v ln ix) := fun _ _ _ _ _ _ _ => by kernel_rfl
noncomputable def LL_56_mpl : LL Try.prog (C_25) Try.f56.ntmps (drawA Try.prog FL_56_mpl.fl Try.f56.ntmps (C_25)) FL_56_mpl LC_56_mpl MplS MplE :=
  { N0 := 1, rts := [0, 1, 6, 7], kT := [0, 1, 6, 7], vT := mplT, hT := mplH, nT := mplN, dec := mplDec, dec_ok := mplDec_ok, kE := [], oE := mplO, vE := mplV, hE := mplG, nE := mplM, decE := mplDecE, decE_ok := mplDecE_ok, step := mplStep,
    hstep := fun x => match x with
      | .a m d o n v ln ix => nx_56_mpl_a m d o n v ln ix
  }
theorem hs_56_mpl : HSnd Try.prog Try.f56.ntmps (.block 0 (.loop LC_56_mpl)) (llH 1 [0, 1, 6, 7] mplDec 0 mplCps) :=
  LL.handler_snd LL_56_mpl (C_25_snd) (drawA_sound (C_25_snd)) (laws_nil) 0 (cps := mplCps) mplCps_ok

/- ravelin/ram.put -/
noncomputable def F56 : Cfg := { F := 400, roots := [0, 1, 2, 3, 4], fl := ⟨false, false⟩, laws := [(0, llH 1 [0, 1, 6, 7] mplDec 0 mplCps)] }
theorem fok_56 : FOK Try.prog Try.f56 F56 := fok_of (laws_cons (subs_one (b := .block 0 (.loop LC_56_mpl)) (by kernel_rfl) hs_56_mpl) (laws_nil))
noncomputable def C_56 : Oracle := inlS Try.prog 56 Try.f56 F56 C_25 (C_25)
theorem C_56_snd : Snd Try.prog C_56 := inlS_snd Try.func56 (by kernel_rfl) C_25_snd C_25_snd (hF := fok_56)

/- an entry: a number laid -/
noncomputable def FE_56_mpu : Cfg := { F := 400, roots := [0, 1, 2, 3, 4, 5, 6, 7, 8, 9, 10, 11], fl := ⟨false, false⟩, laws := [(0, llH 1 [0, 1, 6, 7] mplDec 0 mplCps)] }
noncomputable def C_56_mpu : Oracle := elC 56 mpuDec mpuCps mpuU (C_56)
theorem nx_56_mpu_a : ∀ (m : Nat) (d : List (List AV)) (o : Nat) (n : Nat) (v : BitVec 64), inlineA Try.prog (C_25) (drawA Try.prog) FE_56_mpu Try.f56 (mpuA (.a m d o n v)) (mpuH (.a m d o n v)) (mpuH (.a m d o n v)).length mpuDecR = mpuStep (.a m d o n v) := fun _ _ _ _ _ => by kernel_rfl
noncomputable def EL_56_mpu : EL Try.prog (C_25) FE_56_mpu Try.f56 MpuS MpuR :=
  { eA := mpuA, eH := mpuH, dec := mpuDec, dec_ok := mpuDec_ok, enc := mpuU, decR := mpuDecR, decR_ok := mpuDecR_ok, step := mpuStep, hstep := fun x => match x with
      | .a m d o n v => nx_56_mpu_a m d o n v
  }
theorem foke_56_mpu : FOK Try.prog Try.f56 FE_56_mpu := fok_of (laws_cons (subs_one (b := .block 0 (.loop LC_56_mpl)) (by kernel_rfl) hs_56_mpl) (laws_nil))
theorem C_56_mpu_snd : Snd Try.prog C_56_mpu := elC_snd EL_56_mpu (C_25_snd) Try.func56 (by kernel_rfl) (cps := mpuCps) mpuCps_ok (C_56_snd) (hF := foke_56_mpu)

/- (*ravelin/ram.Ram).tag -/
def F57 : Cfg := { F := 400, roots := [0, 1, 2, 3, 4], fl := ⟨false, false⟩ }
noncomputable def C_57 : Oracle := inlS Try.prog 57 Try.f57 F57 C_56_mpu (C_56_mpu)
theorem C_57_snd : Snd Try.prog C_57 := inlS_snd Try.func57 (by kernel_rfl) C_56_mpu_snd C_56_mpu_snd

/- (*ravelin/ram.Ram).Store -/
def F55 : Cfg := { F := 400, roots := [0, 1, 2, 3, 4, 5, 6, 7, 8, 9, 10], fl := ⟨false, false⟩ }
noncomputable def C_55 : Oracle := inlS Try.prog 55 Try.f55 F55 C_57 (C_57)
theorem C_55_snd : Snd Try.prog C_55 := inlS_snd Try.func55 (by kernel_rfl) C_57_snd C_57_snd

/- an entry: a store -/
def FE_55_mrs : Cfg := { F := 400, roots := [0, 1, 2, 3, 4, 5, 6, 7, 8, 9, 10, 11], fl := ⟨false, false⟩, laws := [] }
noncomputable def C_55_mrs : Oracle := elC 55 mrsDec mrsCps mrsU (C_55)
theorem nx_55_mrs_a : ∀ (n : Nat) (tg : List (List AV)) (m : Nat) (d : List (List AV)) (off : BitVec 64) (size : BitVec 64) (v : BitVec 64), inlineA Try.prog (C_57) (drawA Try.prog) FE_55_mrs Try.f55 (mrsA (.a n tg m d off size v)) (mrsH (.a n tg m d off size v)) (mrsH (.a n tg m d off size v)).length mrsDecR = mrsStep (.a n tg m d off size v) := fun _ _ _ _ _ _ _ => by kernel_rfl
noncomputable def EL_55_mrs : EL Try.prog (C_57) FE_55_mrs Try.f55 MrsS MrsR :=
  { eA := mrsA, eH := mrsH, dec := mrsDec, dec_ok := mrsDec_ok, enc := mrsU, decR := mrsDecR, decR_ok := mrsDecR_ok, step := mrsStep, hstep := fun x => match x with
      | .a n tg m d off size v => nx_55_mrs_a n tg m d off size v
  }
theorem C_55_mrs_snd : Snd Try.prog C_55_mrs := elC_snd EL_55_mrs (C_57_snd) Try.func55 (by kernel_rfl) (cps := mrsCps) mrsCps_ok (C_55_snd)

/- ravelin/clint.part -/
def F61 : Cfg := { F := 400, roots := [0, 1, 2, 3, 4], fl := ⟨false, false⟩ }
noncomputable def C_61 : Oracle := inlS Try.prog 61 Try.f61 F61 C_55_mrs (C_55_mrs)
theorem C_61_snd : Snd Try.prog C_61 := inlS_snd Try.func61 (by kernel_rfl) C_55_mrs_snd C_55_mrs_snd

/- sync/atomic.StoreUint64 -/
noncomputable def C_66 : Oracle := atStoreE64 66 (C_61)
theorem C_66_snd : Snd Try.prog C_66 := atStoreE64_snd Try.func66 (by kernel_rfl) (by kernel_rfl) (by kernel_rfl) (by kernel_rfl) (C_61_snd)

/- (*sync/atomic.Uint64).Store -/
def F64 : Cfg := { F := 400, roots := [0, 1], fl := ⟨false, false⟩ }
noncomputable def C_64 : Oracle := inlS Try.prog 64 Try.f64 F64 C_66 (C_66)
theorem C_64_snd : Snd Try.prog C_64 := inlS_snd Try.func64 (by kernel_rfl) C_66_snd C_66_snd

/- sync/atomic.LoadUint64 -/
noncomputable def C_67 : Oracle := atLoadE64 67 (C_64)
theorem C_67_snd : Snd Try.prog C_67 := atLoadE64_snd Try.func67 (by kernel_rfl) (by kernel_rfl) (by kernel_rfl) (by kernel_rfl) (C_64_snd)

/- (*sync/atomic.Uint64).Load -/
def F65 : Cfg := { F := 400, roots := [0, 1], fl := ⟨false, false⟩ }
noncomputable def C_65 : Oracle := quiS Try.prog 65 Try.f65 F65 C_67 (C_67)
theorem C_65_snd : Snd Try.prog C_65 := quiS_snd Try.func65 (by kernel_rfl) C_67_snd C_67_snd

/- (*ravelin/clint.Clint).Time -/
def F62 : Cfg := { F := 400, roots := [0, 1], fl := ⟨false, false⟩ }
noncomputable def C_62 : Oracle := quiS Try.prog 62 Try.f62 F62 C_65 (C_65)
theorem C_62_snd : Snd Try.prog C_62 := quiS_snd Try.func62 (by kernel_rfl) C_65_snd C_65_snd

/- (*ravelin/clint.Clint).Store$1 -/
def F63 : Cfg := { F := 400, roots := [0, 1], fl := ⟨false, false⟩ }
noncomputable def C_63 : Oracle := inlS Try.prog 63 Try.f63 F63 C_62 (C_62)
theorem C_63_snd : Snd Try.prog C_63 := inlS_snd Try.func63 (by kernel_rfl) C_62_snd C_62_snd

/- ravelin/plic.which -/
def F71 : Cfg := { F := 400, roots := [0, 1, 2, 3, 4], fl := ⟨false, false⟩ }
noncomputable def C_71 : Oracle := inlS Try.prog 71 Try.f71 F71 C_63 (C_63)
theorem C_71_snd : Snd Try.prog C_71 := inlS_snd Try.func71 (by kernel_rfl) C_63_snd C_63_snd

/- sync/atomic.AndUint32 -/
noncomputable def C_78 : Oracle := atUpdE 78 opAnd (C_71)
theorem C_78_snd : Snd Try.prog C_78 := atUpdE_snd (o := Op.intBits .and) Try.func78 (by kernel_rfl) (by kernel_rfl) (by kernel_rfl) (by kernel_rfl) opAnd_ok (C_71_snd)

/- (*sync/atomic.Uint32).And -/
def F74 : Cfg := { F := 400, roots := [0, 1, 2], fl := ⟨false, false⟩ }
noncomputable def C_74 : Oracle := inlS Try.prog 74 Try.f74 F74 C_78 (C_78)
theorem C_74_snd : Snd Try.prog C_74 := inlS_snd Try.func74 (by kernel_rfl) C_78_snd C_78_snd

/- ravelin/serial.there -/
def F83 : Cfg := { F := 400, roots := [0, 1, 2], fl := ⟨false, false⟩ }
noncomputable def C_83 : Oracle := inlS Try.prog 83 Try.f83 F83 C_74 (C_74)
theorem C_83_snd : Snd Try.prog C_83 := inlS_snd Try.func83 (by kernel_rfl) C_74_snd C_74_snd

/- (*ravelin/bus.Bus).Store -/
def F16 : Cfg := { F := 400, roots := [0, 1, 2, 3, 4, 5, 6], fl := ⟨false, false⟩ }
noncomputable def C_16 : Oracle := inlS Try.prog 16 Try.f16 F16 C_83 (C_83)
theorem C_16_snd : Snd Try.prog C_16 := inlS_snd Try.func16 (by kernel_rfl) C_83_snd C_83_snd

/- ravelin/ravelinlaw21.Lay -/
def F8 : Cfg := { F := 400, roots := [0, 1, 2, 3, 4, 5], fl := ⟨false, false⟩ }
noncomputable def C_8 : Oracle := inlS Try.prog 8 Try.f8 F8 C_16 (C_16)
theorem C_8_snd : Snd Try.prog C_8 := inlS_snd Try.func8 (by kernel_rfl) C_16_snd C_16_snd

/- ravelin/ravelinlaw21.table -/
def F13 : Cfg := { F := 400, roots := [0], fl := ⟨false, false⟩ }
noncomputable def C_13 : Oracle := inlS Try.prog 13 Try.f13 F13 C_8 (C_8)
theorem C_13_snd : Snd Try.prog C_13 := inlS_snd Try.func13 (by kernel_rfl) C_8_snd C_8_snd

/- (*ravelin/bus.Bus).InRam -/
def F10 : Cfg := { F := 400, roots := [0, 1, 2, 3, 4, 5], fl := ⟨false, false⟩ }
noncomputable def C_10 : Oracle := inlS Try.prog 10 Try.f10 F10 C_13 (C_13)
theorem C_10_snd : Snd Try.prog C_10 := inlS_snd Try.func10 (by kernel_rfl) C_13_snd C_13_snd

/- a loop of ravelin/ram.get -/
noncomputable def FL_26_mgl : Cfg := { F := 400, roots := [2, 5, 6, 7], fl := ⟨false, false⟩, laws := [] }
noncomputable def LC_26_mgl : Code := loopIn 0 Try.f26
theorem nx_26_mgl_a : ∀ (rw : Bool) (m : Nat) (d : List (List AV)) (o : Nat) (n : Nat) (v : BitVec 64) (ln : BitVec 64) (ix : BitVec 64), codeA Try.prog (C_10) (drawA Try.prog FL_26_mgl.fl Try.f26.ntmps (C_10)) FL_26_mgl Try.f26.ntmps LC_26_mgl (tmOf [2, 5, 6, 7] (mglT (.a rw m d o n v ln ix))) (mglH (.a rw m d o n v ln ix)) (mglN (.a rw m d o n v ln ix)) (roundK 1 [2, 5, 6, 7] [2, 5, 6, 7] [2] mglDec mglDecE) = mglStep (.a rw m d o n v ln ix) := fun _ _ _ _ _ _ _ _ => by kernel_rfl
noncomputable def LL_26_mgl : LL Try.prog (C_10) Try.f26.ntmps (drawA Try.prog FL_26_mgl.fl Try.f26.ntmps (C_10)) FL_26_mgl LC_26_mgl MglS MglE :=
  { N0 := 1, rts := [2, 5, 6, 7], kT := [2, 5, 6, 7], vT := mglT, hT := mglH, nT := mglN, dec := mglDec, dec_ok := mglDec_ok, kE := [2], oE := mglO, vE := mglV, hE := mglG, nE := mglM, decE := mglDecE, decE_ok := mglDecE_ok, step := mglStep,
    hstep := fun x => match x with
      | .a rw m d o n v ln ix => nx_26_mgl_a rw m d o n v ln ix
  }
theorem hs_26_mgl : HSnd Try.prog Try.f26.ntmps (.block 0 (.loop LC_26_mgl)) (orH 1 (llH 1 [2, 5, 6, 7] mglDec 0 mglCps) (selfH Try.prog (C_10) (drawA Try.prog FL_26_mgl.fl Try.f26.ntmps (C_10)) FL_26_mgl Try.f26.ntmps (.block 0 (.loop LC_26_mgl)))) :=
  orH_snd (LL.handler_snd LL_26_mgl (C_10_snd) (drawA_sound (C_10_snd)) (laws_nil) 0 (cps := mglCps) mglCps_ok) (selfH_snd (C_10_snd) (drawA_sound (C_10_snd)) (laws_nil))

/- ravelin/ram.get -/
noncomputable def F26 : Cfg := { F := 400, roots := [0, 1, 2, 3, 4], fl := ⟨false, false⟩, laws := [(0, orH 1 (llH 1 [2, 5, 6, 7] mglDec 0 mglCps) (selfH Try.prog (C_10) (drawA Try.prog FL_26_mgl.fl Try.f26.ntmps (C_10)) FL_26_mgl Try.f26.ntmps (.block 0 (.loop LC_26_mgl))))] }
theorem fok_26 : FOK Try.prog Try.f26 F26 := fok_of (laws_cons (subs_one (b := .block 0 (.loop LC_26_mgl)) (by kernel_rfl) hs_26_mgl) (laws_nil))
noncomputable def C_26 : Oracle := inlS Try.prog 26 Try.f26 F26 C_10 (C_10)
theorem C_26_snd : Snd Try.prog C_26 := inlS_snd Try.func26 (by kernel_rfl) C_10_snd C_10_snd (hF := fok_26)

/- an entry: a number of bytes -/
noncomputable def FE_26_mge : Cfg := { F := 400, roots := [0, 1, 2, 3, 4, 5, 6, 7, 8, 9, 10, 11], fl := ⟨false, false⟩, laws := [(0, orH 1 (llH 1 [2, 5, 6, 7] mglDec 0 mglCps) (selfH Try.prog (C_10) (drawA Try.prog FL_26_mgl.fl Try.f26.ntmps (C_10)) FL_26_mgl Try.f26.ntmps (.block 0 (.loop LC_26_mgl))))] }
noncomputable def C_26_mge : Oracle := elC 26 mgeDec mgeCps mgeU (C_26)
theorem nx_26_mge_s : ∀ (rw : Bool) (m : Nat) (d : List (List AV)) (o : Nat) (n : Nat), inlineA Try.prog (C_10) (drawA Try.prog) FE_26_mge Try.f26 (mgeA (.s rw m d o n)) (mgeH (.s rw m d o n)) (mgeH (.s rw m d o n)).length mgeDecR = mgeStep (.s rw m d o n) := fun _ _ _ _ _ => by kernel_rfl
theorem nx_26_mge_z : inlineA Try.prog (C_10) (drawA Try.prog) FE_26_mge Try.f26 (mgeA (.z )) (mgeH (.z )) (mgeH (.z )).length mgeDecR = mgeStep (.z ) := by kernel_rfl
noncomputable def EL_26_mge : EL Try.prog (C_10) FE_26_mge Try.f26 MgeS MgeR :=
  { eA := mgeA, eH := mgeH, dec := mgeDec, dec_ok := mgeDec_ok, enc := mgeU, decR := mgeDecR, decR_ok := mgeDecR_ok, step := mgeStep, hstep := fun x => match x with
      | .s rw m d o n => nx_26_mge_s rw m d o n
      | .z => nx_26_mge_z 
  }
theorem foke_26_mge : FOK Try.prog Try.f26 FE_26_mge := fok_of (laws_cons (subs_one (b := .block 0 (.loop LC_26_mgl)) (by kernel_rfl) hs_26_mgl) (laws_nil))
theorem C_26_mge_snd : Snd Try.prog C_26_mge := elC_snd EL_26_mge (C_10_snd) Try.func26 (by kernel_rfl) (cps := mgeCps) mgeCps_ok (C_26_snd) (hF := foke_26_mge)

/- (*ravelin/ram.Ram).Load -/
def F11 : Cfg := { F := 400, roots := [0, 1, 2, 3, 4, 5, 6], fl := ⟨false, false⟩ }
noncomputable def C_11 : Oracle := inlS Try.prog 11 Try.f11 F11 C_26_mge (C_26_mge)
theorem C_11_snd : Snd Try.prog C_11 := inlS_snd Try.func11 (by kernel_rfl) C_26_mge_snd C_26_mge_snd

/- an entry: a load -/
def FE_11_mrl : Cfg := { F := 400, roots := [0, 1, 2, 3, 4, 5, 6, 7, 8, 9, 10, 11], fl := ⟨false, false⟩, laws := [] }
noncomputable def C_11_mrl : Oracle := elC 11 mrlDec mrlCps mrlU (C_11)
theorem nx_11_mrl_a : ∀ (n : Nat) (tg : List (List AV)) (m : Nat) (d : List (List AV)) (off : BitVec 64) (size : BitVec 64), inlineA Try.prog (C_26_mge) (drawA Try.prog) FE_11_mrl Try.f11 (mrlA (.a n tg m d off size)) (mrlH (.a n tg m d off size)) (mrlH (.a n tg m d off size)).length mrlDecR = mrlStep (.a n tg m d off size) := fun _ _ _ _ _ _ => by kernel_rfl
noncomputable def EL_11_mrl : EL Try.prog (C_26_mge) FE_11_mrl Try.f11 MrlS MrlR :=
  { eA := mrlA, eH := mrlH, dec := mrlDec, dec_ok := mrlDec_ok, enc := mrlU, decR := mrlDecR, decR_ok := mrlDecR_ok, step := mrlStep, hstep := fun x => match x with
      | .a n tg m d off size => nx_11_mrl_a n tg m d off size
  }
theorem C_11_mrl_snd : Snd Try.prog C_11_mrl := elC_snd EL_11_mrl (C_26_mge_snd) Try.func11 (by kernel_rfl) (cps := mrlCps) mrlCps_ok (C_11_snd)

/- sync/atomic.LoadUint32 -/
noncomputable def C_75 : Oracle := atLoadE 75 (C_11_mrl)
theorem C_75_snd : Snd Try.prog C_75 := atLoadE_snd Try.func75 (by kernel_rfl) (by kernel_rfl) (by kernel_rfl) (by kernel_rfl) (C_11_mrl_snd)

/- (*sync/atomic.Uint32).Load -/
def F72 : Cfg := { F := 400, roots := [0, 1], fl := ⟨false, false⟩ }
noncomputable def C_72 : Oracle := quiS Try.prog 72 Try.f72 F72 C_75 (C_75)
theorem C_72_snd : Snd Try.prog C_72 := quiS_snd Try.func72 (by kernel_rfl) C_75_snd C_75_snd

/- (*ravelin/plic.Plic).best -/
def F76 : Cfg := { F := 400, roots := [0, 1, 2, 3, 4, 5], fl := ⟨false, false⟩ }
noncomputable def C_76 : Oracle := quiS Try.prog 76 Try.f76 F76 C_72 (C_72)
theorem C_76_snd : Snd Try.prog C_76 := quiS_snd Try.func76 (by kernel_rfl) C_72_snd C_72_snd

/- sync/atomic.OrUint32 -/
noncomputable def C_79 : Oracle := atUpdE 79 opOr (C_76)
theorem C_79_snd : Snd Try.prog C_79 := atUpdE_snd (o := Op.intBits .or) Try.func79 (by kernel_rfl) (by kernel_rfl) (by kernel_rfl) (by kernel_rfl) opOr_ok (C_76_snd)

/- (*sync/atomic.Uint32).Or -/
def F77 : Cfg := { F := 400, roots := [0, 1, 2], fl := ⟨false, false⟩ }
noncomputable def C_77 : Oracle := inlS Try.prog 77 Try.f77 F77 C_79 (C_79)
theorem C_77_snd : Snd Try.prog C_77 := inlS_snd Try.func77 (by kernel_rfl) C_79_snd C_79_snd

/- (*ravelin/plic.Plic).claim -/
def F73 : Cfg := { F := 400, roots := [0, 1, 2, 3], fl := ⟨false, false⟩ }
noncomputable def C_73 : Oracle := inlS Try.prog 73 Try.f73 F73 C_77 (C_77)
theorem C_73_snd : Snd Try.prog C_73 := inlS_snd Try.func73 (by kernel_rfl) C_77_snd C_77_snd

/- (*ravelin/serial.queue).next -/
def F84 : Cfg := { F := 400, roots := [0, 1, 2], fl := ⟨false, false⟩ }
noncomputable def C_84 : Oracle := inlS Try.prog 84 Try.f84 F84 C_73 (C_73)
theorem C_84_snd : Snd Try.prog C_84 := inlS_snd Try.func84 (by kernel_rfl) C_73_snd C_73_snd

/- ravelin/serial.one -/
def F85 : Cfg := { F := 400, roots := [0, 1], fl := ⟨false, false⟩ }
noncomputable def C_85 : Oracle := inlS Try.prog 85 Try.f85 F85 C_84 (C_84)
theorem C_85_snd : Snd Try.prog C_85 := inlS_snd Try.func85 (by kernel_rfl) C_84_snd C_84_snd

/- (*ravelin/serial.queue).Waits -/
def F86 : Cfg := { F := 400, roots := [0, 1], fl := ⟨false, false⟩ }
noncomputable def C_86 : Oracle := inlS Try.prog 86 Try.f86 F86 C_85 (C_85)
theorem C_86_snd : Snd Try.prog C_86 := inlS_snd Try.func86 (by kernel_rfl) C_85_snd C_85_snd

/- (*ravelin/bus.Bus).Load -/
def F18 : Cfg := { F := 400, roots := [0, 1, 2, 3, 4, 5, 6], fl := ⟨false, false⟩ }
noncomputable def C_18 : Oracle := inlS Try.prog 18 Try.f18 F18 C_86 (C_86)
theorem C_18_snd : Snd Try.prog C_18 := inlS_snd Try.func18 (by kernel_rfl) C_86_snd C_86_snd

/- (ravelin/pte.entry).has -/
def F33 : Cfg := { F := 400, roots := [0, 1, 2], fl := ⟨true, false⟩ }
theorem run_33 : ∀ (xe : BitVec 64) (bits : BitVec 64), pureRun Try.prog C_18 F33 Try.f33 [.int .u64 xe, .int .u64 bits] = some (.bool (v_pte_entry_has xe bits)) := fun xe bits =>
 (show pureRun Try.prog C_18 F33 Try.f33 [.int .u64 xe, .int .u64 bits] = (some (AV.bool (!xe &&& bits == 0#64))) by kernel_rfl).trans (rfl)
noncomputable def C_33 : Oracle := pureE 33 (pure2 dU64 dU64 (fun xe bits => .bool (v_pte_entry_has xe bits))) (C_18)
theorem C_33_snd : Snd Try.prog C_33 := pureE_snd (pure2_ok (F := F33) (C_18_snd) Try.func33 (by kernel_rfl) run_33 (fun _ _ => rfl)) (C_18_snd)

/- (ravelin/pte.entry).leaf -/
def F34 : Cfg := { F := 400, roots := [0, 1], fl := ⟨true, false⟩ }
theorem run_34 : ∀ (xe : BitVec 64), pureRun Try.prog C_33 F34 Try.f34 [.int .u64 xe] = some (.bool (v_pte_entry_leaf xe)) := fun xe =>
 (show pureRun Try.prog C_33 F34 Try.f34 [.int .u64 xe] = (some (AV.bool (v_pte_entry_has xe 10#64))) by kernel_rfl).trans (rfl)
noncomputable def C_34 : Oracle := pureE 34 (pure1 dU64 (fun xe => .bool (v_pte_entry_leaf xe))) (C_33)
theorem C_34_snd : Snd Try.prog C_34 := pureE_snd (pure1_ok (F := F34) (C_33_snd) Try.func34 (by kernel_rfl) run_34 (fun _ => rfl)) (C_33_snd)

/- (ravelin/pte.entry).page -/
def F35 : Cfg := { F := 400, roots := [0, 1], fl := ⟨true, false⟩ }
theorem run_35 : ∀ (xe : BitVec 64), pureRun Try.prog C_34 F35 Try.f35 [.int .u64 xe] = some (.int .u64 (v_pte_entry_page xe)) := fun xe =>
 (show pureRun Try.prog C_34 F35 Try.f35 [.int .u64 xe] = (some (AV.int (IntKind.u64) (xe >>> 10 &&& 17592186044415#64))) by kernel_rfl).trans (rfl)
noncomputable def C_35 : Oracle := pureE 35 (pure1 dU64 (fun xe => .int .u64 (v_pte_entry_page xe))) (C_34)
theorem C_35_snd : Snd Try.prog C_35 := pureE_snd (pure1_ok (F := F35) (C_34_snd) Try.func35 (by kernel_rfl) run_35 (fun _ => rfl)) (C_34_snd)

/- ravelin/pte.Right -/
def F19 : Cfg := { F := 400, roots := [0, 1, 2, 3], fl := ⟨true, false⟩ }
theorem run_19 : ∀ (p : BitVec 64) (level : BitVec 64), pureRun Try.prog C_35 F19 Try.f19 [.int .u64 p, .int .i64 level] = cond (g_pte_Right p level) (some (.bool (v_pte_Right p level))) none := fun p level =>
 (show pureRun Try.prog C_35 F19 Try.f19 [.int .u64 p, .int .i64 level] = (cond (level.slt 0#64)
 (some (AV.bool (false)))
 (cond ((2#64).slt level)
 (some (AV.bool (false)))
 (cond (!v_pte_entry_has p 1#64)
 (some (AV.bool (false)))
 (cond (v_pte_entry_has p 4593671619917905920#64)
 (some (AV.bool (false)))
 (cond (v_pte_entry_has p 4#64)
 (cond (!v_pte_entry_has p 2#64)
 (some (AV.bool (false)))
 (cond (v_pte_entry_leaf p)
 (cond (nonneg IntKind.i64 (9#64 * level))
 (some (AV.bool (v_pte_entry_page p &&& 1#64 <<< min (9#64 * level).toNat 64 - 1#64 == 0#64)))
        none)
 (cond ((0#64).slt level)
 (some (AV.bool (!v_pte_entry_has p 13835058055282163920#64)))
 (some (AV.bool (false))))))
 (cond (v_pte_entry_leaf p)
 (cond (nonneg IntKind.i64 (9#64 * level))
 (some (AV.bool (v_pte_entry_page p &&& 1#64 <<< min (9#64 * level).toNat 64 - 1#64 == 0#64)))
       none)
 (cond ((0#64).slt level)
 (some (AV.bool (!v_pte_entry_has p 13835058055282163920#64)))
 (some (AV.bool (false)))))))))) by kernel_rfl).trans ((merG _ (fun p => .bool p) rfl (merG _ (fun p => .bool p) rfl (merG _ (fun p => .bool p) rfl (merG _ (fun p => .bool p) rfl (merG _ (fun p => .bool p) (merG _ (fun p => .bool p) rfl (merG _ (fun p => .bool p) (merR _ (fun p => .bool p) rfl) (merG _ (fun p => .bool p) rfl rfl))) (merG _ (fun p => .bool p) (merR _ (fun p => .bool p) rfl) (merG _ (fun p => .bool p) rfl rfl))))))))
noncomputable def C_19 : Oracle := pureGE 19 (pure2 dU64 dI64 (fun p level => .tup [.bool (g_pte_Right p level), .bool (v_pte_Right p level)])) (C_35)
theorem C_19_snd : Snd Try.prog C_19 := pureGE_snd (pure2_gok (F := F19) (C_35_snd) Try.func19 (by kernel_rfl) run_19 (fun _ _ => rfl)) (C_35_snd)

/- ravelin/pte.Leaf -/
def F20 : Cfg := { F := 400, roots := [0, 1], fl := ⟨true, false⟩ }
theorem run_20 : ∀ (p : BitVec 64), pureRun Try.prog C_19 F20 Try.f20 [.int .u64 p] = some (.bool (v_pte_Leaf p)) := fun p =>
 (show pureRun Try.prog C_19 F20 Try.f20 [.int .u64 p] = (some (AV.bool (v_pte_entry_leaf p))) by kernel_rfl).trans (rfl)
noncomputable def C_20 : Oracle := pureE 20 (pure1 dU64 (fun p => .bool (v_pte_Leaf p))) (C_19)
theorem C_20_snd : Snd Try.prog C_20 := pureE_snd (pure1_ok (F := F20) (C_19_snd) Try.func20 (by kernel_rfl) run_20 (fun _ => rfl)) (C_19_snd)

/- (ravelin/pte.entry).whose -/
def F36 : Cfg := { F := 400, roots := [0, 1, 2, 3, 4], fl := ⟨true, false⟩ }
theorem run_36 : ∀ (xe : BitVec 64) (kind : BitVec 64) (priv : BitVec 64) (mstatus : BitVec 64), pureRun Try.prog C_20 F36 Try.f36 [.int .u64 xe, .int .i64 kind, .int .i64 priv, .int .u64 mstatus] = some (.bool (v_pte_entry_whose xe kind priv mstatus)) := fun xe kind priv mstatus =>
 (show pureRun Try.prog C_20 F36 Try.f36 [.int .u64 xe, .int .i64 kind, .int .i64 priv, .int .u64 mstatus] = (cond (priv == 0#64)
 (some (AV.bool (v_pte_entry_has xe 16#64)))
 (cond (v_pte_entry_has xe 16#64)
 (cond (!kind == 1#64)
 (some (AV.bool (!mstatus &&& 262144#64 == 0#64)))
 (some (AV.bool (false))))
 (some (AV.bool (true))))) by kernel_rfl).trans (by
    delta v_pte_entry_whose
    refine (mer _ (fun p => .bool p) ?_ (mer _ (fun p => .bool p) (mer _ (fun p => .bool p) ?_ ?_) ?_))
    all_goals first | with_reducible rfl | rfl)
noncomputable def C_36 : Oracle := pureE 36 (pure4 dU64 dI64 dI64 dU64 (fun xe kind priv mstatus => .bool (v_pte_entry_whose xe kind priv mstatus))) (C_20)
theorem C_36_snd : Snd Try.prog C_36 := pureE_snd (pure4_ok (F := F36) (C_20_snd) Try.func36 (by kernel_rfl) run_36 (fun _ _ _ _ => rfl)) (C_20_snd)

/- ravelin/pte.May -/
def F21 : Cfg := { F := 400, roots := [0, 1, 2, 3, 4, 5], fl := ⟨true, false⟩ }
theorem run_21 : ∀ (p : BitVec 64) (kind : BitVec 64) (priv : BitVec 64) (mstatus : BitVec 64), pureRun Try.prog C_36 F21 Try.f21 [.int .u64 p, .int .i64 kind, .int .i64 priv, .int .u64 mstatus] = some (.bool (v_pte_May p kind priv mstatus)) := fun p kind priv mstatus =>
 (show pureRun Try.prog C_36 F21 Try.f21 [.int .u64 p, .int .i64 kind, .int .i64 priv, .int .u64 mstatus] = (cond (!v_pte_entry_whose p kind priv mstatus)
 (some (AV.bool (false)))
 (cond (kind == 1#64)
 (some (AV.bool (v_pte_entry_has p 8#64)))
 (cond (kind == 2#64)
 (cond (v_pte_entry_has p 2#64)
 (some (AV.bool (true)))
 (cond (!mstatus &&& 524288#64 == 0#64)
 (some (AV.bool (v_pte_entry_has p 8#64)))
 (some (AV.bool (false)))))
 (cond (kind == 3#64)
 (some (AV.bool (v_pte_entry_has p 4#64)))
 (some (AV.bool (false))))))) by kernel_rfl).trans (by
    delta v_pte_May
    refine (mer _ (fun p => .bool p) ?_ (mer _ (fun p => .bool p) ?_ (mer _ (fun p => .bool p) (mer _ (fun p => .bool p) ?_ (mer _ (fun p => .bool p) ?_ ?_)) (mer _ (fun p => .bool p) ?_ ?_))))
    all_goals first | with_reducible rfl | rfl)
noncomputable def C_21 : Oracle := pureE 21 (pure4 dU64 dI64 dI64 dU64 (fun p kind priv mstatus => .bool (v_pte_May p kind priv mstatus))) (C_36)
theorem C_21_snd : Snd Try.prog C_21 := pureE_snd (pure4_ok (F := F21) (C_36_snd) Try.func21 (by kernel_rfl) run_21 (fun _ _ _ _ => rfl)) (C_36_snd)

/- ravelin/pte.Mark -/
def F22 : Cfg := { F := 400, roots := [0, 1, 2, 3], fl := ⟨true, false⟩ }
theorem run_22 : ∀ (p : BitVec 64) (kind : BitVec 64), pureRun Try.prog C_21 F22 Try.f22 [.int .u64 p, .int .i64 kind] = some (.int .u64 (v_pte_Mark p kind)) := fun p kind =>
 (show pureRun Try.prog C_21 F22 Try.f22 [.int .u64 p, .int .i64 kind] = (cond (kind == 3#64)
 (some (AV.int (IntKind.u64) (p ||| 64#64 ||| 128#64)))
 (some (AV.int (IntKind.u64) (p ||| 64#64)))) by kernel_rfl).trans (by
    delta v_pte_Mark
    refine (mer _ (fun p => .int .u64 p) ?_ ?_)
    all_goals first | with_reducible rfl | rfl)
noncomputable def C_22 : Oracle := pureE 22 (pure2 dU64 dI64 (fun p kind => .int .u64 (v_pte_Mark p kind))) (C_21)
theorem C_22_snd : Snd Try.prog C_22 := pureE_snd (pure2_ok (F := F22) (C_21_snd) Try.func22 (by kernel_rfl) run_22 (fun _ _ => rfl)) (C_21_snd)

/- ravelin/walk.Walk$1 -/
def F17 : Cfg := { F := 400, roots := [], fl := ⟨false, false⟩ }
noncomputable def C_17 : Oracle := inlS Try.prog 17 Try.f17 F17 C_22 (C_22)
theorem C_17_snd : Snd Try.prog C_17 := inlS_snd Try.func17 (by kernel_rfl) C_22_snd C_22_snd

/- ravelin/walk.Walk -/
def F9 : Cfg := { F := 400, roots := [0, 1, 2, 3, 4, 5, 6, 7, 8, 9, 10, 11, 12, 13, 14, 15], fl := ⟨false, false⟩ }
noncomputable def C_9 : Oracle := inlS Try.prog 9 Try.f9 F9 C_17 (C_17)
theorem C_9_snd : Snd Try.prog C_9 := inlS_snd Try.func9 (by kernel_rfl) C_17_snd C_17_snd

/- an entry: a walk -/
def FE_9_mwk : Cfg := { F := 400, roots := [0, 1, 2, 3, 4, 5, 6, 7, 8, 9, 10, 11], fl := ⟨false, false⟩, laws := [] }
noncomputable def C_9_mwk : Oracle := elC 9 mwkDec mwkCps mwkU (C_9)
theorem nx_9_mwk_a : ∀ (n : Nat) (tg : List (List AV)) (m : Nat) (d : List (List AV)) (c0 : BitVec 64) (c1 : BitVec 64) (c2 : BitVec 64) (pr : List (List AV)) (p1 : BitVec 32) (p2 : BitVec 32) (en : List (List AV)) (th : List (List AV)) (q : List (List AV)) (u1 : BitVec 64) (u2 : BitVec 64) (u3 : Bool) (w : Bool) (satp : BitVec 64) (va : BitVec 64) (kind : BitVec 64) (priv : BitVec 64) (mst : BitVec 64), inlineA Try.prog (C_17) (drawA Try.prog) FE_9_mwk Try.f9 (mwkA (.a n tg m d c0 c1 c2 pr p1 p2 en th q u1 u2 u3 w satp va kind priv mst)) (mwkH (.a n tg m d c0 c1 c2 pr p1 p2 en th q u1 u2 u3 w satp va kind priv mst)) (mwkH (.a n tg m d c0 c1 c2 pr p1 p2 en th q u1 u2 u3 w satp va kind priv mst)).length mwkDecR = mwkStep (.a n tg m d c0 c1 c2 pr p1 p2 en th q u1 u2 u3 w satp va kind priv mst) := fun _ _ _ _ _ _ _ _ _ _ _ _ _ _ _ _ _ _ _ _ _ _ => by kernel_rfl
noncomputable def EL_9_mwk : EL Try.prog (C_17) FE_9_mwk Try.f9 MwkS MwkR :=
  { eA := mwkA, eH := mwkH, dec := mwkDec, dec_ok := mwkDec_ok, enc := mwkU, decR := mwkDecR, decR_ok := mwkDecR_ok, step := mwkStep, hstep := fun x => match x with
      | .a n tg m d c0 c1 c2 pr p1 p2 en th q u1 u2 u3 w satp va kind priv mst => nx_9_mwk_a n tg m d c0 c1 c2 pr p1 p2 en th q u1 u2 u3 w satp va kind priv mst
  }
theorem C_9_mwk_snd : Snd Try.prog C_9_mwk := elC_snd EL_9_mwk (C_17_snd) Try.func9 (by kernel_rfl) (cps := mwkCps) (Eq.mp (show ECok mwkStep mwkCps = ECok EL_9_mwk.step mwkCps by kernel_rfl) mwkCps_ok) (C_9_snd)

/- ravelin/ravelinlaw21.known -/
def F12 : Cfg := { F := 400, roots := [0, 1, 2, 3, 4, 5, 6, 7, 8], fl := ⟨false, false⟩ }
theorem run_12 : pureRun Try.prog C_9_mwk F12 Try.f12 [] = t_l21_known  :=  by kernel_rfl
theorem snd_12 : Snd Try.prog (C_9_mwk) := C_9_mwk_snd

end Go.Proofs.Ytkbcfbehebbmhaa.K

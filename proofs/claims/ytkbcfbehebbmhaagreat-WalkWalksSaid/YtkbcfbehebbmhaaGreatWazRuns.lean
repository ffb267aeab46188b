import Derived.Test.YtkbcfbehebbmhaaGreatSxLen2
import Derived.Test.YtkbcfbehebbmhaaGreatSxAE
import Derived.Test.YtkbcfbehebbmhaaGreatSxEC
import Derived.Test.YtkbcfbehebbmhaaGreatSxX
import Derived.Test.YtkbcfbehebbmhaaGreatSxAt6
import Derived.Test.YtkbcfbehebbmhaaGreatVa03
import Derived.Test.YtkbcfbehebbmhaaGreatVa11
import Derived.Test.YtkbcfbehebbmhaaGreatPlRam3
import Derived.Test.YtkbcfbehebbmhaaGreatPlRam4
import Derived.Test.YtkbcfbehebbmhaaGreatPlRamU
import Derived.Test.YtkbcfbehebbmhaaGreatPlRamZ
import Derived.Test.YtkbcfbehebbmhaaGreatPlRamR
import Derived.Test.YtkbcfbehebbmhaaGreatVl15a
import Derived.Test.YtkbcfbehebbmhaaGreatPlBusO
import Derived.Test.YtkbcfbehebbmhaaGreatVa21
import Derived.Test.YtkbcfbehebbmhaaGreatVa21z
import Derived.Test.YtkbcfbehebbmhaaGreatPlBusB3
import Derived.Test.YtkbcfbehebbmhaaGreatVl21a
import Derived.Test.YtkbcfbehebbmhaaGreatPlWkB
import Derived.Test.YtkbcfbehebbmhaaGreatPlWkL
import Derived.Test.YtkbcfbehebbmhaaGreatVa21w
import Derived.Test.YtkbcfbehebbmhaaGreatWbwRuns
import Derived.Test.YtkbcfbehebbmhaaGreatPlWkM2
import Derived.Test.YtkbcfbehebbmhaaGreatPlBusX2
import Derived.Test.YtkbcfbehebbmhaaGreatPlWkS
import Derived.Test.YtkbcfbehebbmhaaGreatPlPteX
import Derived.Test.YtkbcfbehebbmhaaGreatVl21i
import Derived.Test.YtkbcfbehebbmhaaGreatPlWkX
import Derived.Test.YtkbcfbehebbmhaaGreatPlWkY
import Derived.Test.YtkbcfbehebbmhaaGreatPlWkT
import Derived.Test.YtkbcfbehebbmhaaGreatPlWkU
import Derived.Test.YtkbcfbehebbmhaaGreatPlWkV
import Derived.Test.YtkbcfbehebbmhaaGreatVm21z
import Derived.KernelRfl
import Derived.Test.YtkbcfbehebbmhaaGreatProg
set_option linter.unusedSimpArgs false
set_option linter.unusedVariables false
set_option linter.unnecessarySimpa false
/- What the functions of the seat answer. -/
namespace Go.Proofs.YtkbcfbehebbmhaaGreat
open Go Go.Sx Go.Proofs
set_option maxRecDepth 100000
set_option maxHeartbeats 4000000

/- ravelin/ram.New -/
def F38 : Cfg := { F := 400, roots := [0, 1, 2], fl := ⟨false, false⟩ }
noncomputable def C_38 : Oracle := inlS Tryz.prog 38 Tryz.f38 F38 nothing (nothing)
theorem C_38_snd : Snd Tryz.prog C_38 := inlS_snd Tryz.func38 (by kernel_rfl) nothing_snd nothing_snd

/- ravelin/clint.New -/
def F39 : Cfg := { F := 400, roots := [0], fl := ⟨false, false⟩ }
noncomputable def C_39 : Oracle := inlS Tryz.prog 39 Tryz.f39 F39 C_38 (C_38)
theorem C_39_snd : Snd Tryz.prog C_39 := inlS_snd Tryz.func39 (by kernel_rfl) C_38_snd C_38_snd

/- ravelin/plic.New -/
def F40 : Cfg := { F := 400, roots := [0], fl := ⟨false, false⟩ }
noncomputable def C_40 : Oracle := inlS Tryz.prog 40 Tryz.f40 F40 C_39 (C_39)
theorem C_40_snd : Snd Tryz.prog C_40 := inlS_snd Tryz.func40 (by kernel_rfl) C_39_snd C_39_snd

/- ravelin/serial.New -/
def F41 : Cfg := { F := 400, roots := [0], fl := ⟨false, false⟩ }
noncomputable def C_41 : Oracle := inlS Tryz.prog 41 Tryz.f41 F41 C_40 (C_40)
theorem C_41_snd : Snd Tryz.prog C_41 := inlS_snd Tryz.func41 (by kernel_rfl) C_40_snd C_40_snd

/- ravelin/serial.NewPower -/
def F42 : Cfg := { F := 400, roots := [0], fl := ⟨false, false⟩ }
noncomputable def C_42 : Oracle := inlS Tryz.prog 42 Tryz.f42 F42 C_41 (C_41)
theorem C_42_snd : Snd Tryz.prog C_42 := inlS_snd Tryz.func42 (by kernel_rfl) C_41_snd C_41_snd

/- ravelin/bus.New -/
def F13 : Cfg := { F := 400, roots := [0, 1, 2, 3, 4], fl := ⟨false, false⟩ }
noncomputable def C_13 : Oracle := inlS Tryz.prog 13 Tryz.f13 F13 C_42 (C_42)
theorem C_13_snd : Snd Tryz.prog C_13 := inlS_snd Tryz.func13 (by kernel_rfl) C_42_snd C_42_snd

/- ravelin/ravelinkit.Pick -/
def F15 : Cfg := { F := 400, roots := [0, 1, 2], fl := ⟨true, false⟩ }
theorem run_15 : ∀ (k : BitVec 64) (n : BitVec 64), pureRun Tryz.prog C_13 F15 Tryz.f15 [.int .i64 k, .int .i64 n] = some (.int .i64 (v_kit_Pick k n)) := fun k n =>
 (show pureRun Tryz.prog C_13 F15 Tryz.f15 [.int .i64 k, .int .i64 n] = t_kit_Pick k n by kernel_rfl).trans (t_kit_Pick_eq k n)
noncomputable def C_15 : Oracle := pureE 15 (pure2 dI64 dI64 (fun k n => .int .i64 (v_kit_Pick k n))) (C_13)
theorem C_15_snd : Snd Tryz.prog C_15 := pureE_snd (pure2_ok (F := F15) (C_13_snd) Tryz.func15 (by kernel_rfl) run_15 (fun _ _ => rfl)) (C_13_snd)

/- (*ravelin/ram.Ram).Len -/
def F76 : Cfg := { F := 400, roots := [0, 1], fl := ⟨false, false⟩ }
noncomputable def C_76 : Oracle := quiS Tryz.prog 76 Tryz.f76 F76 C_15 (C_15)
theorem C_76_snd : Snd Tryz.prog C_76 := quiS_snd Tryz.func76 (by kernel_rfl) C_15_snd C_15_snd

/- (*ravelin/bus.Bus).regions -/
def F56 : Cfg := { F := 400, roots := [0, 1], fl := ⟨false, false⟩ }
noncomputable def C_56 : Oracle := inlS Tryz.prog 56 Tryz.f56 F56 C_76 (C_76)
theorem C_56_snd : Snd Tryz.prog C_56 := inlS_snd Tryz.func56 (by kernel_rfl) C_76_snd C_76_snd

/- (ravelin/bus.region).off -/
def F57 : Cfg := { F := 400, roots := [0, 1, 2, 3, 4, 5], fl := ⟨false, false⟩ }
noncomputable def C_57 : Oracle := inlS Tryz.prog 57 Tryz.f57 F57 C_56 (C_56)
theorem C_57_snd : Snd Tryz.prog C_57 := inlS_snd Tryz.func57 (by kernel_rfl) C_56_snd C_56_snd

/- an entry: are bytes in a region? -/
def FE_57_mbo : Cfg := { F := 400, roots := [0, 1, 2, 3, 4, 5, 6, 7, 8, 9, 10, 11], fl := ⟨false, false⟩, laws := [] }
noncomputable def C_57_mbo : Oracle := elC 57 mboDec mboCps mboU (C_57)
theorem nx_57_mbo_r : ∀ (n : Nat) (tg : List (List AV)) (m : Nat) (d : List (List AV)) (t2 : Nat) (bg : BitVec 64) (sz : BitVec 64) (pa : BitVec 64) (size : BitVec 64), inlineA Tryz.prog (C_56) (drawA Tryz.prog) FE_57_mbo Tryz.f57 (mboA (.r n tg m d t2 bg sz pa size)) (mboH (.r n tg m d t2 bg sz pa size)) (mboH (.r n tg m d t2 bg sz pa size)).length mboDecR = mboStep (.r n tg m d t2 bg sz pa size) := fun _ _ _ _ _ _ _ _ _ => by kernel_rfl
theorem nx_57_mbo_c : ∀ (c0 : BitVec 64) (c1 : BitVec 64) (c2 : BitVec 64) (t2 : Nat) (bg : BitVec 64) (sz : BitVec 64) (pa : BitVec 64) (size : BitVec 64), inlineA Tryz.prog (C_56) (drawA Tryz.prog) FE_57_mbo Tryz.f57 (mboA (.c c0 c1 c2 t2 bg sz pa size)) (mboH (.c c0 c1 c2 t2 bg sz pa size)) (mboH (.c c0 c1 c2 t2 bg sz pa size)).length mboDecR = mboStep (.c c0 c1 c2 t2 bg sz pa size) := fun _ _ _ _ _ _ _ _ => by kernel_rfl
theorem nx_57_mbo_p : ∀ (pr : List (List AV)) (p1 : BitVec 32) (p2 : BitVec 32) (en : List (List AV)) (th : List (List AV)) (t2 : Nat) (bg : BitVec 64) (sz : BitVec 64) (pa : BitVec 64) (size : BitVec 64), inlineA Tryz.prog (C_56) (drawA Tryz.prog) FE_57_mbo Tryz.f57 (mboA (.p pr p1 p2 en th t2 bg sz pa size)) (mboH (.p pr p1 p2 en th t2 bg sz pa size)) (mboH (.p pr p1 p2 en th t2 bg sz pa size)).length mboDecR = mboStep (.p pr p1 p2 en th t2 bg sz pa size) := fun _ _ _ _ _ _ _ _ _ _ => by kernel_rfl
theorem nx_57_mbo_u : ∀ (q : List (List AV)) (u1 : BitVec 64) (u2 : BitVec 64) (u3 : Bool) (t2 : Nat) (bg : BitVec 64) (sz : BitVec 64) (pa : BitVec 64) (size : BitVec 64), inlineA Tryz.prog (C_56) (drawA Tryz.prog) FE_57_mbo Tryz.f57 (mboA (.u q u1 u2 u3 t2 bg sz pa size)) (mboH (.u q u1 u2 u3 t2 bg sz pa size)) (mboH (.u q u1 u2 u3 t2 bg sz pa size)).length mboDecR = mboStep (.u q u1 u2 u3 t2 bg sz pa size) := fun _ _ _ _ _ _ _ _ _ => by kernel_rfl
theorem nx_57_mbo_w : ∀ (w : Bool) (t2 : Nat) (bg : BitVec 64) (sz : BitVec 64) (pa : BitVec 64) (size : BitVec 64), inlineA Tryz.prog (C_56) (drawA Tryz.prog) FE_57_mbo Tryz.f57 (mboA (.w w t2 bg sz pa size)) (mboH (.w w t2 bg sz pa size)) (mboH (.w w t2 bg sz pa size)).length mboDecR = mboStep (.w w t2 bg sz pa size) := fun _ _ _ _ _ _ => by kernel_rfl
noncomputable def EL_57_mbo : EL Tryz.prog (C_56) FE_57_mbo Tryz.f57 MboS MboR :=
  { eA := mboA, eH := mboH, dec := mboDec, dec_ok := mboDec_ok, enc := mboU, decR := mboDecR, decR_ok := mboDecR_ok, step := mboStep, hstep := fun x => match x with
      | .r n tg m d t2 bg sz pa size => nx_57_mbo_r n tg m d t2 bg sz pa size
      | .c c0 c1 c2 t2 bg sz pa size => nx_57_mbo_c c0 c1 c2 t2 bg sz pa size
      | .p pr p1 p2 en th t2 bg sz pa size => nx_57_mbo_p pr p1 p2 en th t2 bg sz pa size
      | .u q u1 u2 u3 t2 bg sz pa size => nx_57_mbo_u q u1 u2 u3 t2 bg sz pa size
      | .w w t2 bg sz pa size => nx_57_mbo_w w t2 bg sz pa size
  }
theorem C_57_mbo_snd : Snd Tryz.prog C_57_mbo := elC_snd EL_57_mbo (C_56_snd) Tryz.func57 (by kernel_rfl) (cps := mboCps) mboCps_ok (C_57_snd)

/- (*ravelin/bus.Bus).find -/
def F43 : Cfg := { F := 400, roots := [0, 1, 2, 3, 4, 5, 6, 7, 8], fl := ⟨false, false⟩ }
noncomputable def C_43 : Oracle := inlS Tryz.prog 43 Tryz.f43 F43 C_57_mbo (C_57_mbo)
theorem C_43_snd : Snd Tryz.prog C_43 := inlS_snd Tryz.func43 (by kernel_rfl) C_57_mbo_snd C_57_mbo_snd

/- (*ravelin/ram.Ram).part -/
def F79 : Cfg := { F := 400, roots := [0, 1, 2, 3, 4], fl := ⟨false, false⟩ }
noncomputable def C_79 : Oracle := inlS Tryz.prog 79 Tryz.f79 F79 C_43 (C_43)
theorem C_79_snd : Snd Tryz.prog C_79 := inlS_snd Tryz.func79 (by kernel_rfl) C_43_snd C_43_snd

/- (*ravelin/ram.Ram).number -/
def F69 : Cfg := { F := 400, roots := [0, 1, 2, 3, 4], fl := ⟨false, false⟩ }
noncomputable def C_69 : Oracle := inlS Tryz.prog 69 Tryz.f69 F69 C_79 (C_79)
theorem C_69_snd : Snd Tryz.prog C_69 := inlS_snd Tryz.func69 (by kernel_rfl) C_79_snd C_79_snd

/- a loop of ravelin/ram.put -/
noncomputable def FL_103_mpl : Cfg := { F := 400, roots := [0, 1, 6, 7], fl := ⟨false, false⟩, laws := [] }
noncomputable def LC_103_mpl : Code := loopIn 0 Tryz.f103
theorem nx_103_mpl_a : ∀ (m : Nat) (d : List (List AV)) (o : Nat) (n : Nat) (v : BitVec 64) (ln : BitVec 64) (ix : BitVec 64), codeA Tryz.prog (C_69) (drawA Tryz.prog FL_103_mpl.fl Tryz.f103.ntmps (C_69)) FL_103_mpl Tryz.f103.ntmps LC_103_mpl (tmOf [0, 1, 6, 7] (mplT (.a m d o n v ln ix))) (mplH (.a m d o n v ln ix)) (mplN (.a m d o n v ln ix)) (roundK 1 [0, 1, 6, 7] [0, 1, 6, 7] [] mplDec mplDecE) = mplStep (.a m d o n v ln ix) := fun _ _ _ _ _ _ _ => by kernel_rfl
noncomputable def LL_103_mpl : LL Tryz.prog (C_69) Tryz.f103.ntmps (drawA Tryz.prog FL_103_mpl.fl Tryz.f103.ntmps (C_69)) FL_103_mpl LC_103_mpl MplS MplE :=
  { N0 := 1, rts := [0, 1, 6, 7], kT := [0, 1, 6, 7], vT := mplT, hT := mplH, nT := mplN, dec := mplDec, dec_ok := mplDec_ok, kE := [], oE := mplO, vE := mplV, hE := mplG, nE := mplM, decE := mplDecE, decE_ok := mplDecE_ok, step := mplStep,
    hstep := fun x => match x with
      | .a m d o n v ln ix => nx_103_mpl_a m d o n v ln ix
  }
theorem hs_103_mpl : HSnd Tryz.prog Tryz.f103.ntmps (.block 0 (.loop LC_103_mpl)) (llH 1 [0, 1, 6, 7] mplDec 0 mplCps) :=
  LL.handler_snd LL_103_mpl (C_69_snd) (drawA_sound (C_69_snd)) (laws_nil) 0 (cps := mplCps) mplCps_ok

/- ravelin/ram.put -/
noncomputable def F103 : Cfg := { F := 400, roots := [0, 1, 2, 3, 4], fl := ⟨false, false⟩, laws := [(0, llH 1 [0, 1, 6, 7] mplDec 0 mplCps)] }
theorem fok_103 : FOK Tryz.prog Tryz.f103 F103 := fok_of (laws_cons (subs_one (b := .block 0 (.loop LC_103_mpl)) (by kernel_rfl) hs_103_mpl) (laws_nil))
noncomputable def C_103 : Oracle := inlS Tryz.prog 103 Tryz.f103 F103 C_69 (C_69)
theorem C_103_snd : Snd Tryz.prog C_103 := inlS_snd Tryz.func103 (by kernel_rfl) C_69_snd C_69_snd (hF := fok_103)

/- an entry: a number laid -/
noncomputable def FE_103_mpu : Cfg := { F := 400, roots := [0, 1, 2, 3, 4, 5, 6, 7, 8, 9, 10, 11], fl := ⟨false, false⟩, laws := [(0, llH 1 [0, 1, 6, 7] mplDec 0 mplCps)] }
noncomputable def C_103_mpu : Oracle := elC 103 mpuDec mpuCps mpuU (C_103)
theorem nx_103_mpu_a : ∀ (m : Nat) (d : List (List AV)) (o : Nat) (n : Nat) (v : BitVec 64), inlineA Tryz.prog (C_69) (drawA Tryz.prog) FE_103_mpu Tryz.f103 (mpuA (.a m d o n v)) (mpuH (.a m d o n v)) (mpuH (.a m d o n v)).length mpuDecR = mpuStep (.a m d o n v) := fun _ _ _ _ _ => by kernel_rfl
noncomputable def EL_103_mpu : EL Tryz.prog (C_69) FE_103_mpu Tryz.f103 MpuS MpuR :=
  { eA := mpuA, eH := mpuH, dec := mpuDec, dec_ok := mpuDec_ok, enc := mpuU, decR := mpuDecR, decR_ok := mpuDecR_ok, step := mpuStep, hstep := fun x => match x with
      | .a m d o n v => nx_103_mpu_a m d o n v
  }
theorem foke_103_mpu : FOK Tryz.prog Tryz.f103 FE_103_mpu := fok_of (laws_cons (subs_one (b := .block 0 (.loop LC_103_mpl)) (by kernel_rfl) hs_103_mpl) (laws_nil))
theorem C_103_mpu_snd : Snd Tryz.prog C_103_mpu := elC_snd EL_103_mpu (C_69_snd) Tryz.func103 (by kernel_rfl) (cps := mpuCps) mpuCps_ok (C_103_snd) (hF := foke_103_mpu)

/- (*ravelin/ram.Ram).tag -/
def F104 : Cfg := { F := 400, roots := [0, 1, 2, 3, 4], fl := ⟨false, false⟩ }
noncomputable def C_104 : Oracle := inlS Tryz.prog 104 Tryz.f104 F104 C_103_mpu (C_103_mpu)
theorem C_104_snd : Snd Tryz.prog C_104 := inlS_snd Tryz.func104 (by kernel_rfl) C_103_mpu_snd C_103_mpu_snd

/- (*ravelin/ram.Ram).Store -/
def F102 : Cfg := { F := 400, roots := [0, 1, 2, 3, 4, 5, 6, 7, 8, 9, 10], fl := ⟨false, false⟩ }
noncomputable def C_102 : Oracle := inlS Tryz.prog 102 Tryz.f102 F102 C_104 (C_104)
theorem C_102_snd : Snd Tryz.prog C_102 := inlS_snd Tryz.func102 (by kernel_rfl) C_104_snd C_104_snd

/- an entry: a store -/
def FE_102_mrs : Cfg := { F := 400, roots := [0, 1, 2, 3, 4, 5, 6, 7, 8, 9, 10, 11], fl := ⟨false, false⟩, laws := [] }
noncomputable def C_102_mrs : Oracle := elC 102 mrsDec mrsCps mrsU (C_102)
theorem nx_102_mrs_a : ∀ (n : Nat) (tg : List (List AV)) (m : Nat) (d : List (List AV)) (off : BitVec 64) (size : BitVec 64) (v : BitVec 64), inlineA Tryz.prog (C_104) (drawA Tryz.prog) FE_102_mrs Tryz.f102 (mrsA (.a n tg m d off size v)) (mrsH (.a n tg m d off size v)) (mrsH (.a n tg m d off size v)).length mrsDecR = mrsStep (.a n tg m d off size v) := fun _ _ _ _ _ _ _ => by kernel_rfl
noncomputable def EL_102_mrs : EL Tryz.prog (C_104) FE_102_mrs Tryz.f102 MrsS MrsR :=
  { eA := mrsA, eH := mrsH, dec := mrsDec, dec_ok := mrsDec_ok, enc := mrsU, decR := mrsDecR, decR_ok := mrsDecR_ok, step := mrsStep, hstep := fun x => match x with
      | .a n tg m d off size v => nx_102_mrs_a n tg m d off size v
  }
theorem C_102_mrs_snd : Snd Tryz.prog C_102_mrs := elC_snd EL_102_mrs (C_104_snd) Tryz.func102 (by kernel_rfl) (cps := mrsCps) mrsCps_ok (C_102_snd)

/- ravelin/clint.part -/
def F108 : Cfg := { F := 400, roots := [0, 1, 2, 3, 4], fl := ⟨false, false⟩ }
noncomputable def C_108 : Oracle := inlS Tryz.prog 108 Tryz.f108 F108 C_102_mrs (C_102_mrs)
theorem C_108_snd : Snd Tryz.prog C_108 := inlS_snd Tryz.func108 (by kernel_rfl) C_102_mrs_snd C_102_mrs_snd

/- sync/atomic.StoreUint64 -/
noncomputable def C_113 : Oracle := atStoreE64 113 (C_108)
theorem C_113_snd : Snd Tryz.prog C_113 := atStoreE64_snd Tryz.func113 (by kernel_rfl) (by kernel_rfl) (by kernel_rfl) (by kernel_rfl) (C_108_snd)

/- (*sync/atomic.Uint64).Store -/
def F111 : Cfg := { F := 400, roots := [0, 1], fl := ⟨false, false⟩ }
noncomputable def C_111 : Oracle := inlS Tryz.prog 111 Tryz.f111 F111 C_113 (C_113)
theorem C_111_snd : Snd Tryz.prog C_111 := inlS_snd Tryz.func111 (by kernel_rfl) C_113_snd C_113_snd

/- sync/atomic.LoadUint64 -/
noncomputable def C_114 : Oracle := atLoadE64 114 (C_111)
theorem C_114_snd : Snd Tryz.prog C_114 := atLoadE64_snd Tryz.func114 (by kernel_rfl) (by kernel_rfl) (by kernel_rfl) (by kernel_rfl) (C_111_snd)

/- (*sync/atomic.Uint64).Load -/
def F112 : Cfg := { F := 400, roots := [0, 1], fl := ⟨false, false⟩ }
noncomputable def C_112 : Oracle := quiS Tryz.prog 112 Tryz.f112 F112 C_114 (C_114)
theorem C_112_snd : Snd Tryz.prog C_112 := quiS_snd Tryz.func112 (by kernel_rfl) C_114_snd C_114_snd

/- (*ravelin/clint.Clint).Time -/
def F109 : Cfg := { F := 400, roots := [0, 1], fl := ⟨false, false⟩ }
noncomputable def C_109 : Oracle := quiS Tryz.prog 109 Tryz.f109 F109 C_112 (C_112)
theorem C_109_snd : Snd Tryz.prog C_109 := quiS_snd Tryz.func109 (by kernel_rfl) C_112_snd C_112_snd

/- (*ravelin/clint.Clint).Store$1 -/
def F110 : Cfg := { F := 400, roots := [0, 1], fl := ⟨false, false⟩ }
noncomputable def C_110 : Oracle := inlS Tryz.prog 110 Tryz.f110 F110 C_109 (C_109)
theorem C_110_snd : Snd Tryz.prog C_110 := inlS_snd Tryz.func110 (by kernel_rfl) C_109_snd C_109_snd

/- ravelin/plic.which -/
def F118 : Cfg := { F := 400, roots := [0, 1, 2, 3, 4], fl := ⟨false, false⟩ }
noncomputable def C_118 : Oracle := inlS Tryz.prog 118 Tryz.f118 F118 C_110 (C_110)
theorem C_118_snd : Snd Tryz.prog C_118 := inlS_snd Tryz.func118 (by kernel_rfl) C_110_snd C_110_snd

/- sync/atomic.AndUint32 -/
noncomputable def C_125 : Oracle := atUpdE 125 opAnd (C_118)
theorem C_125_snd : Snd Tryz.prog C_125 := atUpdE_snd (o := Op.intBits .and) Tryz.func125 (by kernel_rfl) (by kernel_rfl) (by kernel_rfl) (by kernel_rfl) opAnd_ok (C_118_snd)

/- (*sync/atomic.Uint32).And -/
def F121 : Cfg := { F := 400, roots := [0, 1, 2], fl := ⟨false, false⟩ }
noncomputable def C_121 : Oracle := inlS Tryz.prog 121 Tryz.f121 F121 C_125 (C_125)
theorem C_121_snd : Snd Tryz.prog C_121 := inlS_snd Tryz.func121 (by kernel_rfl) C_125_snd C_125_snd

/- ravelin/serial.there -/
def F130 : Cfg := { F := 400, roots := [0, 1, 2], fl := ⟨false, false⟩ }
noncomputable def C_130 : Oracle := inlS Tryz.prog 130 Tryz.f130 F130 C_121 (C_121)
theorem C_130_snd : Snd Tryz.prog C_130 := inlS_snd Tryz.func130 (by kernel_rfl) C_121_snd C_121_snd

/- (*ravelin/bus.Bus).Store -/
def F14 : Cfg := { F := 400, roots := [0, 1, 2, 3, 4, 5, 6], fl := ⟨false, false⟩ }
noncomputable def C_14 : Oracle := inlS Tryz.prog 14 Tryz.f14 F14 C_130 (C_130)
theorem C_14_snd : Snd Tryz.prog C_14 := inlS_snd Tryz.func14 (by kernel_rfl) C_130_snd C_130_snd

/- a loop of ravelin/ravelinlaw21.Lay -/
noncomputable def FL_4_mly : Cfg := { F := 400, roots := [0, 4, 6], fl := ⟨false, false⟩, laws := [] }
noncomputable def LC_4_mly : Code := loopIn 0 Tryz.f4
theorem nx_4_mly_a : ∀ (rw : Bool) (na : Nat) (ma : Nat) (da : List (List AV)) (n : Nat) (tg : List (List AV)) (m : Nat) (d : List (List AV)) (c0 : BitVec 64) (c1 : BitVec 64) (c2 : BitVec 64) (pr : List (List AV)) (p1 : BitVec 32) (p2 : BitVec 32) (en : List (List AV)) (th : List (List AV)) (q : List (List AV)) (u1 : BitVec 64) (u2 : BitVec 64) (u3 : Bool) (w : Bool) (i : BitVec 64), codeA Tryz.prog (C_14) (drawA Tryz.prog FL_4_mly.fl Tryz.f4.ntmps (C_14)) FL_4_mly Tryz.f4.ntmps LC_4_mly (tmOf [0, 4, 6] (mlyT (.a rw na ma da n tg m d c0 c1 c2 pr p1 p2 en th q u1 u2 u3 w i))) (mlyH (.a rw na ma da n tg m d c0 c1 c2 pr p1 p2 en th q u1 u2 u3 w i)) (mlyN (.a rw na ma da n tg m d c0 c1 c2 pr p1 p2 en th q u1 u2 u3 w i)) (roundK 8 [0, 4, 6] [0, 4, 6] [4] mlyDec mlyDecE) = mlyStep (.a rw na ma da n tg m d c0 c1 c2 pr p1 p2 en th q u1 u2 u3 w i) := fun _ _ _ _ _ _ _ _ _ _ _ _ _ _ _ _ _ _ _ _ _ _ => by kernel_rfl
noncomputable def LL_4_mly : LL Tryz.prog (C_14) Tryz.f4.ntmps (drawA Tryz.prog FL_4_mly.fl Tryz.f4.ntmps (C_14)) FL_4_mly LC_4_mly MlyS MlyE :=
  { N0 := 8, rts := [0, 4, 6], kT := [0, 4, 6], vT := mlyT, hT := mlyH, nT := mlyN, dec := mlyDec, dec_ok := mlyDec_ok, kE := [4], oE := mlyO, vE := mlyV, hE := mlyG, nE := mlyM, decE := mlyDecE, decE_ok := mlyDecE_ok, step := mlyStep,
    hstep := fun x => match x with
      | .a rw na ma da n tg m d c0 c1 c2 pr p1 p2 en th q u1 u2 u3 w i => nx_4_mly_a rw na ma da n tg m d c0 c1 c2 pr p1 p2 en th q u1 u2 u3 w i
  }
theorem hs_4_mly : HSnd Tryz.prog Tryz.f4.ntmps (.block 0 (.loop LC_4_mly)) (orH 8 (llH 8 [0, 4, 6] mlyDec 0 mlyCps) (selfH Tryz.prog (C_14) (drawA Tryz.prog FL_4_mly.fl Tryz.f4.ntmps (C_14)) FL_4_mly Tryz.f4.ntmps (.block 0 (.loop LC_4_mly)))) :=
  orH_snd (LL.handler_snd LL_4_mly (C_14_snd) (drawA_sound (C_14_snd)) (laws_nil) 0 (cps := mlyCps) mlyCps_ok) (selfH_snd (C_14_snd) (drawA_sound (C_14_snd)) (laws_nil))

/- ravelin/ravelinlaw21.Lay -/
def F4 : Cfg := { F := 400, roots := [0, 1, 2, 3, 4, 5], fl := ⟨false, false⟩ }
noncomputable def C_4 : Oracle := inlS Tryz.prog 4 Tryz.f4 F4 C_14 (C_14)
theorem C_4_snd : Snd Tryz.prog C_4 := inlS_snd Tryz.func4 (by kernel_rfl) C_14_snd C_14_snd

/- ravelin/ravelinref11.New -/
def F44 : Cfg := { F := 400, roots := [0, 1, 2], fl := ⟨false, false⟩ }
noncomputable def C_44 : Oracle := inlS Tryz.prog 44 Tryz.f44 F44 C_4 (C_4)
theorem C_44_snd : Snd Tryz.prog C_44 := inlS_snd Tryz.func44 (by kernel_rfl) C_4_snd C_4_snd

/- ravelin/ravelinref13.New -/
def F45 : Cfg := { F := 400, roots := [0], fl := ⟨false, false⟩ }
noncomputable def C_45 : Oracle := inlS Tryz.prog 45 Tryz.f45 F45 C_44 (C_44)
theorem C_45_snd : Snd Tryz.prog C_45 := inlS_snd Tryz.func45 (by kernel_rfl) C_44_snd C_44_snd

/- ravelin/ravelinref12.New -/
def F46 : Cfg := { F := 400, roots := [0], fl := ⟨false, false⟩ }
noncomputable def C_46 : Oracle := inlS Tryz.prog 46 Tryz.f46 F46 C_45 (C_45)
theorem C_46_snd : Snd Tryz.prog C_46 := inlS_snd Tryz.func46 (by kernel_rfl) C_45_snd C_45_snd

/- ravelin/ravelinref14.New -/
def F47 : Cfg := { F := 400, roots := [0], fl := ⟨false, false⟩ }
noncomputable def C_47 : Oracle := inlS Tryz.prog 47 Tryz.f47 F47 C_46 (C_46)
theorem C_47_snd : Snd Tryz.prog C_47 := inlS_snd Tryz.func47 (by kernel_rfl) C_46_snd C_46_snd

/- ravelin/ravelinref14.NewPower -/
def F48 : Cfg := { F := 400, roots := [0], fl := ⟨false, false⟩ }
noncomputable def C_48 : Oracle := inlS Tryz.prog 48 Tryz.f48 F48 C_47 (C_47)
theorem C_48_snd : Snd Tryz.prog C_48 := inlS_snd Tryz.func48 (by kernel_rfl) C_47_snd C_47_snd

/- ravelin/ravelinref15.New -/
def F16 : Cfg := { F := 400, roots := [0, 1, 2, 3, 4], fl := ⟨false, false⟩ }
noncomputable def C_16 : Oracle := inlS Tryz.prog 16 Tryz.f16 F16 C_48 (C_48)
theorem C_16_snd : Snd Tryz.prog C_16 := inlS_snd Tryz.func16 (by kernel_rfl) C_48_snd C_48_snd

/- ravelin/ravelinref15.sized -/
def F49 : Cfg := { F := 400, roots := [0, 1], fl := ⟨false, false⟩ }
theorem run_49 : ∀ (n : BitVec 64), pureRun Tryz.prog C_16 F49 Tryz.f49 [.int .i64 n] = some (.bool (v_r15_sized n)) := fun n =>
 (show pureRun Tryz.prog C_16 F49 Tryz.f49 [.int .i64 n] = (cond (n == 1#64)
 (some (AV.bool (true)))
 (cond (n == 2#64)
 (some (AV.bool (true)))
 (cond (n == 4#64)
 (some (AV.bool (true)))
 (some (AV.bool (n == 8#64)))))) by kernel_rfl).trans (by
    delta v_r15_sized
    refine (mer _ (fun p => .bool p) ?_ (mer _ (fun p => .bool p) ?_ (mer _ (fun p => .bool p) ?_ ?_)))
    all_goals first | with_reducible rfl | rfl)
noncomputable def C_49 : Oracle := pureE 49 (pure1 dI64 (fun n => .bool (v_r15_sized n))) (C_16)
theorem C_49_snd : Snd Tryz.prog C_49 := pureE_snd (pure1_ok (F := F49) (C_16_snd) Tryz.func49 (by kernel_rfl) run_49 (fun _ => rfl)) (C_16_snd)

/- ravelin/ravelinref15.behind -/
def F50 : Cfg := { F := 400, roots := [0, 1, 2, 3, 4, 5], fl := ⟨false, false⟩ }
theorem run_50 : ∀ (pa : BitVec 64) (n : BitVec 64) (begin : BitVec 64) (size : BitVec 64), pureRun Tryz.prog C_49 F50 Tryz.f50 [.int .u64 pa, .int .i64 n, .int .u64 begin, .int .u64 size] = some ((fun (p : BitVec 64 × Bool) => .tup [.int .i64 (p.1), .bool (p.2)]) (v_r15_behind pa n begin size)) := fun pa n begin size =>
 (show pureRun Tryz.prog C_49 F50 Tryz.f50 [.int .u64 pa, .int .i64 n, .int .u64 begin, .int .u64 size] = (cond (n.slt 0#64)
 (some (AV.tup [(AV.int (IntKind.i64) (0#64)), (AV.bool (false))]))
 (cond (pa.ult begin)
 (some (AV.tup [(AV.int (IntKind.i64) (0#64)), (AV.bool (false))]))
 (cond (size.ult (pa - begin))
 (some (AV.tup [(AV.int (IntKind.i64) (0#64)), (AV.bool (false))]))
 (cond ((size - (pa - begin)).ult (BitVec.signExtend 64 n))
 (some (AV.tup [(AV.int (IntKind.i64) (0#64)), (AV.bool (false))]))
 (some (AV.tup [(AV.int (IntKind.i64) (BitVec.setWidth 64 (pa - begin))), (AV.bool (true))])))))) by kernel_rfl).trans (by
    delta v_r15_behind
    refine (mer _ (fun (p : BitVec 64 × Bool) => .tup [.int .i64 (p.1), .bool (p.2)]) ?_ (mer _ (fun (p : BitVec 64 × Bool) => .tup [.int .i64 (p.1), .bool (p.2)]) ?_ (mer _ (fun (p : BitVec 64 × Bool) => .tup [.int .i64 (p.1), .bool (p.2)]) ?_ (mer _ (fun (p : BitVec 64 × Bool) => .tup [.int .i64 (p.1), .bool (p.2)]) ?_ ?_))))
    all_goals first | with_reducible rfl | rfl)
noncomputable def C_50 : Oracle := pureE 50 (pure4 dU64 dI64 dU64 dU64 (fun pa n begin size => (fun (p : BitVec 64 × Bool) => .tup [.int .i64 (p.1), .bool (p.2)]) (v_r15_behind pa n begin size))) (C_49)
theorem C_50_snd : Snd Tryz.prog C_50 := pureE_snd (pure4_ok (F := F50) (C_49_snd) Tryz.func50 (by kernel_rfl) run_50 (fun _ _ _ _ => rfl)) (C_49_snd)

/- (*ravelin/ravelinref11.Ram).Len -/
def F34 : Cfg := { F := 400, roots := [0, 1], fl := ⟨false, false⟩ }
noncomputable def C_34 : Oracle := inlS Tryz.prog 34 Tryz.f34 F34 C_50 (C_50)
theorem C_34_snd : Snd Tryz.prog C_34 := inlS_snd Tryz.func34 (by kernel_rfl) C_50_snd C_50_snd

/- ravelin/ravelinref11.sized -/
def F71 : Cfg := { F := 400, roots := [0, 1], fl := ⟨false, false⟩ }
theorem run_71 : ∀ (n : BitVec 64), pureRun Tryz.prog C_34 F71 Tryz.f71 [.int .i64 n] = some (.bool (v_r11_sized n)) := fun n =>
 (show pureRun Tryz.prog C_34 F71 Tryz.f71 [.int .i64 n] = (cond (n == 1#64)
 (some (AV.bool (true)))
 (cond (n == 2#64)
 (some (AV.bool (true)))
 (cond (n == 4#64)
 (some (AV.bool (true)))
 (some (AV.bool (n == 8#64)))))) by kernel_rfl).trans (by
    delta v_r11_sized
    refine (mer _ (fun p => .bool p) ?_ (mer _ (fun p => .bool p) ?_ (mer _ (fun p => .bool p) ?_ ?_)))
    all_goals first | with_reducible rfl | rfl)
noncomputable def C_71 : Oracle := pureE 71 (pure1 dI64 (fun n => .bool (v_r11_sized n))) (C_34)
theorem C_71_snd : Snd Tryz.prog C_71 := pureE_snd (pure1_ok (F := F71) (C_34_snd) Tryz.func71 (by kernel_rfl) run_71 (fun _ => rfl)) (C_34_snd)

/- (*ravelin/ravelinref11.Ram).there -/
def F72 : Cfg := { F := 400, roots := [0, 1, 2, 3], fl := ⟨false, false⟩ }
noncomputable def C_72 : Oracle := inlS Tryz.prog 72 Tryz.f72 F72 C_71 (C_71)
theorem C_72_snd : Snd Tryz.prog C_72 := inlS_snd Tryz.func72 (by kernel_rfl) C_71_snd C_71_snd

/- a loop of (*ravelin/ravelinref11.Ram).Store -/
noncomputable def FL_51_mxb : Cfg := { F := 400, roots := [0, 1, 2, 3, 9], fl := ⟨false, false⟩, laws := [] }
noncomputable def LC_51_mxb : Code := loopIn 0 Tryz.f51
theorem nx_51_mxb_a : ∀ (n : Nat) (t : Nat) (m : Nat) (d : List (List AV)) (mt : Nat) (T : List (List AV)) (off : BitVec 64) (size : BitVec 64) (v : BitVec 64) (i : BitVec 64), codeA Tryz.prog (C_72) (drawA Tryz.prog FL_51_mxb.fl Tryz.f51.ntmps (C_72)) FL_51_mxb Tryz.f51.ntmps LC_51_mxb (tmOf [0, 1, 2, 3, 9] (mxbT (.a n t m d mt T off size v i))) (mxbH (.a n t m d mt T off size v i)) (mxbN (.a n t m d mt T off size v i)) (roundK 3 [0, 1, 2, 3, 9] [0, 1, 2, 3, 9] [] mxbDec mxbDecE) = mxbStep (.a n t m d mt T off size v i) := fun _ _ _ _ _ _ _ _ _ _ => by kernel_rfl
noncomputable def LL_51_mxb : LL Tryz.prog (C_72) Tryz.f51.ntmps (drawA Tryz.prog FL_51_mxb.fl Tryz.f51.ntmps (C_72)) FL_51_mxb LC_51_mxb MxbS MxbE :=
  { N0 := 3, rts := [0, 1, 2, 3, 9], kT := [0, 1, 2, 3, 9], vT := mxbT, hT := mxbH, nT := mxbN, dec := mxbDec, dec_ok := mxbDec_ok, kE := [], oE := mxbO, vE := mxbV, hE := mxbG, nE := mxbM, decE := mxbDecE, decE_ok := mxbDecE_ok, step := mxbStep,
    hstep := fun x => match x with
      | .a n t m d mt T off size v i => nx_51_mxb_a n t m d mt T off size v i
  }
theorem hs_51_mxb : HSnd Tryz.prog Tryz.f51.ntmps (.block 0 (.loop LC_51_mxb)) (llH 3 [0, 1, 2, 3, 9] mxbDec 0 mxbCps) :=
  LL.handler_snd LL_51_mxb (C_72_snd) (drawA_sound (C_72_snd)) (laws_nil) 0 (cps := mxbCps) mxbCps_ok

/- (*ravelin/ravelinref11.Ram).Store -/
noncomputable def F51 : Cfg := { F := 400, roots := [0, 1, 2, 3, 4, 5, 6, 7, 8, 9], fl := ⟨false, false⟩, laws := [(0, llH 3 [0, 1, 2, 3, 9] mxbDec 0 mxbCps)] }
theorem fok_51 : FOK Tryz.prog Tryz.f51 F51 := fok_of (laws_cons (subs_one (b := .block 0 (.loop LC_51_mxb)) (by kernel_rfl) hs_51_mxb) (laws_nil))
noncomputable def C_51 : Oracle := inlS Tryz.prog 51 Tryz.f51 F51 C_72 (C_72)
theorem C_51_snd : Snd Tryz.prog C_51 := inlS_snd Tryz.func51 (by kernel_rfl) C_72_snd C_72_snd (hF := fok_51)

/- an entry: the document: a store -/
noncomputable def FE_51_mxs : Cfg := { F := 400, roots := [0, 1, 2, 3, 4, 5, 6, 7, 8, 9, 10, 11], fl := ⟨false, false⟩, laws := [(0, llH 3 [0, 1, 2, 3, 9] mxbDec 0 mxbCps)] }
noncomputable def C_51_mxs : Oracle := elC 51 mxsDec mxsCps mxsU (C_51)
theorem nx_51_mxs_a : ∀ (n : Nat) (t : Nat) (m : Nat) (d : List (List AV)) (mt : Nat) (T : List (List AV)) (off : BitVec 64) (size : BitVec 64) (v : BitVec 64), inlineA Tryz.prog (C_72) (drawA Tryz.prog) FE_51_mxs Tryz.f51 (mxsA (.a n t m d mt T off size v)) (mxsH (.a n t m d mt T off size v)) (mxsH (.a n t m d mt T off size v)).length mxsDecR = mxsStep (.a n t m d mt T off size v) := fun _ _ _ _ _ _ _ _ _ => by kernel_rfl
noncomputable def EL_51_mxs : EL Tryz.prog (C_72) FE_51_mxs Tryz.f51 MxsS MxsR :=
  { eA := mxsA, eH := mxsH, dec := mxsDec, dec_ok := mxsDec_ok, enc := mxsU, decR := mxsDecR, decR_ok := mxsDecR_ok, step := mxsStep, hstep := fun x => match x with
      | .a n t m d mt T off size v => nx_51_mxs_a n t m d mt T off size v
  }
theorem foke_51_mxs : FOK Tryz.prog Tryz.f51 FE_51_mxs := fok_of (laws_cons (subs_one (b := .block 0 (.loop LC_51_mxb)) (by kernel_rfl) hs_51_mxb) (laws_nil))
theorem C_51_mxs_snd : Snd Tryz.prog C_51_mxs := elC_snd EL_51_mxs (C_72_snd) Tryz.func51 (by kernel_rfl) (cps := mxsCps) mxsCps_ok (C_51_snd) (hF := foke_51_mxs)

/- ravelin/ravelinref13.laid -/
def F73 : Cfg := { F := 400, roots := [0, 1, 2, 3, 4], fl := ⟨false, false⟩ }
noncomputable def C_73 : Oracle := inlS Tryz.prog 73 Tryz.f73 F73 C_51_mxs (C_51_mxs)
theorem C_73_snd : Snd Tryz.prog C_73 := inlS_snd Tryz.func73 (by kernel_rfl) C_51_mxs_snd C_51_mxs_snd

/- (*ravelin/ravelinref12.Plic).enable -/
def F74 : Cfg := { F := 400, roots := [0, 1, 2, 3], fl := ⟨false, false⟩ }
noncomputable def C_74 : Oracle := inlS Tryz.prog 74 Tryz.f74 F74 C_73 (C_73)
theorem C_74_snd : Snd Tryz.prog C_74 := inlS_snd Tryz.func74 (by kernel_rfl) C_73_snd C_73_snd

/- (*ravelin/ravelinref12.Plic).complete -/
def F75 : Cfg := { F := 400, roots := [0, 1, 2], fl := ⟨false, false⟩ }
noncomputable def C_75 : Oracle := inlS Tryz.prog 75 Tryz.f75 F75 C_74 (C_74)
theorem C_75_snd : Snd Tryz.prog C_75 := inlS_snd Tryz.func75 (by kernel_rfl) C_74_snd C_74_snd

/- (*ravelin/ravelinref15.Bus).Store -/
def F17 : Cfg := { F := 400, roots := [0, 1, 2, 3, 4, 5, 6], fl := ⟨false, false⟩ }
noncomputable def C_17 : Oracle := inlS Tryz.prog 17 Tryz.f17 F17 C_75 (C_75)
theorem C_17_snd : Snd Tryz.prog C_17 := inlS_snd Tryz.func17 (by kernel_rfl) C_75_snd C_75_snd

/- a loop of ravelin/ravelinlaw21.Said -/
noncomputable def FL_5_msy : Cfg := { F := 400, roots := [0, 3, 5], fl := ⟨false, false⟩, laws := [] }
noncomputable def LC_5_msy : Code := loopIn 0 Tryz.f5
theorem nx_5_msy_a : ∀ (rw : Bool) (na : Nat) (ma : Nat) (da : List (List AV)) (nx : Nat) (t : Nat) (mx : Nat) (dx : List (List AV)) (mt : Nat) (T : List (List AV)) (a0 : BitVec 64) (a1 : BitVec 64) (a2 : Bool) (xl : List (List AV)) (xt : List (List AV)) (xe : Bool) (xo : BitVec 64) (xw : Bool) (i : BitVec 64), codeA Tryz.prog (C_17) (drawA Tryz.prog FL_5_msy.fl Tryz.f5.ntmps (C_17)) FL_5_msy Tryz.f5.ntmps LC_5_msy (tmOf [0, 3, 5] (msyT (.a rw na ma da nx t mx dx mt T a0 a1 a2 xl xt xe xo xw i))) (msyH (.a rw na ma da nx t mx dx mt T a0 a1 a2 xl xt xe xo xw i)) (msyN (.a rw na ma da nx t mx dx mt T a0 a1 a2 xl xt xe xo xw i)) (roundK 9 [0, 3, 5] [0, 3, 5] [3] msyDec msyDecE) = msyStep (.a rw na ma da nx t mx dx mt T a0 a1 a2 xl xt xe xo xw i) := fun _ _ _ _ _ _ _ _ _ _ _ _ _ _ _ _ _ _ _ => by kernel_rfl
noncomputable def LL_5_msy : LL Tryz.prog (C_17) Tryz.f5.ntmps (drawA Tryz.prog FL_5_msy.fl Tryz.f5.ntmps (C_17)) FL_5_msy LC_5_msy MsyS MsyE :=
  { N0 := 9, rts := [0, 3, 5], kT := [0, 3, 5], vT := msyT, hT := msyH, nT := msyN, dec := msyDec, dec_ok := msyDec_ok, kE := [3], oE := msyO, vE := msyV, hE := msyG, nE := msyM, decE := msyDecE, decE_ok := msyDecE_ok, step := msyStep,
    hstep := fun x => match x with
      | .a rw na ma da nx t mx dx mt T a0 a1 a2 xl xt xe xo xw i => nx_5_msy_a rw na ma da nx t mx dx mt T a0 a1 a2 xl xt xe xo xw i
  }
theorem hs_5_msy : HSnd Tryz.prog Tryz.f5.ntmps (.block 0 (.loop LC_5_msy)) (orH 9 (llH 9 [0, 3, 5] msyDec 0 msyCps) (selfH Tryz.prog (C_17) (drawA Tryz.prog FL_5_msy.fl Tryz.f5.ntmps (C_17)) FL_5_msy Tryz.f5.ntmps (.block 0 (.loop LC_5_msy)))) :=
  orH_snd (LL.handler_snd LL_5_msy (C_17_snd) (drawA_sound (C_17_snd)) (laws_nil) 0 (cps := msyCps) msyCps_ok) (selfH_snd (C_17_snd) (drawA_sound (C_17_snd)) (laws_nil))

/- ravelin/ravelinlaw21.Said -/
def F5 : Cfg := { F := 400, roots := [0, 1, 2, 3, 4], fl := ⟨false, false⟩ }
noncomputable def C_5 : Oracle := inlS Tryz.prog 5 Tryz.f5 F5 C_17 (C_17)
theorem C_5_snd : Snd Tryz.prog C_5 := inlS_snd Tryz.func5 (by kernel_rfl) C_17_snd C_17_snd

/- ravelin/ravelinlaw21.May -/
def F6 : Cfg := { F := 400, roots := [0, 1, 2], fl := ⟨false, false⟩ }
noncomputable def C_6 : Oracle := inlS Tryz.prog 6 Tryz.f6 F6 C_5 (C_5)
theorem C_6_snd : Snd Tryz.prog C_6 := inlS_snd Tryz.func6 (by kernel_rfl) C_5_snd C_5_snd

/- (*ravelin/bus.Bus).InRam -/
def F19 : Cfg := { F := 400, roots := [0, 1, 2, 3, 4, 5], fl := ⟨false, false⟩ }
noncomputable def C_19 : Oracle := inlS Tryz.prog 19 Tryz.f19 F19 C_6 (C_6)
theorem C_19_snd : Snd Tryz.prog C_19 := inlS_snd Tryz.func19 (by kernel_rfl) C_6_snd C_6_snd

/- a loop of ravelin/ram.get -/
noncomputable def FL_70_mgl : Cfg := { F := 400, roots := [2, 5, 6, 7], fl := ⟨false, false⟩, laws := [] }
noncomputable def LC_70_mgl : Code := loopIn 0 Tryz.f70
theorem nx_70_mgl_a : ∀ (rw : Bool) (m : Nat) (d : List (List AV)) (o : Nat) (n : Nat) (v : BitVec 64) (ln : BitVec 64) (ix : BitVec 64), codeA Tryz.prog (C_19) (drawA Tryz.prog FL_70_mgl.fl Tryz.f70.ntmps (C_19)) FL_70_mgl Tryz.f70.ntmps LC_70_mgl (tmOf [2, 5, 6, 7] (mglT (.a rw m d o n v ln ix))) (mglH (.a rw m d o n v ln ix)) (mglN (.a rw m d o n v ln ix)) (roundK 1 [2, 5, 6, 7] [2, 5, 6, 7] [2] mglDec mglDecE) = mglStep (.a rw m d o n v ln ix) := fun _ _ _ _ _ _ _ _ => by kernel_rfl
noncomputable def LL_70_mgl : LL Tryz.prog (C_19) Tryz.f70.ntmps (drawA Tryz.prog FL_70_mgl.fl Tryz.f70.ntmps (C_19)) FL_70_mgl LC_70_mgl MglS MglE :=
  { N0 := 1, rts := [2, 5, 6, 7], kT := [2, 5, 6, 7], vT := mglT, hT := mglH, nT := mglN, dec := mglDec, dec_ok := mglDec_ok, kE := [2], oE := mglO, vE := mglV, hE := mglG, nE := mglM, decE := mglDecE, decE_ok := mglDecE_ok, step := mglStep,
    hstep := fun x => match x with
      | .a rw m d o n v ln ix => nx_70_mgl_a rw m d o n v ln ix
  }
theorem hs_70_mgl : HSnd Tryz.prog Tryz.f70.ntmps (.block 0 (.loop LC_70_mgl)) (orH 1 (llH 1 [2, 5, 6, 7] mglDec 0 mglCps) (selfH Tryz.prog (C_19) (drawA Tryz.prog FL_70_mgl.fl Tryz.f70.ntmps (C_19)) FL_70_mgl Tryz.f70.ntmps (.block 0 (.loop LC_70_mgl)))) :=
  orH_snd (LL.handler_snd LL_70_mgl (C_19_snd) (drawA_sound (C_19_snd)) (laws_nil) 0 (cps := mglCps) mglCps_ok) (selfH_snd (C_19_snd) (drawA_sound (C_19_snd)) (laws_nil))

/- ravelin/ram.get -/
noncomputable def F70 : Cfg := { F := 400, roots := [0, 1, 2, 3, 4], fl := ⟨false, false⟩, laws := [(0, orH 1 (llH 1 [2, 5, 6, 7] mglDec 0 mglCps) (selfH Tryz.prog (C_19) (drawA Tryz.prog FL_70_mgl.fl Tryz.f70.ntmps (C_19)) FL_70_mgl Tryz.f70.ntmps (.block 0 (.loop LC_70_mgl))))] }
theorem fok_70 : FOK Tryz.prog Tryz.f70 F70 := fok_of (laws_cons (subs_one (b := .block 0 (.loop LC_70_mgl)) (by kernel_rfl) hs_70_mgl) (laws_nil))
noncomputable def C_70 : Oracle := inlS Tryz.prog 70 Tryz.f70 F70 C_19 (C_19)
theorem C_70_snd : Snd Tryz.prog C_70 := inlS_snd Tryz.func70 (by kernel_rfl) C_19_snd C_19_snd (hF := fok_70)

/- an entry: a number of bytes -/
noncomputable def FE_70_mge : Cfg := { F := 400, roots := [0, 1, 2, 3, 4, 5, 6, 7, 8, 9, 10, 11], fl := ⟨false, false⟩, laws := [(0, orH 1 (llH 1 [2, 5, 6, 7] mglDec 0 mglCps) (selfH Tryz.prog (C_19) (drawA Tryz.prog FL_70_mgl.fl Tryz.f70.ntmps (C_19)) FL_70_mgl Tryz.f70.ntmps (.block 0 (.loop LC_70_mgl))))] }
noncomputable def C_70_mge : Oracle := elC 70 mgeDec mgeCps mgeU (C_70)
theorem nx_70_mge_s : ∀ (rw : Bool) (m : Nat) (d : List (List AV)) (o : Nat) (n : Nat), inlineA Tryz.prog (C_19) (drawA Tryz.prog) FE_70_mge Tryz.f70 (mgeA (.s rw m d o n)) (mgeH (.s rw m d o n)) (mgeH (.s rw m d o n)).length mgeDecR = mgeStep (.s rw m d o n) := fun _ _ _ _ _ => by kernel_rfl
theorem nx_70_mge_z : inlineA Tryz.prog (C_19) (drawA Tryz.prog) FE_70_mge Tryz.f70 (mgeA (.z )) (mgeH (.z )) (mgeH (.z )).length mgeDecR = mgeStep (.z ) := by kernel_rfl
noncomputable def EL_70_mge : EL Tryz.prog (C_19) FE_70_mge Tryz.f70 MgeS MgeR :=
  { eA := mgeA, eH := mgeH, dec := mgeDec, dec_ok := mgeDec_ok, enc := mgeU, decR := mgeDecR, decR_ok := mgeDecR_ok, step := mgeStep, hstep := fun x => match x with
      | .s rw m d o n => nx_70_mge_s rw m d o n
      | .z => nx_70_mge_z 
  }
theorem foke_70_mge : FOK Tryz.prog Tryz.f70 FE_70_mge := fok_of (laws_cons (subs_one (b := .block 0 (.loop LC_70_mgl)) (by kernel_rfl) hs_70_mgl) (laws_nil))
theorem C_70_mge_snd : Snd Tryz.prog C_70_mge := elC_snd EL_70_mge (C_19_snd) Tryz.func70 (by kernel_rfl) (cps := mgeCps) mgeCps_ok (C_70_snd) (hF := foke_70_mge)

/- (*ravelin/ram.Ram).Load -/
def F35 : Cfg := { F := 400, roots := [0, 1, 2, 3, 4, 5, 6], fl := ⟨false, false⟩ }
noncomputable def C_35 : Oracle := inlS Tryz.prog 35 Tryz.f35 F35 C_70_mge (C_70_mge)
theorem C_35_snd : Snd Tryz.prog C_35 := inlS_snd Tryz.func35 (by kernel_rfl) C_70_mge_snd C_70_mge_snd

/- an entry: a load -/
def FE_35_mrl : Cfg := { F := 400, roots := [0, 1, 2, 3, 4, 5, 6, 7, 8, 9, 10, 11], fl := ⟨false, false⟩, laws := [] }
noncomputable def C_35_mrl : Oracle := elC 35 mrlDec mrlCps mrlU (C_35)
theorem nx_35_mrl_a : ∀ (n : Nat) (tg : List (List AV)) (m : Nat) (d : List (List AV)) (off : BitVec 64) (size : BitVec 64), inlineA Tryz.prog (C_70_mge) (drawA Tryz.prog) FE_35_mrl Tryz.f35 (mrlA (.a n tg m d off size)) (mrlH (.a n tg m d off size)) (mrlH (.a n tg m d off size)).length mrlDecR = mrlStep (.a n tg m d off size) := fun _ _ _ _ _ _ => by kernel_rfl
noncomputable def EL_35_mrl : EL Tryz.prog (C_70_mge) FE_35_mrl Tryz.f35 MrlS MrlR :=
  { eA := mrlA, eH := mrlH, dec := mrlDec, dec_ok := mrlDec_ok, enc := mrlU, decR := mrlDecR, decR_ok := mrlDecR_ok, step := mrlStep, hstep := fun x => match x with
      | .a n tg m d off size => nx_35_mrl_a n tg m d off size
  }
theorem C_35_mrl_snd : Snd Tryz.prog C_35_mrl := elC_snd EL_35_mrl (C_70_mge_snd) Tryz.func35 (by kernel_rfl) (cps := mrlCps) mrlCps_ok (C_35_snd)

/- sync/atomic.LoadUint32 -/
noncomputable def C_122 : Oracle := atLoadE 122 (C_35_mrl)
theorem C_122_snd : Snd Tryz.prog C_122 := atLoadE_snd Tryz.func122 (by kernel_rfl) (by kernel_rfl) (by kernel_rfl) (by kernel_rfl) (C_35_mrl_snd)

/- (*sync/atomic.Uint32).Load -/
def F119 : Cfg := { F := 400, roots := [0, 1], fl := ⟨false, false⟩ }
noncomputable def C_119 : Oracle := quiS Tryz.prog 119 Tryz.f119 F119 C_122 (C_122)
theorem C_119_snd : Snd Tryz.prog C_119 := quiS_snd Tryz.func119 (by kernel_rfl) C_122_snd C_122_snd

/- (*ravelin/plic.Plic).best -/
def F123 : Cfg := { F := 400, roots := [0, 1, 2, 3, 4, 5], fl := ⟨false, false⟩ }
noncomputable def C_123 : Oracle := quiS Tryz.prog 123 Tryz.f123 F123 C_119 (C_119)
theorem C_123_snd : Snd Tryz.prog C_123 := quiS_snd Tryz.func123 (by kernel_rfl) C_119_snd C_119_snd

/- sync/atomic.OrUint32 -/
noncomputable def C_126 : Oracle := atUpdE 126 opOr (C_123)
theorem C_126_snd : Snd Tryz.prog C_126 := atUpdE_snd (o := Op.intBits .or) Tryz.func126 (by kernel_rfl) (by kernel_rfl) (by kernel_rfl) (by kernel_rfl) opOr_ok (C_123_snd)

/- (*sync/atomic.Uint32).Or -/
def F124 : Cfg := { F := 400, roots := [0, 1, 2], fl := ⟨false, false⟩ }
noncomputable def C_124 : Oracle := inlS Tryz.prog 124 Tryz.f124 F124 C_126 (C_126)
theorem C_124_snd : Snd Tryz.prog C_124 := inlS_snd Tryz.func124 (by kernel_rfl) C_126_snd C_126_snd

/- (*ravelin/plic.Plic).claim -/
def F120 : Cfg := { F := 400, roots := [0, 1, 2, 3], fl := ⟨false, false⟩ }
noncomputable def C_120 : Oracle := inlS Tryz.prog 120 Tryz.f120 F120 C_124 (C_124)
theorem C_120_snd : Snd Tryz.prog C_120 := inlS_snd Tryz.func120 (by kernel_rfl) C_124_snd C_124_snd

/- (*ravelin/serial.queue).next -/
def F131 : Cfg := { F := 400, roots := [0, 1, 2], fl := ⟨false, false⟩ }
noncomputable def C_131 : Oracle := inlS Tryz.prog 131 Tryz.f131 F131 C_120 (C_120)
theorem C_131_snd : Snd Tryz.prog C_131 := inlS_snd Tryz.func131 (by kernel_rfl) C_120_snd C_120_snd

/- ravelin/serial.one -/
def F132 : Cfg := { F := 400, roots := [0, 1], fl := ⟨false, false⟩ }
noncomputable def C_132 : Oracle := inlS Tryz.prog 132 Tryz.f132 F132 C_131 (C_131)
theorem C_132_snd : Snd Tryz.prog C_132 := inlS_snd Tryz.func132 (by kernel_rfl) C_131_snd C_131_snd

/- (*ravelin/serial.queue).Waits -/
def F133 : Cfg := { F := 400, roots := [0, 1], fl := ⟨false, false⟩ }
noncomputable def C_133 : Oracle := inlS Tryz.prog 133 Tryz.f133 F133 C_132 (C_132)
theorem C_133_snd : Snd Tryz.prog C_133 := inlS_snd Tryz.func133 (by kernel_rfl) C_132_snd C_132_snd

/- (*ravelin/bus.Bus).Load -/
def F20 : Cfg := { F := 400, roots := [0, 1, 2, 3, 4, 5, 6], fl := ⟨false, false⟩ }
noncomputable def C_20 : Oracle := inlS Tryz.prog 20 Tryz.f20 F20 C_133 (C_133)
theorem C_20_snd : Snd Tryz.prog C_20 := inlS_snd Tryz.func20 (by kernel_rfl) C_133_snd C_133_snd

/- (ravelin/pte.entry).has -/
def F58 : Cfg := { F := 400, roots := [0, 1, 2], fl := ⟨true, false⟩ }
theorem run_58 : ∀ (xe : BitVec 64) (bits : BitVec 64), pureRun Tryz.prog C_20 F58 Tryz.f58 [.int .u64 xe, .int .u64 bits] = some (.bool (v_pte_entry_has xe bits)) := fun xe bits =>
 (show pureRun Tryz.prog C_20 F58 Tryz.f58 [.int .u64 xe, .int .u64 bits] = (some (AV.bool (!xe &&& bits == 0#64))) by kernel_rfl).trans (rfl)
noncomputable def C_58 : Oracle := pureE 58 (pure2 dU64 dU64 (fun xe bits => .bool (v_pte_entry_has xe bits))) (C_20)
theorem C_58_snd : Snd Tryz.prog C_58 := pureE_snd (pure2_ok (F := F58) (C_20_snd) Tryz.func58 (by kernel_rfl) run_58 (fun _ _ => rfl)) (C_20_snd)

/- (ravelin/pte.entry).leaf -/
def F59 : Cfg := { F := 400, roots := [0, 1], fl := ⟨true, false⟩ }
theorem run_59 : ∀ (xe : BitVec 64), pureRun Tryz.prog C_58 F59 Tryz.f59 [.int .u64 xe] = some (.bool (v_pte_entry_leaf xe)) := fun xe =>
 (show pureRun Tryz.prog C_58 F59 Tryz.f59 [.int .u64 xe] = (some (AV.bool (v_pte_entry_has xe 10#64))) by kernel_rfl).trans (rfl)
noncomputable def C_59 : Oracle := pureE 59 (pure1 dU64 (fun xe => .bool (v_pte_entry_leaf xe))) (C_58)
theorem C_59_snd : Snd Tryz.prog C_59 := pureE_snd (pure1_ok (F := F59) (C_58_snd) Tryz.func59 (by kernel_rfl) run_59 (fun _ => rfl)) (C_58_snd)

/- (ravelin/pte.entry).page -/
def F60 : Cfg := { F := 400, roots := [0, 1], fl := ⟨true, false⟩ }
theorem run_60 : ∀ (xe : BitVec 64), pureRun Tryz.prog C_59 F60 Tryz.f60 [.int .u64 xe] = some (.int .u64 (v_pte_entry_page xe)) := fun xe =>
 (show pureRun Tryz.prog C_59 F60 Tryz.f60 [.int .u64 xe] = (some (AV.int (IntKind.u64) (xe >>> 10 &&& 17592186044415#64))) by kernel_rfl).trans (rfl)
noncomputable def C_60 : Oracle := pureE 60 (pure1 dU64 (fun xe => .int .u64 (v_pte_entry_page xe))) (C_59)
theorem C_60_snd : Snd Tryz.prog C_60 := pureE_snd (pure1_ok (F := F60) (C_59_snd) Tryz.func60 (by kernel_rfl) run_60 (fun _ => rfl)) (C_59_snd)

/- ravelin/pte.Right -/
def F21 : Cfg := { F := 400, roots := [0, 1, 2, 3], fl := ⟨true, false⟩ }
theorem run_21 : ∀ (p : BitVec 64) (level : BitVec 64), pureRun Tryz.prog C_60 F21 Tryz.f21 [.int .u64 p, .int .i64 level] = cond (g_pte_Right p level) (some (.bool (v_pte_Right p level))) none := fun p level =>
 (show pureRun Tryz.prog C_60 F21 Tryz.f21 [.int .u64 p, .int .i64 level] = (cond (level.slt 0#64)
 (some (AV.bool (false)))
 (cond ((2#64).slt level)
 (some (AV.bool (false)))
 (cond (!v_pte_entry_has p 1#64)
 (some (AV.bool (false)))
 (cond (v_pte_entry_has p 4593671619917905920#64)
 (some (AV.bool (false)))
 (cond (v_pte_entry_has p 4#64)
 (cond (!v_pte_entry_has p 2#64)
 (some (AV.bool (false)))
 (cond (v_pte_entry_leaf p)
 (cond (nonneg IntKind.i64 (9#64 * level))
 (some (AV.bool (v_pte_entry_page p &&& 1#64 <<< min (9#64 * level).toNat 64 - 1#64 == 0#64)))
        none)
 (cond ((0#64).slt level)
 (some (AV.bool (!v_pte_entry_has p 13835058055282163920#64)))
 (some (AV.bool (false))))))
 (cond (v_pte_entry_leaf p)
 (cond (nonneg IntKind.i64 (9#64 * level))
 (some (AV.bool (v_pte_entry_page p &&& 1#64 <<< min (9#64 * level).toNat 64 - 1#64 == 0#64)))
       none)
 (cond ((0#64).slt level)
 (some (AV.bool (!v_pte_entry_has p 13835058055282163920#64)))
 (some (AV.bool (false)))))))))) by kernel_rfl).trans ((merG _ (fun p => .bool p) rfl (merG _ (fun p => .bool p) rfl (merG _ (fun p => .bool p) rfl (merG _ (fun p => .bool p) rfl (merG _ (fun p => .bool p) (merG _ (fun p => .bool p) rfl (merG _ (fun p => .bool p) (merR _ (fun p => .bool p) rfl) (merG _ (fun p => .bool p) rfl rfl))) (merG _ (fun p => .bool p) (merR _ (fun p => .bool p) rfl) (merG _ (fun p => .bool p) rfl rfl))))))))
noncomputable def C_21 : Oracle := pureGE 21 (pure2 dU64 dI64 (fun p level => .tup [.bool (g_pte_Right p level), .bool (v_pte_Right p level)])) (C_60)
theorem C_21_snd : Snd Tryz.prog C_21 := pureGE_snd (pure2_gok (F := F21) (C_60_snd) Tryz.func21 (by kernel_rfl) run_21 (fun _ _ => rfl)) (C_60_snd)

/- ravelin/pte.Leaf -/
def F22 : Cfg := { F := 400, roots := [0, 1], fl := ⟨true, false⟩ }
theorem run_22 : ∀ (p : BitVec 64), pureRun Tryz.prog C_21 F22 Tryz.f22 [.int .u64 p] = some (.bool (v_pte_Leaf p)) := fun p =>
 (show pureRun Tryz.prog C_21 F22 Tryz.f22 [.int .u64 p] = (some (AV.bool (v_pte_entry_leaf p))) by kernel_rfl).trans (rfl)
noncomputable def C_22 : Oracle := pureE 22 (pure1 dU64 (fun p => .bool (v_pte_Leaf p))) (C_21)
theorem C_22_snd : Snd Tryz.prog C_22 := pureE_snd (pure1_ok (F := F22) (C_21_snd) Tryz.func22 (by kernel_rfl) run_22 (fun _ => rfl)) (C_21_snd)

/- (ravelin/pte.entry).whose -/
def F61 : Cfg := { F := 400, roots := [0, 1, 2, 3, 4], fl := ⟨true, false⟩ }
theorem run_61 : ∀ (xe : BitVec 64) (kind : BitVec 64) (priv : BitVec 64) (mstatus : BitVec 64), pureRun Tryz.prog C_22 F61 Tryz.f61 [.int .u64 xe, .int .i64 kind, .int .i64 priv, .int .u64 mstatus] = some (.bool (v_pte_entry_whose xe kind priv mstatus)) := fun xe kind priv mstatus =>
 (show pureRun Tryz.prog C_22 F61 Tryz.f61 [.int .u64 xe, .int .i64 kind, .int .i64 priv, .int .u64 mstatus] = (cond (priv == 0#64)
 (some (AV.bool (v_pte_entry_has xe 16#64)))
 (cond (v_pte_entry_has xe 16#64)
 (cond (!kind == 1#64)
 (some (AV.bool (!mstatus &&& 262144#64 == 0#64)))
 (some (AV.bool (false))))
 (some (AV.bool (true))))) by kernel_rfl).trans (by
    delta v_pte_entry_whose
    refine (mer _ (fun p => .bool p) ?_ (mer _ (fun p => .bool p) (mer _ (fun p => .bool p) ?_ ?_) ?_))
    all_goals first | with_reducible rfl | rfl)
noncomputable def C_61 : Oracle := pureE 61 (pure4 dU64 dI64 dI64 dU64 (fun xe kind priv mstatus => .bool (v_pte_entry_whose xe kind priv mstatus))) (C_22)
theorem C_61_snd : Snd Tryz.prog C_61 := pureE_snd (pure4_ok (F := F61) (C_22_snd) Tryz.func61 (by kernel_rfl) run_61 (fun _ _ _ _ => rfl)) (C_22_snd)

/- ravelin/pte.May -/
def F23 : Cfg := { F := 400, roots := [0, 1, 2, 3, 4, 5], fl := ⟨true, false⟩ }
theorem run_23 : ∀ (p : BitVec 64) (kind : BitVec 64) (priv : BitVec 64) (mstatus : BitVec 64), pureRun Tryz.prog C_61 F23 Tryz.f23 [.int .u64 p, .int .i64 kind, .int .i64 priv, .int .u64 mstatus] = some (.bool (v_pte_May p kind priv mstatus)) := fun p kind priv mstatus =>
 (show pureRun Tryz.prog C_61 F23 Tryz.f23 [.int .u64 p, .int .i64 kind, .int .i64 priv, .int .u64 mstatus] = (cond (!v_pte_entry_whose p kind priv mstatus)
 (some (AV.bool (false)))
 (cond (kind == 1#64)
 (some (AV.bool (v_pte_entry_has p 8#64)))
 (cond (kind == 2#64)
 (cond (v_pte_entry_has p 2#64)
 (some (AV.bool (true)))
 (cond (!mstatus &&& 524288#64 == 0#64)
 (some (AV.bool (v_pte_entry_has p 8#64)))
 (some (AV.bool (false)))))
 (cond (kind == 3#64)
 (some (AV.bool (v_pte_entry_has p 4#64)))
 (some (AV.bool (false))))))) by kernel_rfl).trans (by
    delta v_pte_May
    refine (mer _ (fun p => .bool p) ?_ (mer _ (fun p => .bool p) ?_ (mer _ (fun p => .bool p) (mer _ (fun p => .bool p) ?_ (mer _ (fun p => .bool p) ?_ ?_)) (mer _ (fun p => .bool p) ?_ ?_))))
    all_goals first | with_reducible rfl | rfl)
noncomputable def C_23 : Oracle := pureE 23 (pure4 dU64 dI64 dI64 dU64 (fun p kind priv mstatus => .bool (v_pte_May p kind priv mstatus))) (C_61)
theorem C_23_snd : Snd Tryz.prog C_23 := pureE_snd (pure4_ok (F := F23) (C_61_snd) Tryz.func23 (by kernel_rfl) run_23 (fun _ _ _ _ => rfl)) (C_61_snd)

/- ravelin/pte.Mark -/
def F24 : Cfg := { F := 400, roots := [0, 1, 2, 3], fl := ⟨true, false⟩ }
theorem run_24 : ∀ (p : BitVec 64) (kind : BitVec 64), pureRun Tryz.prog C_23 F24 Tryz.f24 [.int .u64 p, .int .i64 kind] = some (.int .u64 (v_pte_Mark p kind)) := fun p kind =>
 (show pureRun Tryz.prog C_23 F24 Tryz.f24 [.int .u64 p, .int .i64 kind] = (cond (kind == 3#64)
 (some (AV.int (IntKind.u64) (p ||| 64#64 ||| 128#64)))
 (some (AV.int (IntKind.u64) (p ||| 64#64)))) by kernel_rfl).trans (by
    delta v_pte_Mark
    refine (mer _ (fun p => .int .u64 p) ?_ ?_)
    all_goals first | with_reducible rfl | rfl)
noncomputable def C_24 : Oracle := pureE 24 (pure2 dU64 dI64 (fun p kind => .int .u64 (v_pte_Mark p kind))) (C_23)
theorem C_24_snd : Snd Tryz.prog C_24 := pureE_snd (pure2_ok (F := F24) (C_23_snd) Tryz.func24 (by kernel_rfl) run_24 (fun _ _ => rfl)) (C_23_snd)

/- ravelin/walk.Walk$1 -/
def F18 : Cfg := { F := 400, roots := [], fl := ⟨false, false⟩ }
noncomputable def C_18 : Oracle := inlS Tryz.prog 18 Tryz.f18 F18 C_24 (C_24)
theorem C_18_snd : Snd Tryz.prog C_18 := inlS_snd Tryz.func18 (by kernel_rfl) C_24_snd C_24_snd

/- ravelin/walk.Walk -/
def F7 : Cfg := { F := 400, roots := [0, 1, 2, 3, 4, 5, 6, 7, 8, 9, 10, 11, 12, 13, 14, 15], fl := ⟨false, false⟩ }
noncomputable def C_7 : Oracle := inlS Tryz.prog 7 Tryz.f7 F7 C_18 (C_18)
theorem C_7_snd : Snd Tryz.prog C_7 := inlS_snd Tryz.func7 (by kernel_rfl) C_18_snd C_18_snd

/- an entry: a walk -/
def FE_7_mwk : Cfg := { F := 400, roots := [0, 1, 2, 3, 4, 5, 6, 7, 8, 9, 10, 11], fl := ⟨false, false⟩, laws := [] }
noncomputable def C_7_mwk : Oracle := elC 7 mwkDec mwkCps mwkU (C_7)
theorem nx_7_mwk_a : ∀ (n : Nat) (tg : List (List AV)) (m : Nat) (d : List (List AV)) (c0 : BitVec 64) (c1 : BitVec 64) (c2 : BitVec 64) (pr : List (List AV)) (p1 : BitVec 32) (p2 : BitVec 32) (en : List (List AV)) (th : List (List AV)) (q : List (List AV)) (u1 : BitVec 64) (u2 : BitVec 64) (u3 : Bool) (w : Bool) (satp : BitVec 64) (va : BitVec 64) (kind : BitVec 64) (priv : BitVec 64) (mst : BitVec 64), inlineA Tryz.prog (C_18) (drawA Tryz.prog) FE_7_mwk Tryz.f7 (mwkA (.a n tg m d c0 c1 c2 pr p1 p2 en th q u1 u2 u3 w satp va kind priv mst)) (mwkH (.a n tg m d c0 c1 c2 pr p1 p2 en th q u1 u2 u3 w satp va kind priv mst)) (mwkH (.a n tg m d c0 c1 c2 pr p1 p2 en th q u1 u2 u3 w satp va kind priv mst)).length mwkDecR = mwkStep (.a n tg m d c0 c1 c2 pr p1 p2 en th q u1 u2 u3 w satp va kind priv mst) := fun _ _ _ _ _ _ _ _ _ _ _ _ _ _ _ _ _ _ _ _ _ _ => by kernel_rfl
noncomputable def EL_7_mwk : EL Tryz.prog (C_18) FE_7_mwk Tryz.f7 MwkS MwkR :=
  { eA := mwkA, eH := mwkH, dec := mwkDec, dec_ok := mwkDec_ok, enc := mwkU, decR := mwkDecR, decR_ok := mwkDecR_ok, step := mwkStep, hstep := fun x => match x with
      | .a n tg m d c0 c1 c2 pr p1 p2 en th q u1 u2 u3 w satp va kind priv mst => nx_7_mwk_a n tg m d c0 c1 c2 pr p1 p2 en th q u1 u2 u3 w satp va kind priv mst
  }
theorem C_7_mwk_snd : Snd Tryz.prog C_7_mwk := elC_snd EL_7_mwk (C_18_snd) Tryz.func7 (by kernel_rfl) (cps := mwkCps) (Eq.mp (show ECok mwkStep mwkCps = ECok EL_7_mwk.step mwkCps by kernel_rfl) mwkCps_ok) (C_7_snd)

/- ravelin/ravelinref21.Canonical -/
def F25 : Cfg := { F := 400, roots := [0, 1, 2], fl := ⟨false, false⟩ }
theorem run_25 : ∀ (va : BitVec 64), pureRun Tryz.prog C_7_mwk F25 Tryz.f25 [.int .u64 va] = some (.bool (v_r21_Canonical va)) := fun va =>
 (show pureRun Tryz.prog C_7_mwk F25 Tryz.f25 [.int .u64 va] = (cond (va >>> 38 == 0#64)
 (some (AV.bool (true)))
 (some (AV.bool (va >>> 38 == 67108863#64)))) by kernel_rfl).trans (by
    delta v_r21_Canonical
    refine (mer _ (fun p => .bool p) ?_ ?_)
    all_goals first | with_reducible rfl | rfl)
noncomputable def C_25 : Oracle := pureE 25 (pure1 dU64 (fun va => .bool (v_r21_Canonical va))) (C_7_mwk)
theorem C_25_snd : Snd Tryz.prog C_25 := pureE_snd (pure1_ok (F := F25) (C_7_mwk_snd) Tryz.func25 (by kernel_rfl) run_25 (fun _ => rfl)) (C_7_mwk_snd)

/- (*ravelin/ravelinref15.Bus).InRam -/
def F26 : Cfg := { F := 400, roots := [0, 1, 2, 3, 4, 5], fl := ⟨false, false⟩ }
noncomputable def C_26 : Oracle := inlS Tryz.prog 26 Tryz.f26 F26 C_25 (C_25)
theorem C_26_snd : Snd Tryz.prog C_26 := inlS_snd Tryz.func26 (by kernel_rfl) C_25_snd C_25_snd

/- a loop of (*ravelin/ravelinref11.Ram).Load -/
noncomputable def FL_36_mxa : Cfg := { F := 400, roots := [0, 1, 8, 9], fl := ⟨false, false⟩, laws := [] }
noncomputable def LC_36_mxa : Code := loopIn 0 Tryz.f36
theorem nx_36_mxa_a : ∀ (n : Nat) (t : Nat) (m : Nat) (d : List (List AV)) (mt : Nat) (T : List (List AV)) (off : BitVec 64) (v : BitVec 64) (i : BitVec 64), codeA Tryz.prog (C_26) (drawA Tryz.prog FL_36_mxa.fl Tryz.f36.ntmps (C_26)) FL_36_mxa Tryz.f36.ntmps LC_36_mxa (tmOf [0, 1, 8, 9] (mxaT (.a n t m d mt T off v i))) (mxaH (.a n t m d mt T off v i)) (mxaN (.a n t m d mt T off v i)) (roundK 3 [0, 1, 8, 9] [0, 1, 8, 9] [8] mxaDec mxaDecE) = mxaStep (.a n t m d mt T off v i) := fun _ _ _ _ _ _ _ _ _ => by kernel_rfl
noncomputable def LL_36_mxa : LL Tryz.prog (C_26) Tryz.f36.ntmps (drawA Tryz.prog FL_36_mxa.fl Tryz.f36.ntmps (C_26)) FL_36_mxa LC_36_mxa MxaS MxaE :=
  { N0 := 3, rts := [0, 1, 8, 9], kT := [0, 1, 8, 9], vT := mxaT, hT := mxaH, nT := mxaN, dec := mxaDec, dec_ok := mxaDec_ok, kE := [8], oE := mxaO, vE := mxaV, hE := mxaG, nE := mxaM, decE := mxaDecE, decE_ok := mxaDecE_ok, step := mxaStep,
    hstep := fun x => match x with
      | .a n t m d mt T off v i => nx_36_mxa_a n t m d mt T off v i
  }
theorem hs_36_mxa : HSnd Tryz.prog Tryz.f36.ntmps (.block 0 (.loop LC_36_mxa)) (llH 3 [0, 1, 8, 9] mxaDec 0 mxaCps) :=
  LL.handler_snd LL_36_mxa (C_26_snd) (drawA_sound (C_26_snd)) (laws_nil) 0 (cps := mxaCps) mxaCps_ok

/- (*ravelin/ravelinref11.Ram).Load -/
noncomputable def F36 : Cfg := { F := 400, roots := [0, 1, 2, 3, 4, 5, 6, 7, 8, 9], fl := ⟨false, false⟩, laws := [(0, llH 3 [0, 1, 8, 9] mxaDec 0 mxaCps)] }
theorem fok_36 : FOK Tryz.prog Tryz.f36 F36 := fok_of (laws_cons (subs_one (b := .block 0 (.loop LC_36_mxa)) (by kernel_rfl) hs_36_mxa) (laws_nil))
noncomputable def C_36 : Oracle := inlS Tryz.prog 36 Tryz.f36 F36 C_26 (C_26)
theorem C_36_snd : Snd Tryz.prog C_36 := inlS_snd Tryz.func36 (by kernel_rfl) C_26_snd C_26_snd (hF := fok_36)

/- an entry: the document: a load -/
noncomputable def FE_36_mxl : Cfg := { F := 400, roots := [0, 1, 2, 3, 4, 5, 6, 7, 8, 9, 10, 11], fl := ⟨false, false⟩, laws := [(0, llH 3 [0, 1, 8, 9] mxaDec 0 mxaCps)] }
noncomputable def C_36_mxl : Oracle := elC 36 mxlDec mxlCps mxlU (C_36)
theorem nx_36_mxl_a : ∀ (n : Nat) (t : Nat) (m : Nat) (d : List (List AV)) (mt : Nat) (T : List (List AV)) (off : BitVec 64) (size : BitVec 64), inlineA Tryz.prog (C_26) (drawA Tryz.prog) FE_36_mxl Tryz.f36 (mxlA (.a n t m d mt T off size)) (mxlH (.a n t m d mt T off size)) (mxlH (.a n t m d mt T off size)).length mxlDecR = mxlStep (.a n t m d mt T off size) := fun _ _ _ _ _ _ _ _ => by kernel_rfl
noncomputable def EL_36_mxl : EL Tryz.prog (C_26) FE_36_mxl Tryz.f36 MxlS MxlR :=
  { eA := mxlA, eH := mxlH, dec := mxlDec, dec_ok := mxlDec_ok, enc := mxlU, decR := mxlDecR, decR_ok := mxlDecR_ok, step := mxlStep, hstep := fun x => match x with
      | .a n t m d mt T off size => nx_36_mxl_a n t m d mt T off size
  }
theorem foke_36_mxl : FOK Tryz.prog Tryz.f36 FE_36_mxl := fok_of (laws_cons (subs_one (b := .block 0 (.loop LC_36_mxa)) (by kernel_rfl) hs_36_mxa) (laws_nil))
theorem C_36_mxl_snd : Snd Tryz.prog C_36_mxl := elC_snd EL_36_mxl (C_26_snd) Tryz.func36 (by kernel_rfl) (cps := mxlCps) mxlCps_ok (C_36_snd) (hF := foke_36_mxl)

/- (*ravelin/ravelinref12.Plic).bits -/
def F77 : Cfg := { F := 400, roots := [0, 1, 2, 3, 4], fl := ⟨false, false⟩ }
noncomputable def C_77 : Oracle := inlS Tryz.prog 77 Tryz.f77 F77 C_36_mxl (C_36_mxl)
theorem C_77_snd : Snd Tryz.prog C_77 := inlS_snd Tryz.func77 (by kernel_rfl) C_36_mxl_snd C_36_mxl_snd

/- (*ravelin/ravelinref12.Plic).best -/
def F80 : Cfg := { F := 400, roots := [0, 1, 2, 3, 4, 5], fl := ⟨false, false⟩ }
noncomputable def C_80 : Oracle := inlS Tryz.prog 80 Tryz.f80 F80 C_77 (C_77)
theorem C_80_snd : Snd Tryz.prog C_80 := inlS_snd Tryz.func80 (by kernel_rfl) C_77_snd C_77_snd

/- (*ravelin/ravelinref12.Plic).claim -/
def F78 : Cfg := { F := 400, roots := [0, 1, 2, 3], fl := ⟨false, false⟩ }
noncomputable def C_78 : Oracle := inlS Tryz.prog 78 Tryz.f78 F78 C_80 (C_80)
theorem C_78_snd : Snd Tryz.prog C_78 := inlS_snd Tryz.func78 (by kernel_rfl) C_80_snd C_80_snd

/- (*ravelin/ravelinref15.Bus).Load -/
def F27 : Cfg := { F := 400, roots := [0, 1, 2, 3, 4, 5, 6], fl := ⟨false, false⟩ }
noncomputable def C_27 : Oracle := inlS Tryz.prog 27 Tryz.f27 F27 C_78 (C_78)
theorem C_27_snd : Snd Tryz.prog C_27 := inlS_snd Tryz.func27 (by kernel_rfl) C_78_snd C_78_snd

/- ravelin/ravelinref21.tell -/
def F28 : Cfg := { F := 400, roots := [0, 1, 2, 3], fl := ⟨false, false⟩ }
noncomputable def C_28 : Oracle := inlS Tryz.prog 28 Tryz.f28 F28 C_27 (C_27)
theorem C_28_snd : Snd Tryz.prog C_28 := inlS_snd Tryz.func28 (by kernel_rfl) C_27_snd C_27_snd

/- ravelin/ravelinref20.bit -/
def F66 : Cfg := { F := 400, roots := [0, 1, 2], fl := ⟨true, false⟩ }
theorem run_66 : ∀ (v : BitVec 64) (n : BitVec 64), pureRun Tryz.prog C_28 F66 Tryz.f66 [.int .u64 v, .int .i64 n] = some (.bool (v_r20_bit v n)) := fun v n =>
 (show pureRun Tryz.prog C_28 F66 Tryz.f66 [.int .u64 v, .int .i64 n] = (some (AV.bool (v >>> min (BitVec.signExtend 64 n).toNat 64 % 2#64 == 1#64))) by kernel_rfl).trans (rfl)
noncomputable def C_66 : Oracle := pureE 66 (pure2 dU64 dI64 (fun v n => .bool (v_r20_bit v n))) (C_28)
theorem C_66_snd : Snd Tryz.prog C_66 := pureE_snd (pure2_ok (F := F66) (C_28_snd) Tryz.func66 (by kernel_rfl) run_66 (fun _ _ => rfl)) (C_28_snd)

/- ravelin/ravelinref20.Leaf -/
def F30 : Cfg := { F := 400, roots := [0, 1], fl := ⟨true, false⟩ }
theorem run_30 : ∀ (p : BitVec 64), pureRun Tryz.prog C_66 F30 Tryz.f30 [.int .u64 p] = some (.bool (v_r20_Leaf p)) := fun p =>
 (show pureRun Tryz.prog C_66 F30 Tryz.f30 [.int .u64 p] = (cond (v_r20_bit p 1#64)
 (some (AV.bool (true)))
 (some (AV.bool (v_r20_bit p 3#64)))) by kernel_rfl).trans (by
    delta v_r20_Leaf
    refine (mer _ (fun p => .bool p) ?_ ?_)
    all_goals first | with_reducible rfl | rfl)
noncomputable def C_30 : Oracle := pureE 30 (pure1 dU64 (fun p => .bool (v_r20_Leaf p))) (C_66)
theorem C_30_snd : Snd Tryz.prog C_30 := pureE_snd (pure1_ok (F := F30) (C_66_snd) Tryz.func30 (by kernel_rfl) run_30 (fun _ => rfl)) (C_66_snd)

/- ravelin/ravelinref20.Page -/
def F67 : Cfg := { F := 400, roots := [0, 1], fl := ⟨true, false⟩ }
theorem run_67 : ∀ (p : BitVec 64), pureRun Tryz.prog C_30 F67 Tryz.f67 [.int .u64 p] = some (.int .u64 (v_r20_Page p)) := fun p =>
 (show pureRun Tryz.prog C_30 F67 Tryz.f67 [.int .u64 p] = (some (AV.int (IntKind.u64) (p / 1024#64 % 17592186044416#64))) by kernel_rfl).trans (rfl)
noncomputable def C_67 : Oracle := pureE 67 (pure1 dU64 (fun p => .int .u64 (v_r20_Page p))) (C_30)
theorem C_67_snd : Snd Tryz.prog C_67 := pureE_snd (pure1_ok (F := F67) (C_30_snd) Tryz.func67 (by kernel_rfl) run_67 (fun _ => rfl)) (C_30_snd)

/- ravelin/ravelinref20.size -/
def F68 : Cfg := { F := 400, roots := [0, 1, 2, 3], fl := ⟨false, false⟩ }
noncomputable def C_68 : Oracle := quiS Tryz.prog 68 Tryz.f68 F68 C_67 (C_67)
theorem C_68_snd : Snd Tryz.prog C_68 := quiS_snd Tryz.func68 (by kernel_rfl) C_67_snd C_67_snd

/- ravelin/ravelinref20.Right -/
def F29 : Cfg := { F := 400, roots := [0, 1, 2], fl := ⟨false, false⟩ }
noncomputable def C_29 : Oracle := quiS Tryz.prog 29 Tryz.f29 F29 C_68 (C_68)
theorem C_29_snd : Snd Tryz.prog C_29 := quiS_snd Tryz.func29 (by kernel_rfl) C_68_snd C_68_snd

/- an entry: the document: is an entry right? (2) -/
def FE_29_mr2 : Cfg := { F := 400, roots := [0, 1, 2, 3, 4, 5, 6, 7, 8, 9, 10, 11], fl := ⟨false, false⟩, laws := [] }
noncomputable def C_29_mr2 : Oracle := elC 29 mr2Dec mr2Cps mr2U (C_29)
theorem nx_29_mr2_a : ∀ (p : BitVec 64), inlineA Tryz.prog (C_68) (drawA Tryz.prog) FE_29_mr2 Tryz.f29 (mr2A (.a p)) (mr2H (.a p)) (mr2H (.a p)).length mr2DecR = mr2Step (.a p) := fun _ => by kernel_rfl
noncomputable def EL_29_mr2 : EL Tryz.prog (C_68) FE_29_mr2 Tryz.f29 Mr2S Mr2R :=
  { eA := mr2A, eH := mr2H, dec := mr2Dec, dec_ok := mr2Dec_ok, enc := mr2U, decR := mr2DecR, decR_ok := mr2DecR_ok, step := mr2Step, hstep := fun x => match x with
      | .a p => nx_29_mr2_a p
  }
theorem C_29_mr2_snd : Snd Tryz.prog C_29_mr2 := elC_snd EL_29_mr2 (C_68_snd) Tryz.func29 (by kernel_rfl) (cps := mr2Cps) mr2Cps_ok (C_29_snd)

/- an entry: the document: is an entry right? (1) -/
def FE_29_mr1 : Cfg := { F := 400, roots := [0, 1, 2, 3, 4, 5, 6, 7, 8, 9, 10, 11], fl := ⟨false, false⟩, laws := [] }
noncomputable def C_29_mr1 : Oracle := elC 29 mr1Dec mr1Cps mr1U (C_29_mr2)
theorem nx_29_mr1_a : ∀ (p : BitVec 64), inlineA Tryz.prog (C_68) (drawA Tryz.prog) FE_29_mr1 Tryz.f29 (mr1A (.a p)) (mr1H (.a p)) (mr1H (.a p)).length mr1DecR = mr1Step (.a p) := fun _ => by kernel_rfl
noncomputable def EL_29_mr1 : EL Tryz.prog (C_68) FE_29_mr1 Tryz.f29 Mr1S Mr1R :=
  { eA := mr1A, eH := mr1H, dec := mr1Dec, dec_ok := mr1Dec_ok, enc := mr1U, decR := mr1DecR, decR_ok := mr1DecR_ok, step := mr1Step, hstep := fun x => match x with
      | .a p => nx_29_mr1_a p
  }
theorem C_29_mr1_snd : Snd Tryz.prog C_29_mr1 := elC_snd EL_29_mr1 (C_68_snd) Tryz.func29 (by kernel_rfl) (cps := mr1Cps) mr1Cps_ok (C_29_mr2_snd)

/- an entry: the document: is an entry right? (0) -/
def FE_29_mr0 : Cfg := { F := 400, roots := [0, 1, 2, 3, 4, 5, 6, 7, 8, 9, 10, 11], fl := ⟨false, false⟩, laws := [] }
noncomputable def C_29_mr0 : Oracle := elC 29 mr0Dec mr0Cps mr0U (C_29_mr1)
theorem nx_29_mr0_a : ∀ (p : BitVec 64), inlineA Tryz.prog (C_68) (drawA Tryz.prog) FE_29_mr0 Tryz.f29 (mr0A (.a p)) (mr0H (.a p)) (mr0H (.a p)).length mr0DecR = mr0Step (.a p) := fun _ => by kernel_rfl
noncomputable def EL_29_mr0 : EL Tryz.prog (C_68) FE_29_mr0 Tryz.f29 Mr0S Mr0R :=
  { eA := mr0A, eH := mr0H, dec := mr0Dec, dec_ok := mr0Dec_ok, enc := mr0U, decR := mr0DecR, decR_ok := mr0DecR_ok, step := mr0Step, hstep := fun x => match x with
      | .a p => nx_29_mr0_a p
  }
theorem C_29_mr0_snd : Snd Tryz.prog C_29_mr0 := elC_snd EL_29_mr0 (C_68_snd) Tryz.func29 (by kernel_rfl) (cps := mr0Cps) mr0Cps_ok (C_29_mr1_snd)

/- ravelin/ravelinref20.May -/
def F31 : Cfg := { F := 400, roots := [0, 1, 2, 3, 4], fl := ⟨true, false⟩ }
theorem run_31 : ∀ (p : BitVec 64) (kind : BitVec 64) (priv : BitVec 64) (mstatus : BitVec 64), pureRun Tryz.prog C_29_mr0 F31 Tryz.f31 [.int .u64 p, .int .i64 kind, .int .i64 priv, .int .u64 mstatus] = some (.bool (v_r20_May p kind priv mstatus)) := fun p kind priv mstatus =>
 (show pureRun Tryz.prog C_29_mr0 F31 Tryz.f31 [.int .u64 p, .int .i64 kind, .int .i64 priv, .int .u64 mstatus] = (cond (priv == 0#64)
 (cond (!v_r20_bit p 4#64)
 (some (AV.bool (false)))
 (cond (!priv == 0#64)
 (cond (v_r20_bit p 4#64)
 (cond (kind == 1#64)
 (some (AV.bool (false)))
 (cond (!v_r20_bit mstatus 18#64)
 (some (AV.bool (false)))
 (cond (kind == 1#64)
 (some (AV.bool (v_r20_bit p 3#64)))
 (cond (kind == 2#64)
 (cond (v_r20_bit p 1#64)
 (some (AV.bool (true)))
 (cond (v_r20_bit mstatus 19#64)
 (some (AV.bool (v_r20_bit p 3#64)))
 (some (AV.bool (false)))))
 (cond (kind == 3#64)
 (some (AV.bool (v_r20_bit p 2#64)))
 (some (AV.bool (false))))))))
 (cond (kind == 1#64)
 (some (AV.bool (v_r20_bit p 3#64)))
 (cond (kind == 2#64)
 (cond (v_r20_bit p 1#64)
 (some (AV.bool (true)))
 (cond (v_r20_bit mstatus 19#64)
 (some (AV.bool (v_r20_bit p 3#64)))
 (some (AV.bool (false)))))
 (cond (kind == 3#64)
 (some (AV.bool (v_r20_bit p 2#64)))
 (some (AV.bool (false)))))))
 (cond (kind == 1#64)
 (some (AV.bool (v_r20_bit p 3#64)))
 (cond (kind == 2#64)
 (cond (v_r20_bit p 1#64)
 (some (AV.bool (true)))
 (cond (v_r20_bit mstatus 19#64)
 (some (AV.bool (v_r20_bit p 3#64)))
 (some (AV.bool (false)))))
 (cond (kind == 3#64)
 (some (AV.bool (v_r20_bit p 2#64)))
 (some (AV.bool (false))))))))
 (cond (!priv == 0#64)
 (cond (v_r20_bit p 4#64)
 (cond (kind == 1#64)
 (some (AV.bool (false)))
 (cond (!v_r20_bit mstatus 18#64)
 (some (AV.bool (false)))
 (cond (kind == 1#64)
 (some (AV.bool (v_r20_bit p 3#64)))
 (cond (kind == 2#64)
 (cond (v_r20_bit p 1#64)
 (some (AV.bool (true)))
 (cond (v_r20_bit mstatus 19#64)
 (some (AV.bool (v_r20_bit p 3#64)))
 (some (AV.bool (false)))))
 (cond (kind == 3#64)
 (some (AV.bool (v_r20_bit p 2#64)))
 (some (AV.bool (false))))))))
 (cond (kind == 1#64)
 (some (AV.bool (v_r20_bit p 3#64)))
 (cond (kind == 2#64)
 (cond (v_r20_bit p 1#64)
 (some (AV.bool (true)))
 (cond (v_r20_bit mstatus 19#64)
 (some (AV.bool (v_r20_bit p 3#64)))
 (some (AV.bool (false)))))
 (cond (kind == 3#64)
 (some (AV.bool (v_r20_bit p 2#64)))
 (some (AV.bool (false)))))))
 (cond (kind == 1#64)
 (some (AV.bool (v_r20_bit p 3#64)))
 (cond (kind == 2#64)
 (cond (v_r20_bit p 1#64)
 (some (AV.bool (true)))
 (cond (v_r20_bit mstatus 19#64)
 (some (AV.bool (v_r20_bit p 3#64)))
 (some (AV.bool (false)))))
 (cond (kind == 3#64)
 (some (AV.bool (v_r20_bit p 2#64)))
 (some (AV.bool (false)))))))) by kernel_rfl).trans (by
    delta v_r20_May
    refine (mer _ (fun p => .bool p) (mer _ (fun p => .bool p) ?_ (mer _ (fun p => .bool p) (mer _ (fun p => .bool p) (mer _ (fun p => .bool p) ?_ (mer _ (fun p => .bool p) ?_ (mer _ (fun p => .bool p) ?_ (mer _ (fun p => .bool p) (mer _ (fun p => .bool p) ?_ (mer _ (fun p => .bool p) ?_ ?_)) (mer _ (fun p => .bool p) ?_ ?_))))) (mer _ (fun p => .bool p) ?_ (mer _ (fun p => .bool p) (mer _ (fun p => .bool p) ?_ (mer _ (fun p => .bool p) ?_ ?_)) (mer _ (fun p => .bool p) ?_ ?_)))) (mer _ (fun p => .bool p) ?_ (mer _ (fun p => .bool p) (mer _ (fun p => .bool p) ?_ (mer _ (fun p => .bool p) ?_ ?_)) (mer _ (fun p => .bool p) ?_ ?_))))) (mer _ (fun p => .bool p) (mer _ (fun p => .bool p) (mer _ (fun p => .bool p) ?_ (mer _ (fun p => .bool p) ?_ (mer _ (fun p => .bool p) ?_ (mer _ (fun p => .bool p) (mer _ (fun p => .bool p) ?_ (mer _ (fun p => .bool p) ?_ ?_)) (mer _ (fun p => .bool p) ?_ ?_))))) (mer _ (fun p => .bool p) ?_ (mer _ (fun p => .bool p) (mer _ (fun p => .bool p) ?_ (mer _ (fun p => .bool p) ?_ ?_)) (mer _ (fun p => .bool p) ?_ ?_)))) (mer _ (fun p => .bool p) ?_ (mer _ (fun p => .bool p) (mer _ (fun p => .bool p) ?_ (mer _ (fun p => .bool p) ?_ ?_)) (mer _ (fun p => .bool p) ?_ ?_)))))
    all_goals first | with_reducible rfl | rfl)
noncomputable def C_31 : Oracle := pureE 31 (pure4 dU64 dI64 dI64 dU64 (fun p kind priv mstatus => .bool (v_r20_May p kind priv mstatus))) (C_29_mr0)
theorem C_31_snd : Snd Tryz.prog C_31 := pureE_snd (pure4_ok (F := F31) (C_29_mr0_snd) Tryz.func31 (by kernel_rfl) run_31 (fun _ _ _ _ => rfl)) (C_29_mr0_snd)

/- ravelin/ravelinref20.Mark -/
def F32 : Cfg := { F := 400, roots := [0, 1, 2], fl := ⟨true, false⟩ }
theorem run_32 : ∀ (p : BitVec 64) (kind : BitVec 64), pureRun Tryz.prog C_31 F32 Tryz.f32 [.int .u64 p, .int .i64 kind] = some (.int .u64 (v_r20_Mark p kind)) := fun p kind =>
 (show pureRun Tryz.prog C_31 F32 Tryz.f32 [.int .u64 p, .int .i64 kind] = (cond (!v_r20_bit p 6#64)
 (cond (kind == 3#64)
 (cond (!v_r20_bit (p + 64#64) 7#64)
 (some (AV.int (IntKind.u64) (p + 64#64 + 128#64)))
 (some (AV.int (IntKind.u64) (p + 64#64))))
 (some (AV.int (IntKind.u64) (p + 64#64))))
 (cond (kind == 3#64)
 (cond (!v_r20_bit p 7#64)
 (some (AV.int (IntKind.u64) (p + 128#64)))
 (some (AV.int (IntKind.u64) (p))))
 (some (AV.int (IntKind.u64) (p))))) by kernel_rfl).trans (by
    delta v_r20_Mark
    refine (mer _ (fun p => .int .u64 p) (mer _ (fun p => .int .u64 p) (mer _ (fun p => .int .u64 p) ?_ ?_) ?_) (mer _ (fun p => .int .u64 p) (mer _ (fun p => .int .u64 p) ?_ ?_) ?_))
    all_goals first | with_reducible rfl | rfl)
noncomputable def C_32 : Oracle := pureE 32 (pure2 dU64 dI64 (fun p kind => .int .u64 (v_r20_Mark p kind))) (C_31)
theorem C_32_snd : Snd Tryz.prog C_32 := pureE_snd (pure2_ok (F := F32) (C_31_snd) Tryz.func32 (by kernel_rfl) run_32 (fun _ _ => rfl)) (C_31_snd)

/- ravelin/ravelinref21.Walk -/
def F8 : Cfg := { F := 400, roots := [0, 1, 2, 3, 4, 5, 6, 7, 8, 9, 10, 11, 12, 13, 14, 15, 16], fl := ⟨false, false⟩ }
noncomputable def C_8 : Oracle := inlS Tryz.prog 8 Tryz.f8 F8 C_32 (C_32)
theorem C_8_snd : Snd Tryz.prog C_8 := inlS_snd Tryz.func8 (by kernel_rfl) C_32_snd C_32_snd

/- an entry: the document: a walk -/
def FE_8_mwx : Cfg := { F := 400, roots := [0, 1, 2, 3, 4, 5, 6, 7, 8, 9, 10, 11, 12, 13, 14, 15, 16, 17, 18, 19, 20, 21, 22, 23, 24, 25, 26, 27, 28, 29], fl := ⟨false, false⟩, laws := [] }
noncomputable def C_8_mwx : Oracle := elC 8 mwxDec mwxCps mwxU (C_8)
theorem nx_8_mwx_a : ∀ (nx : Nat) (t : Nat) (mx : Nat) (dx : List (List AV)) (mt : Nat) (T : List (List AV)) (a0 : BitVec 64) (a1 : BitVec 64) (a2 : Bool) (xl : List (List AV)) (xt : List (List AV)) (xe : Bool) (xo : BitVec 64) (xw : Bool) (satp : BitVec 64) (va : BitVec 64) (kind : BitVec 64) (priv : BitVec 64) (mst : BitVec 64), inlineA Tryz.prog (C_32) (drawA Tryz.prog) FE_8_mwx Tryz.f8 (mwxA (.a nx t mx dx mt T a0 a1 a2 xl xt xe xo xw satp va kind priv mst)) (mwxH (.a nx t mx dx mt T a0 a1 a2 xl xt xe xo xw satp va kind priv mst)) (mwxH (.a nx t mx dx mt T a0 a1 a2 xl xt xe xo xw satp va kind priv mst)).length mwxDecR = mwxStep (.a nx t mx dx mt T a0 a1 a2 xl xt xe xo xw satp va kind priv mst) := fun _ _ _ _ _ _ _ _ _ _ _ _ _ _ _ _ _ _ _ => by kernel_rfl
noncomputable def EL_8_mwx : EL Tryz.prog (C_32) FE_8_mwx Tryz.f8 MwxS MwxR :=
  { eA := mwxA, eH := mwxH, dec := mwxDec, dec_ok := mwxDec_ok, enc := mwxU, decR := mwxDecR, decR_ok := mwxDecR_ok, step := mwxStep, hstep := fun x => match x with
      | .a nx t mx dx mt T a0 a1 a2 xl xt xe xo xw satp va kind priv mst => nx_8_mwx_a nx t mx dx mt T a0 a1 a2 xl xt xe xo xw satp va kind priv mst
  }
theorem C_8_mwx_snd : Snd Tryz.prog C_8_mwx := elC_snd EL_8_mwx (C_32_snd) Tryz.func8 (by kernel_rfl) (cps := mwxCps) (Eq.mp (show ECok mwxStep mwxCps = ECok EL_8_mwx.step mwxCps by kernel_rfl) mwxCps_ok) (C_8_snd)

/- a loop of ravelin/ravelinkit.SameAccesses -/
noncomputable def FL_9_mqa : Cfg := { F := 400, roots := [0, 1, 5], fl := ⟨false, false⟩, laws := [] }
noncomputable def LC_9_mqa : Code := loopIn 0 Tryz.f9
theorem nx_9_mqa_a : ∀ (ra : Bool) (ma : Nat) (da : List (List AV)) (rb : Bool) (mb : Nat) (db : List (List AV)) (na : Nat) (nb : Nat) (i : BitVec 64), codeA Tryz.prog (C_8_mwx) (drawA Tryz.prog FL_9_mqa.fl Tryz.f9.ntmps (C_8_mwx)) FL_9_mqa Tryz.f9.ntmps LC_9_mqa (tmOf [0, 1, 5] (mqaT (.a ra ma da rb mb db na nb i))) (mqaH (.a ra ma da rb mb db na nb i)) (mqaN (.a ra ma da rb mb db na nb i)) (roundK 2 [0, 1, 5] [0, 1, 5] [4] mqaDec mqaDecE) = mqaStep (.a ra ma da rb mb db na nb i) := fun _ _ _ _ _ _ _ _ _ => by kernel_rfl
noncomputable def LL_9_mqa : LL Tryz.prog (C_8_mwx) Tryz.f9.ntmps (drawA Tryz.prog FL_9_mqa.fl Tryz.f9.ntmps (C_8_mwx)) FL_9_mqa LC_9_mqa MqaS MqaE :=
  { N0 := 2, rts := [0, 1, 5], kT := [0, 1, 5], vT := mqaT, hT := mqaH, nT := mqaN, dec := mqaDec, dec_ok := mqaDec_ok, kE := [4], oE := mqaO, vE := mqaV, hE := mqaG, nE := mqaM, decE := mqaDecE, decE_ok := mqaDecE_ok, step := mqaStep,
    hstep := fun x => match x with
      | .a ra ma da rb mb db na nb i => nx_9_mqa_a ra ma da rb mb db na nb i
  }
theorem hs_9_mqa : HSnd Tryz.prog Tryz.f9.ntmps (.block 0 (.loop LC_9_mqa)) (orH 2 (llH 2 [0, 1, 5] mqaDec 0 mqaCps) (selfH Tryz.prog (C_8_mwx) (drawA Tryz.prog FL_9_mqa.fl Tryz.f9.ntmps (C_8_mwx)) FL_9_mqa Tryz.f9.ntmps (.block 0 (.loop LC_9_mqa)))) :=
  orH_snd (LL.handler_snd LL_9_mqa (C_8_mwx_snd) (drawA_sound (C_8_mwx_snd)) (laws_nil) 0 (cps := mqaCps) mqaCps_ok) (selfH_snd (C_8_mwx_snd) (drawA_sound (C_8_mwx_snd)) (laws_nil))

/- ravelin/ravelinkit.SameAccesses -/
noncomputable def F9 : Cfg := { F := 400, roots := [0, 1, 2, 3, 4, 5], fl := ⟨false, false⟩, laws := [(0, orH 2 (llH 2 [0, 1, 5] mqaDec 0 mqaCps) (selfH Tryz.prog (C_8_mwx) (drawA Tryz.prog FL_9_mqa.fl Tryz.f9.ntmps (C_8_mwx)) FL_9_mqa Tryz.f9.ntmps (.block 0 (.loop LC_9_mqa))))] }
theorem fok_9 : FOK Tryz.prog Tryz.f9 F9 := fok_of (laws_cons (subs_one (b := .block 0 (.loop LC_9_mqa)) (by kernel_rfl) hs_9_mqa) (laws_nil))
noncomputable def C_9 : Oracle := inlS Tryz.prog 9 Tryz.f9 F9 C_8_mwx (C_8_mwx)
theorem C_9_snd : Snd Tryz.prog C_9 := inlS_snd Tryz.func9 (by kernel_rfl) C_8_mwx_snd C_8_mwx_snd (hF := fok_9)

/- ravelin/ravelinkit.markAccesses -/
def F33 : Cfg := { F := 400, roots := [0, 1], fl := ⟨false, false⟩ }
noncomputable def C_33 : Oracle := inlS Tryz.prog 33 Tryz.f33 F33 C_9 (C_9)
theorem C_33_snd : Snd Tryz.prog C_33 := inlS_snd Tryz.func33 (by kernel_rfl) C_9_snd C_9_snd

/- a loop of ravelin/ravelinkit.SpoilAccesses -/
noncomputable def FL_10_mqs : Cfg := { F := 400, roots := [0, 2], fl := ⟨false, false⟩, laws := [] }
noncomputable def LC_10_mqs : Code := loopIn 0 Tryz.f10
theorem nx_10_mqs_a : ∀ (ma : Nat) (da : List (List AV)) (na : Nat) (i : BitVec 64), codeA Tryz.prog (C_33) (drawA Tryz.prog FL_10_mqs.fl Tryz.f10.ntmps (C_33)) FL_10_mqs Tryz.f10.ntmps LC_10_mqs (tmOf [0, 2] (mqsT (.a ma da na i))) (mqsH (.a ma da na i)) (mqsN (.a ma da na i)) (roundK 1 [0, 2] [0, 2] [] mqsDec mqsDecE) = mqsStep (.a ma da na i) := fun _ _ _ _ => by kernel_rfl
noncomputable def LL_10_mqs : LL Tryz.prog (C_33) Tryz.f10.ntmps (drawA Tryz.prog FL_10_mqs.fl Tryz.f10.ntmps (C_33)) FL_10_mqs LC_10_mqs MqsS MqsE :=
  { N0 := 1, rts := [0, 2], kT := [0, 2], vT := mqsT, hT := mqsH, nT := mqsN, dec := mqsDec, dec_ok := mqsDec_ok, kE := [], oE := mqsO, vE := mqsV, hE := mqsG, nE := mqsM, decE := mqsDecE, decE_ok := mqsDecE_ok, step := mqsStep,
    hstep := fun x => match x with
      | .a ma da na i => nx_10_mqs_a ma da na i
  }
theorem hs_10_mqs : HSnd Tryz.prog Tryz.f10.ntmps (.block 0 (.loop LC_10_mqs)) (orH 1 (llH 1 [0, 2] mqsDec 0 mqsCps) (selfH Tryz.prog (C_33) (drawA Tryz.prog FL_10_mqs.fl Tryz.f10.ntmps (C_33)) FL_10_mqs Tryz.f10.ntmps (.block 0 (.loop LC_10_mqs)))) :=
  orH_snd (LL.handler_snd LL_10_mqs (C_33_snd) (drawA_sound (C_33_snd)) (laws_nil) 0 (cps := mqsCps) mqsCps_ok) (selfH_snd (C_33_snd) (drawA_sound (C_33_snd)) (laws_nil))

/- ravelin/ravelinkit.SpoilAccesses -/
noncomputable def F10 : Cfg := { F := 400, roots := [0, 1, 2], fl := ⟨false, false⟩, laws := [(0, orH 1 (llH 1 [0, 2] mqsDec 0 mqsCps) (selfH Tryz.prog (C_33) (drawA Tryz.prog FL_10_mqs.fl Tryz.f10.ntmps (C_33)) FL_10_mqs Tryz.f10.ntmps (.block 0 (.loop LC_10_mqs))))] }
theorem fok_10 : FOK Tryz.prog Tryz.f10 F10 := fok_of (laws_cons (subs_one (b := .block 0 (.loop LC_10_mqs)) (by kernel_rfl) hs_10_mqs) (laws_nil))
noncomputable def C_10 : Oracle := inlS Tryz.prog 10 Tryz.f10 F10 C_33 (C_33)
theorem C_10_snd : Snd Tryz.prog C_10 := inlS_snd Tryz.func10 (by kernel_rfl) C_33_snd C_33_snd (hF := fok_10)

/- a loop of ravelin/ravelinlaw15.Bytes -/
noncomputable def FL_11_mwt : Cfg := { F := 400, roots := [0, 1, 5], fl := ⟨false, false⟩, laws := [] }
noncomputable def LC_11_mwt : Code := loopIn 0 Tryz.f11
theorem nx_11_mwt_a : ∀ (n : Nat) (tg : List (List AV)) (m : Nat) (d : List (List AV)) (nx : Nat) (t : Nat) (mx : Nat) (dx : List (List AV)) (mt : Nat) (T : List (List AV)) (i : BitVec 64), codeA Tryz.prog (C_10) (drawA Tryz.prog FL_11_mwt.fl Tryz.f11.ntmps (C_10)) FL_11_mwt Tryz.f11.ntmps LC_11_mwt (tmOf [0, 1, 5] (mwtT (.a n tg m d nx t mx dx mt T i))) (mwtH (.a n tg m d nx t mx dx mt T i)) (mwtN (.a n tg m d nx t mx dx mt T i)) (roundK 15 [0, 1, 5] [0, 1, 5] [2] mwtDec mwtDecE) = mwtStep (.a n tg m d nx t mx dx mt T i) := fun _ _ _ _ _ _ _ _ _ _ _ => by kernel_rfl
noncomputable def LL_11_mwt : LL Tryz.prog (C_10) Tryz.f11.ntmps (drawA Tryz.prog FL_11_mwt.fl Tryz.f11.ntmps (C_10)) FL_11_mwt LC_11_mwt MwtS MwtE :=
  { N0 := 15, rts := [0, 1, 5], kT := [0, 1, 5], vT := mwtT, hT := mwtH, nT := mwtN, dec := mwtDec, dec_ok := mwtDec_ok, kE := [2], oE := mwtO, vE := mwtV, hE := mwtG, nE := mwtM, decE := mwtDecE, decE_ok := mwtDecE_ok, step := mwtStep,
    hstep := fun x => match x with
      | .a n tg m d nx t mx dx mt T i => nx_11_mwt_a n tg m d nx t mx dx mt T i
  }
theorem hs_11_mwt : HSnd Tryz.prog Tryz.f11.ntmps (.block 0 (.loop LC_11_mwt)) (llH 15 [0, 1, 5] mwtDec 0 mwtCps) :=
  LL.handler_snd LL_11_mwt (C_10_snd) (drawA_sound (C_10_snd)) (laws_nil) 0 (cps := mwtCps) mwtCps_ok

/- ravelin/ravelinlaw15.Bytes -/
noncomputable def F11 : Cfg := { F := 400, roots := [0, 1, 2, 3, 4, 5, 6, 7, 8, 9], fl := ⟨false, false⟩, laws := [(0, llH 15 [0, 1, 5] mwtDec 0 mwtCps)] }
theorem fok_11 : FOK Tryz.prog Tryz.f11 F11 := fok_of (laws_cons (subs_one (b := .block 0 (.loop LC_11_mwt)) (by kernel_rfl) hs_11_mwt) (laws_nil))
noncomputable def C_11 : Oracle := inlS Tryz.prog 11 Tryz.f11 F11 C_10 (C_10)
theorem C_11_snd : Snd Tryz.prog C_11 := inlS_snd Tryz.func11 (by kernel_rfl) C_10_snd C_10_snd (hF := fok_11)

/- ravelin/ravelinlaw21.table -/
def F37 : Cfg := { F := 400, roots := [0], fl := ⟨false, false⟩ }
noncomputable def C_37 : Oracle := inlS Tryz.prog 37 Tryz.f37 F37 C_11 (C_11)
theorem C_37_snd : Snd Tryz.prog C_37 := inlS_snd Tryz.func37 (by kernel_rfl) C_11_snd C_11_snd

/- known -/
noncomputable def C_12 : Oracle := pureE 12 (pure0 (.bool true)) (C_37)
theorem C_12_snd : Snd Tryz.prog C_12 := pureE_snd (pure0_ok (F := K.F12) (K.snd_12) Tryz.func12 (by kernel_rfl) (K.run_12.trans rfl) rfl) (C_37_snd)

/- an entry: Lay -/
noncomputable def FE_4_mlz : Cfg := { F := 400, roots := [0, 1, 2, 3, 4, 5, 6, 7, 8, 9, 10, 11], fl := ⟨false, false⟩, laws := [(0, orH 8 (llH 8 [0, 4, 6] mlyDec 0 mlyCps) (selfH Tryz.prog (C_14) (drawA Tryz.prog FL_4_mly.fl Tryz.f4.ntmps (C_14)) FL_4_mly Tryz.f4.ntmps (.block 0 (.loop LC_4_mly))))] }
noncomputable def C_3_mlz : Oracle := elC 4 mlzDec mlzCps mlzU (C_12)
theorem nx_4_mlz_a : ∀ (rw : Bool) (na : Nat) (ma : Nat) (da : List (List AV)), inlineA Tryz.prog (C_12) (drawA Tryz.prog) FE_4_mlz Tryz.f4 (mlzA (.a rw na ma da)) (mlzH (.a rw na ma da)) (mlzH (.a rw na ma da)).length mlzDecR = mlzStep (.a rw na ma da) := fun _ _ _ _ => by kernel_rfl
theorem nx_4_mlz_n : inlineA Tryz.prog (C_12) (drawA Tryz.prog) FE_4_mlz Tryz.f4 (mlzA (.n )) (mlzH (.n )) (mlzH (.n )).length mlzDecR = mlzStep (.n ) := by kernel_rfl
noncomputable def EL_4_mlz : EL Tryz.prog (C_12) FE_4_mlz Tryz.f4 MlzS MlzR :=
  { eA := mlzA, eH := mlzH, dec := mlzDec, dec_ok := mlzDec_ok, enc := mlzU, decR := mlzDecR, decR_ok := mlzDecR_ok, step := mlzStep, hstep := fun x => match x with
      | .a rw na ma da => nx_4_mlz_a rw na ma da
      | .n => nx_4_mlz_n 
  }
theorem foke_3_mlz : FOK Tryz.prog Tryz.f4 FE_4_mlz := fok_of (laws_cons (subs_one (b := .block 0 (.loop LC_4_mly)) (by kernel_rfl) hs_4_mly) laws_nil)
theorem C_3_mlz_snd : Snd Tryz.prog C_3_mlz := elC_snd EL_4_mlz (C_12_snd) Tryz.func4 (by kernel_rfl) (cps := mlzCps) (Eq.mp (show ECok mlzStep mlzCps = ECok EL_4_mlz.step mlzCps by kernel_rfl) mlzCps_ok) (C_12_snd) (hF := foke_3_mlz)

/- an entry: Said -/
noncomputable def FE_5_msz : Cfg := { F := 400, roots := [0, 1, 2, 3, 4, 5, 6, 7, 8, 9, 10, 11], fl := ⟨false, false⟩, laws := [(0, orH 9 (llH 9 [0, 3, 5] msyDec 0 msyCps) (selfH Tryz.prog (C_17) (drawA Tryz.prog FL_5_msy.fl Tryz.f5.ntmps (C_17)) FL_5_msy Tryz.f5.ntmps (.block 0 (.loop LC_5_msy))))] }
noncomputable def C_3_msz : Oracle := elC 5 mszDec mszCps mszU (C_3_mlz)
theorem nx_5_msz_a : ∀ (rw : Bool) (na : Nat) (ma : Nat) (da : List (List AV)), inlineA Tryz.prog (C_12) (drawA Tryz.prog) FE_5_msz Tryz.f5 (mszA (.a rw na ma da)) (mszH (.a rw na ma da)) (mszH (.a rw na ma da)).length mszDecR = mszStep (.a rw na ma da) := fun _ _ _ _ => by kernel_rfl
theorem nx_5_msz_n : inlineA Tryz.prog (C_12) (drawA Tryz.prog) FE_5_msz Tryz.f5 (mszA (.n )) (mszH (.n )) (mszH (.n )).length mszDecR = mszStep (.n ) := by kernel_rfl
noncomputable def EL_5_msz : EL Tryz.prog (C_12) FE_5_msz Tryz.f5 MszS MszR :=
  { eA := mszA, eH := mszH, dec := mszDec, dec_ok := mszDec_ok, enc := mszU, decR := mszDecR, decR_ok := mszDecR_ok, step := mszStep, hstep := fun x => match x with
      | .a rw na ma da => nx_5_msz_a rw na ma da
      | .n => nx_5_msz_n 
  }
theorem foke_3_msz : FOK Tryz.prog Tryz.f5 FE_5_msz := fok_of (laws_cons (subs_one (b := .block 0 (.loop LC_5_msy)) (by kernel_rfl) hs_5_msy) laws_nil)
theorem C_3_msz_snd : Snd Tryz.prog C_3_msz := elC_snd EL_5_msz (C_12_snd) Tryz.func5 (by kernel_rfl) (cps := mszCps) (Eq.mp (show ECok mszStep mszCps = ECok EL_5_msz.step mszCps by kernel_rfl) mszCps_ok) (C_3_mlz_snd) (hF := foke_3_msz)

/- a loop of ravelin/ravelinlaw21.WalkWalks -/
noncomputable def FL_3_mww : Cfg := { F := 400, roots := [1, 5, 7, 8], fl := ⟨false, false⟩, laws := [] }
noncomputable def LC_3_mww : Code := loopIn 0 Tryz.f3
theorem nx_3_mww_a : ∀ (rw : Bool) (na : Nat) (ma : Nat) (da : List (List AV)) (n : Nat) (tg : List (List AV)) (m : Nat) (d : List (List AV)) (c0 : BitVec 64) (c1 : BitVec 64) (c2 : BitVec 64) (pr : List (List AV)) (p1 : BitVec 32) (p2 : BitVec 32) (en : List (List AV)) (th : List (List AV)) (q : List (List AV)) (u1 : BitVec 64) (u2 : BitVec 64) (u3 : Bool) (w : Bool) (nx : Nat) (t : Nat) (mx : Nat) (dx : List (List AV)) (mt : Nat) (T : List (List AV)) (a0 : BitVec 64) (a1 : BitVec 64) (a2 : Bool) (xl : List (List AV)) (xt : List (List AV)) (xe : Bool) (xo : BitVec 64) (xw : Bool) (i : BitVec 64), codeA Tryz.prog (C_3_msz) (drawA Tryz.prog FL_3_mww.fl Tryz.f3.ntmps (C_3_msz)) FL_3_mww Tryz.f3.ntmps LC_3_mww (tmOf [1, 5, 7, 8] (mwwT (.a rw na ma da n tg m d c0 c1 c2 pr p1 p2 en th q u1 u2 u3 w nx t mx dx mt T a0 a1 a2 xl xt xe xo xw i))) (mwwH (.a rw na ma da n tg m d c0 c1 c2 pr p1 p2 en th q u1 u2 u3 w nx t mx dx mt T a0 a1 a2 xl xt xe xo xw i)) (mwwN (.a rw na ma da n tg m d c0 c1 c2 pr p1 p2 en th q u1 u2 u3 w nx t mx dx mt T a0 a1 a2 xl xt xe xo xw i)) (roundK 17 [1, 5, 7, 8] [1, 5, 7, 8] [5, 7] mwwDec mwwDecE) = mwwStep (.a rw na ma da n tg m d c0 c1 c2 pr p1 p2 en th q u1 u2 u3 w nx t mx dx mt T a0 a1 a2 xl xt xe xo xw i) := fun _ _ _ _ _ _ _ _ _ _ _ _ _ _ _ _ _ _ _ _ _ _ _ _ _ _ _ _ _ _ _ _ _ _ _ _ => by kernel_rfl
theorem nx_3_mww_z : ∀ (n : Nat) (tg : List (List AV)) (m : Nat) (d : List (List AV)) (c0 : BitVec 64) (c1 : BitVec 64) (c2 : BitVec 64) (pr : List (List AV)) (p1 : BitVec 32) (p2 : BitVec 32) (en : List (List AV)) (th : List (List AV)) (q : List (List AV)) (u1 : BitVec 64) (u2 : BitVec 64) (u3 : Bool) (w : Bool) (nx : Nat) (t : Nat) (mx : Nat) (dx : List (List AV)) (mt : Nat) (T : List (List AV)) (a0 : BitVec 64) (a1 : BitVec 64) (a2 : Bool) (xl : List (List AV)) (xt : List (List AV)) (xe : Bool) (xo : BitVec 64) (xw : Bool) (i : BitVec 64), codeA Tryz.prog (C_3_msz) (drawA Tryz.prog FL_3_mww.fl Tryz.f3.ntmps (C_3_msz)) FL_3_mww Tryz.f3.ntmps LC_3_mww (tmOf [1, 5, 7, 8] (mwwT (.z n tg m d c0 c1 c2 pr p1 p2 en th q u1 u2 u3 w nx t mx dx mt T a0 a1 a2 xl xt xe xo xw i))) (mwwH (.z n tg m d c0 c1 c2 pr p1 p2 en th q u1 u2 u3 w nx t mx dx mt T a0 a1 a2 xl xt xe xo xw i)) (mwwN (.z n tg m d c0 c1 c2 pr p1 p2 en th q u1 u2 u3 w nx t mx dx mt T a0 a1 a2 xl xt xe xo xw i)) (roundK 17 [1, 5, 7, 8] [1, 5, 7, 8] [5, 7] mwwDec mwwDecE) = mwwStep (.z n tg m d c0 c1 c2 pr p1 p2 en th q u1 u2 u3 w nx t mx dx mt T a0 a1 a2 xl xt xe xo xw i) := fun _ _ _ _ _ _ _ _ _ _ _ _ _ _ _ _ _ _ _ _ _ _ _ _ _ _ _ _ _ _ _ _ => by kernel_rfl
noncomputable def LL_3_mww : LL Tryz.prog (C_3_msz) Tryz.f3.ntmps (drawA Tryz.prog FL_3_mww.fl Tryz.f3.ntmps (C_3_msz)) FL_3_mww LC_3_mww MwwS MwwE :=
  { N0 := 17, rts := [1, 5, 7, 8], kT := [1, 5, 7, 8], vT := mwwT, hT := mwwH, nT := mwwN, dec := mwwDec, dec_ok := mwwDec_ok, kE := [5, 7], oE := mwwO, vE := mwwV, hE := mwwG, nE := mwwM, decE := mwwDecE, decE_ok := mwwDecE_ok, step := mwwStep,
    hstep := fun x => match x with
      | .a rw na ma da n tg m d c0 c1 c2 pr p1 p2 en th q u1 u2 u3 w nx t mx dx mt T a0 a1 a2 xl xt xe xo xw i => nx_3_mww_a rw na ma da n tg m d c0 c1 c2 pr p1 p2 en th q u1 u2 u3 w nx t mx dx mt T a0 a1 a2 xl xt xe xo xw i
      | .z n tg m d c0 c1 c2 pr p1 p2 en th q u1 u2 u3 w nx t mx dx mt T a0 a1 a2 xl xt xe xo xw i => nx_3_mww_z n tg m d c0 c1 c2 pr p1 p2 en th q u1 u2 u3 w nx t mx dx mt T a0 a1 a2 xl xt xe xo xw i
  }
theorem hs_3_mww : HSnd Tryz.prog Tryz.f3.ntmps (.block 0 (.loop LC_3_mww)) (llH 17 [1, 5, 7, 8] mwwDec 0 mwwCps) :=
  LL.handler_snd LL_3_mww (C_3_msz_snd) (drawA_sound (C_3_msz_snd)) (laws_nil) 0 (cps := mwwCps) mwwCps_ok

/- ravelin/ravelinlaw21.WalkWalks -/
noncomputable def F3 : Cfg := { F := 400, roots := [0, 1, 2, 3, 4, 5, 6, 7, 8, 9, 10, 11, 12, 13, 14, 15], fl := ⟨false, false⟩, laws := [(0, llH 17 [1, 5, 7, 8] mwwDec 0 mwwCps)] }
theorem run_3_rr : ∀ (k : Nat) (ws : List (List AV)) (kk : Nat) (aq : List (List AV)), runS Tryz.prog (C_3_msz) F3 Tryz.f3 [.slice ⟨0, 0, 0, 2, 0⟩ 2 k, .slice ⟨1, 0, 0, 5, 0⟩ 5 kk] [(0, ⟨false, [.arr [.int .i64, .int .u64] k ws]⟩), (1, ⟨false, [.arr [.int .u64, .int .u64, .int .u64, .int .i64, .int .i64] kk aq]⟩)] 2 = t_WalkWalks_rr k ws kk aq := fun _ _ _ _ => by kernel_rfl
theorem run_3_rn : ∀ (k : Nat) (ws : List (List AV)), runS Tryz.prog (C_3_msz) F3 Tryz.f3 [.slice ⟨0, 0, 0, 2, 0⟩ 2 k, .nilslice] [(0, ⟨false, [.arr [.int .i64, .int .u64] k ws]⟩)] 2 = t_WalkWalks_rn k ws := fun _ _ => by kernel_rfl
theorem run_3_nr : ∀ (kk : Nat) (aq : List (List AV)), runS Tryz.prog (C_3_msz) F3 Tryz.f3 [.nilslice, .slice ⟨1, 0, 0, 5, 0⟩ 5 kk] [(1, ⟨false, [.arr [.int .u64, .int .u64, .int .u64, .int .i64, .int .i64] kk aq]⟩)] 2 = t_WalkWalks_nr kk aq := fun _ _ => by kernel_rfl
theorem run_3_nn : runS Tryz.prog (C_3_msz) F3 Tryz.f3 [.nilslice, .nilslice] [] 2 = t_WalkWalks_nn  :=  by kernel_rfl
theorem snd_3 : Snd Tryz.prog (C_3_msz) := C_3_msz_snd
theorem fok_3 : FOK Tryz.prog Tryz.f3 F3 := fok_of (laws_cons (subs_one (b := .block 0 (.loop LC_3_mww)) (by kernel_rfl) hs_3_mww) (laws_nil))

end Go.Proofs.YtkbcfbehebbmhaaGreat

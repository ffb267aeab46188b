import Derived.Test.YtkbcfbehebbmhaaGreatSxLen2
import Derived.Test.YtkbcfbehebbmhaaGreatSxAE
import Derived.Test.YtkbcfbehebbmhaaGreatSxEC
import Derived.Test.YtkbcfbehebbmhaaGreatSxX
import Derived.Test.YtkbcfbehebbmhaaGreatSxAt6
import Derived.Test.YtkbcfbehebbmhaaGreatVa03
import Derived.Test.YtkbcfbehebbmhaaGreatVa11
import Derived.Test.YtkbcfbehebbmhaaGreatPlRam3
import Derived.Test.YtkbcfbehebbmhaaGreatPlRam4
import Derived.Test.YtkbcfbehebbmhaaGreatPlRamU
import Derived.Test.YtkbcfbehebbmhaaGreatPlRamR
import Derived.Test.YtkbcfbehebbmhaaGreatVl15a
import Derived.Test.YtkbcfbehebbmhaaGreatPlBusO
import Derived.Test.YtkbcfbehebbmhaaGreatVa21
import Derived.Test.YtkbcfbehebbmhaaGreatPlBusB3
import Derived.Test.YtkbcfbehebbmhaaGreatVl21a
import Derived.Test.YtkbcfbehebbmhaaGreatPlWkB
import Derived.Test.YtkbcfbehebbmhaaGreatVa21w
import Derived.KernelRfl
import Derived.Test.YtkbcfbehebbmhaaGreatProg
set_option linter.unusedSimpArgs false
set_option linter.unusedVariables false
set_option linter.unnecessarySimpa false
/- What the functions of the seat answer. -/
namespace Go.Proofs.YtkbcfbehebbmhaaGreat.K
open Go Go.Sx Go.Proofs
set_option maxRecDepth 100000
set_option maxHeartbeats 4000000

/- ravelin/ram.New -/
def F38 : Cfg := { F := 400, roots := [0, 1, 2], fl := ⟨false, false⟩ }
noncomputable def C_38 : Oracle := inlS Tryz.prog 38 Tryz.f38 F38 nothing (nothing)
theorem C_38_snd : Snd Tryz.prog C_38 := inlS_snd Tryz.func38 (by kernel_rfl) nothing_snd nothing_snd

/- ravelin/clint.New -/
def F39 : Cfg := { F := 400, roots := [0], fl := ⟨false, false⟩ }
noncomputable def C_39 : Oracle := inlS Tryz.prog 39 Tryz.f39 F39 C_38 (C_38)
theorem C_39_snd : Snd Tryz.prog C_39 := inlS_snd Tryz.func39 (by kernel_rfl) C_38_snd C_38_snd

/- ravelin/plic.New -/
def F40 : Cfg := { F := 400, roots := [0], fl := ⟨false, false⟩ }
noncomputable def C_40 : Oracle := inlS Tryz.prog 40 Tryz.f40 F40 C_39 (C_39)
theorem C_40_snd : Snd Tryz.prog C_40 := inlS_snd Tryz.func40 (by kernel_rfl) C_39_snd C_39_snd

/- ravelin/serial.New -/
def F41 : Cfg := { F := 400, roots := [0], fl := ⟨false, false⟩ }
noncomputable def C_41 : Oracle := inlS Tryz.prog 41 Tryz.f41 F41 C_40 (C_40)
theorem C_41_snd : Snd Tryz.prog C_41 := inlS_snd Tryz.func41 (by kernel_rfl) C_40_snd C_40_snd

/- ravelin/serial.NewPower -/
def F42 : Cfg := { F := 400, roots := [0], fl := ⟨false, false⟩ }
noncomputable def C_42 : Oracle := inlS Tryz.prog 42 Tryz.f42 F42 C_41 (C_41)
theorem C_42_snd : Snd Tryz.prog C_42 := inlS_snd Tryz.func42 (by kernel_rfl) C_41_snd C_41_snd

/- ravelin/bus.New -/
def F13 : Cfg := { F := 400, roots := [0, 1, 2, 3, 4], fl := ⟨false, false⟩ }
noncomputable def C_13 : Oracle := inlS Tryz.prog 13 Tryz.f13 F13 C_42 (C_42)
theorem C_13_snd : Snd Tryz.prog C_13 := inlS_snd Tryz.func13 (by kernel_rfl) C_42_snd C_42_snd

/- ravelin/ravelinkit.Pick -/
def F15 : Cfg := { F := 400, roots := [0, 1, 2], fl := ⟨true, false⟩ }
theorem run_15 : ∀ (k : BitVec 64) (n : BitVec 64), pureRun Tryz.prog C_13 F15 Tryz.f15 [.int .i64 k, .int .i64 n] = some (.int .i64 (v_kit_Pick k n)) := fun k n =>
 (show pureRun Tryz.prog C_13 F15 Tryz.f15 [.int .i64 k, .int .i64 n] = t_kit_Pick k n by kernel_rfl).trans (t_kit_Pick_eq k n)
noncomputable def C_15 : Oracle := pureE 15 (pure2 dI64 dI64 (fun k n => .int .i64 (v_kit_Pick k n))) (C_13)
theorem C_15_snd : Snd Tryz.prog C_15 := pureE_snd (pure2_ok (F := F15) (C_13_snd) Tryz.func15 (by kernel_rfl) run_15 (fun _ _ => rfl)) (C_13_snd)

/- (*ravelin/ram.Ram).Len -/
def F76 : Cfg := { F := 400, roots := [0, 1], fl := ⟨false, false⟩ }
noncomputable def C_76 : Oracle := quiS Tryz.prog 76 Tryz.f76 F76 C_15 (C_15)
theorem C_76_snd : Snd Tryz.prog C_76 := quiS_snd Tryz.func76 (by kernel_rfl) C_15_snd C_15_snd

/- (*ravelin/bus.Bus).regions -/
def F56 : Cfg := { F := 400, roots := [0, 1], fl := ⟨false, false⟩ }
noncomputable def C_56 : Oracle := inlS Tryz.prog 56 Tryz.f56 F56 C_76 (C_76)
theorem C_56_snd : Snd Tryz.prog C_56 := inlS_snd Tryz.func56 (by kernel_rfl) C_76_snd C_76_snd

/- (ravelin/bus.region).off -/
def F57 : Cfg := { F := 400, roots := [0, 1, 2, 3, 4, 5], fl := ⟨false, false⟩ }
noncomputable def C_57 : Oracle := inlS Tryz.prog 57 Tryz.f57 F57 C_56 (C_56)
theorem C_57_snd : Snd Tryz.prog C_57 := inlS_snd Tryz.func57 (by kernel_rfl) C_56_snd C_56_snd

/- an entry: are bytes in a region? -/
def FE_57_mbo : Cfg := { F := 400, roots := [0, 1, 2, 3, 4, 5, 6, 7, 8, 9, 10, 11], fl := ⟨false, false⟩, laws := [] }
noncomputable def C_57_mbo : Oracle := elC 57 mboDec mboCps mboU (C_57)
theorem nx_57_mbo_r : ∀ (n : Nat) (tg : List (List AV)) (m : Nat) (d : List (List AV)) (t2 : Nat) (bg : BitVec 64) (sz : BitVec 64) (pa : BitVec 64) (size : BitVec 64), inlineA Tryz.prog (C_56) (drawA Tryz.prog) FE_57_mbo Tryz.f57 (mboA (.r n tg m d t2 bg sz pa size)) (mboH (.r n tg m d t2 bg sz pa size)) (mboH (.r n tg m d t2 bg sz pa size)).length mboDecR = mboStep (.r n tg m d t2 bg sz pa size) := fun _ _ _ _ _ _ _ _ _ => by kernel_rfl
theorem nx_57_mbo_c : ∀ (c0 : BitVec 64) (c1 : BitVec 64) (c2 : BitVec 64) (t2 : Nat) (bg : BitVec 64) (sz : BitVec 64) (pa : BitVec 64) (size : BitVec 64), inlineA Tryz.prog (C_56) (drawA Tryz.prog) FE_57_mbo Tryz.f57 (mboA (.c c0 c1 c2 t2 bg sz pa size)) (mboH (.c c0 c1 c2 t2 bg sz pa size)) (mboH (.c c0 c1 c2 t2 bg sz pa size)).length mboDecR = mboStep (.c c0 c1 c2 t2 bg sz pa size) := fun _ _ _ _ _ _ _ _ => by kernel_rfl
theorem nx_57_mbo_p : ∀ (pr : List (List AV)) (p1 : BitVec 32) (p2 : BitVec 32) (en : List (List AV)) (th : List (List AV)) (t2 : Nat) (bg : BitVec 64) (sz : BitVec 64) (pa : BitVec 64) (size : BitVec 64), inlineA Tryz.prog (C_56) (drawA Tryz.prog) FE_57_mbo Tryz.f57 (mboA (.p pr p1 p2 en th t2 bg sz pa size)) (mboH (.p pr p1 p2 en th t2 bg sz pa size)) (mboH (.p pr p1 p2 en th t2 bg sz pa size)).length mboDecR = mboStep (.p pr p1 p2 en th t2 bg sz pa size) := fun _ _ _ _ _ _ _ _ _ _ => by kernel_rfl
theorem nx_57_mbo_u : ∀ (q : List (List AV)) (u1 : BitVec 64) (u2 : BitVec 64) (u3 : Bool) (t2 : Nat) (bg : BitVec 64) (sz : BitVec 64) (pa : BitVec 64) (size : BitVec 64), inlineA Tryz.prog (C_56) (drawA Tryz.prog) FE_57_mbo Tryz.f57 (mboA (.u q u1 u2 u3 t2 bg sz pa size)) (mboH (.u q u1 u2 u3 t2 bg sz pa size)) (mboH (.u q u1 u2 u3 t2 bg sz pa size)).length mboDecR = mboStep (.u q u1 u2 u3 t2 bg sz pa size) := fun _ _ _ _ _ _ _ _ _ => by kernel_rfl
theorem nx_57_mbo_w : ∀ (w : Bool) (t2 : Nat) (bg : BitVec 64) (sz : BitVec 64) (pa : BitVec 64) (size : BitVec 64), inlineA Tryz.prog (C_56) (drawA Tryz.prog) FE_57_mbo Tryz.f57 (mboA (.w w t2 bg sz pa size)) (mboH (.w w t2 bg sz pa size)) (mboH (.w w t2 bg sz pa size)).length mboDecR = mboStep (.w w t2 bg sz pa size) := fun _ _ _ _ _ _ => by kernel_rfl
noncomputable def EL_57_mbo : EL Tryz.prog (C_56) FE_57_mbo Tryz.f57 MboS MboR :=
  { eA := mboA, eH := mboH, dec := mboDec, dec_ok := mboDec_ok, enc := mboU, decR := mboDecR, decR_ok := mboDecR_ok, step := mboStep, hstep := fun x => match x with
      | .r n tg m d t2 bg sz pa size => nx_57_mbo_r n tg m d t2 bg sz pa size
      | .c c0 c1 c2 t2 bg sz pa size => nx_57_mbo_c c0 c1 c2 t2 bg sz pa size
      | .p pr p1 p2 en th t2 bg sz pa size => nx_57_mbo_p pr p1 p2 en th t2 bg sz pa size
      | .u q u1 u2 u3 t2 bg sz pa size => nx_57_mbo_u q u1 u2 u3 t2 bg sz pa size
      | .w w t2 bg sz pa size => nx_57_mbo_w w t2 bg sz pa size
  }
theorem C_57_mbo_snd : Snd Tryz.prog C_57_mbo := elC_snd EL_57_mbo (C_56_snd) Tryz.func57 (by kernel_rfl) (cps := mboCps) mboCps_ok (C_57_snd)

/- (*ravelin/bus.Bus).find -/
def F43 : Cfg := { F := 400, roots := [0, 1, 2, 3, 4, 5, 6, 7, 8], fl := ⟨false, false⟩ }
noncomputable def C_43 : Oracle := inlS Tryz.prog 43 Tryz.f43 F43 C_57_mbo (C_57_mbo)
theorem C_43_snd : Snd Tryz.prog C_43 := inlS_snd Tryz.func43 (by kernel_rfl) C_57_mbo_snd C_57_mbo_snd

/- (*ravelin/ram.Ram).part -/
def F79 : Cfg := { F := 400, roots := [0, 1, 2, 3, 4], fl := ⟨false, false⟩ }
noncomputable def C_79 : Oracle := inlS Tryz.prog 79 Tryz.f79 F79 C_43 (C_43)
theorem C_79_snd : Snd Tryz.prog C_79 := inlS_snd Tryz.func79 (by kernel_rfl) C_43_snd C_43_snd

/- (*ravelin/ram.Ram).number -/
def F69 : Cfg := { F := 400, roots := [0, 1, 2, 3, 4], fl := ⟨false, false⟩ }
noncomputable def C_69 : Oracle := inlS Tryz.prog 69 Tryz.f69 F69 C_79 (C_79)
theorem C_69_snd : Snd Tryz.prog C_69 := inlS_snd Tryz.func69 (by kernel_rfl) C_79_snd C_79_snd

/- a loop of ravelin/ram.put -/
noncomputable def FL_103_mpl : Cfg := { F := 400, roots := [0, 1, 6, 7], fl := ⟨false, false⟩, laws := [] }
noncomputable def LC_103_mpl : Code := loopIn 0 Tryz.f103
theorem nx_103_mpl_a : ∀ (m : Nat) (d : List (List AV)) (o : Nat) (n : Nat) (v : BitVec 64) (ln : BitVec 64) (ix : BitVec 64), codeA Tryz.prog (C_69) (drawA Tryz.prog FL_103_mpl.fl Tryz.f103.ntmps (C_69)) FL_103_mpl Tryz.f103.ntmps LC_103_mpl (tmOf [0, 1, 6, 7] (mplT (.a m d o n v ln ix))) (mplH (.a m d o n v ln ix)) (mplN (.a m d o n v ln ix)) (roundK 1 [0, 1, 6, 7] [0, 1, 6, 7] [] mplDec mplDecE) = mplStep (.a m d o n v ln ix) := fun _ _ _ _ _ _ _ => by kernel_rfl
noncomputable def LL_103_mpl : LL Tryz.prog (C_69) Tryz.f103.ntmps (drawA Tryz.prog FL_103_mpl.fl Tryz.f103.ntmps (C_69)) FL_103_mpl LC_103_mpl MplS MplE :=
  { N0 := 1, rts := [0, 1, 6, 7], kT := [0, 1, 6, 7], vT := mplT, hT := mplH, nT := mplN, dec := mplDec, dec_ok := mplDec_ok, kE := [], oE := mplO, vE := mplV, hE := mplG, nE := mplM, decE := mplDecE, decE_ok := mplDecE_ok, step := mplStep,
    hstep := fun x => match x with
      | .a m d o n v ln ix => nx_103_mpl_a m d o n v ln ix
  }
theorem hs_103_mpl : HSnd Tryz.prog Tryz.f103.ntmps (.block 0 (.loop LC_103_mpl)) (llH 1 [0, 1, 6, 7] mplDec 0 mplCps) :=
  LL.handler_snd LL_103_mpl (C_69_snd) (drawA_sound (C_69_snd)) (laws_nil) 0 (cps := mplCps) mplCps_ok

/- ravelin/ram.put -/
noncomputable def F103 : Cfg := { F := 400, roots := [0, 1, 2, 3, 4], fl := ⟨false, false⟩, laws := [(0, llH 1 [0, 1, 6, 7] mplDec 0 mplCps)] }
theorem fok_103 : FOK Tryz.prog Tryz.f103 F103 := fok_of (laws_cons (subs_one (b := .block 0 (.loop LC_103_mpl)) (by kernel_rfl) hs_103_mpl) (laws_nil))
noncomputable def C_103 : Oracle := inlS Tryz.prog 103 Tryz.f103 F103 C_69 (C_69)
theorem C_103_snd : Snd Tryz.prog C_103 := inlS_snd Tryz.func103 (by kernel_rfl) C_69_snd C_69_snd (hF := fok_103)

/- an entry: a number laid -/
noncomputable def FE_103_mpu : Cfg := { F := 400, roots := [0, 1, 2, 3, 4, 5, 6, 7, 8, 9, 10, 11], fl := ⟨false, false⟩, laws := [(0, llH 1 [0, 1, 6, 7] mplDec 0 mplCps)] }
noncomputable def C_103_mpu : Oracle := elC 103 mpuDec mpuCps mpuU (C_103)
theorem nx_103_mpu_a : ∀ (m : Nat) (d : List (List AV)) (o : Nat) (n : Nat) (v : BitVec 64), inlineA Tryz.prog (C_69) (drawA Tryz.prog) FE_103_mpu Tryz.f103 (mpuA (.a m d o n v)) (mpuH (.a m d o n v)) (mpuH (.a m d o n v)).length mpuDecR = mpuStep (.a m d o n v) := fun _ _ _ _ _ => by kernel_rfl
noncomputable def EL_103_mpu : EL Tryz.prog (C_69) FE_103_mpu Tryz.f103 MpuS MpuR :=
  { eA := mpuA, eH := mpuH, dec := mpuDec, dec_ok := mpuDec_ok, enc := mpuU, decR := mpuDecR, decR_ok := mpuDecR_ok, step := mpuStep, hstep := fun x => match x with
      | .a m d o n v => nx_103_mpu_a m d o n v
  }
theorem foke_103_mpu : FOK Tryz.prog Tryz.f103 FE_103_mpu := fok_of (laws_cons (subs_one (b := .block 0 (.loop LC_103_mpl)) (by kernel_rfl) hs_103_mpl) (laws_nil))
theorem C_103_mpu_snd : Snd Tryz.prog C_103_mpu := elC_snd EL_103_mpu (C_69_snd) Tryz.func103 (by kernel_rfl) (cps := mpuCps) mpuCps_ok (C_103_snd) (hF := foke_103_mpu)

/- (*ravelin/ram.Ram).tag -/
def F104 : Cfg := { F := 400, roots := [0, 1, 2, 3, 4], fl := ⟨false, false⟩ }
noncomputable def C_104 : Oracle := inlS Tryz.prog 104 Tryz.f104 F104 C_103_mpu (C_103_mpu)
theorem C_104_snd : Snd Tryz.prog C_104 := inlS_snd Tryz.func104 (by kernel_rfl) C_103_mpu_snd C_103_mpu_snd

/- (*ravelin/ram.Ram).Store -/
def F102 : Cfg := { F := 400, roots := [0, 1, 2, 3, 4, 5, 6, 7, 8, 9, 10], fl := ⟨false, false⟩ }
noncomputable def C_102 : Oracle := inlS Tryz.prog 102 Tryz.f102 F102 C_104 (C_104)
theorem C_102_snd : Snd Tryz.prog C_102 := inlS_snd Tryz.func102 (by kernel_rfl) C_104_snd C_104_snd

/- an entry: a store -/
def FE_102_mrs : Cfg := { F := 400, roots := [0, 1, 2, 3, 4, 5, 6, 7, 8, 9, 10, 11], fl := ⟨false, false⟩, laws := [] }
noncomputable def C_102_mrs : Oracle := elC 102 mrsDec mrsCps mrsU (C_102)
theorem nx_102_mrs_a : ∀ (n : Nat) (tg : List (List AV)) (m : Nat) (d : List (List AV)) (off : BitVec 64) (size : BitVec 64) (v : BitVec 64), inlineA Tryz.prog (C_104) (drawA Tryz.prog) FE_102_mrs Tryz.f102 (mrsA (.a n tg m d off size v)) (mrsH (.a n tg m d off size v)) (mrsH (.a n tg m d off size v)).length mrsDecR = mrsStep (.a n tg m d off size v) := fun _ _ _ _ _ _ _ => by kernel_rfl
noncomputable def EL_102_mrs : EL Tryz.prog (C_104) FE_102_mrs Tryz.f102 MrsS MrsR :=
  { eA := mrsA, eH := mrsH, dec := mrsDec, dec_ok := mrsDec_ok, enc := mrsU, decR := mrsDecR, decR_ok := mrsDecR_ok, step := mrsStep, hstep := fun x => match x with
      | .a n tg m d off size v => nx_102_mrs_a n tg m d off size v
  }
theorem C_102_mrs_snd : Snd Tryz.prog C_102_mrs := elC_snd EL_102_mrs (C_104_snd) Tryz.func102 (by kernel_rfl) (cps := mrsCps) mrsCps_ok (C_102_snd)

/- ravelin/clint.part -/
def F108 : Cfg := { F := 400, roots := [0, 1, 2, 3, 4], fl := ⟨false, false⟩ }
noncomputable def C_108 : Oracle := inlS Tryz.prog 108 Tryz.f108 F108 C_102_mrs (C_102_mrs)
theorem C_108_snd : Snd Tryz.prog C_108 := inlS_snd Tryz.func108 (by kernel_rfl) C_102_mrs_snd C_102_mrs_snd

/- sync/atomic.StoreUint64 -/
noncomputable def C_113 : Oracle := atStoreE64 113 (C_108)
theorem C_113_snd : Snd Tryz.prog C_113 := atStoreE64_snd Tryz.func113 (by kernel_rfl) (by kernel_rfl) (by kernel_rfl) (by kernel_rfl) (C_108_snd)

/- (*sync/atomic.Uint64).Store -/
def F111 : Cfg := { F := 400, roots := [0, 1], fl := ⟨false, false⟩ }
noncomputable def C_111 : Oracle := inlS Tryz.prog 111 Tryz.f111 F111 C_113 (C_113)
theorem C_111_snd : Snd Tryz.prog C_111 := inlS_snd Tryz.func111 (by kernel_rfl) C_113_snd C_113_snd

/- sync/atomic.LoadUint64 -/
noncomputable def C_114 : Oracle := atLoadE64 114 (C_111)
theorem C_114_snd : Snd Tryz.prog C_114 := atLoadE64_snd Tryz.func114 (by kernel_rfl) (by kernel_rfl) (by kernel_rfl) (by kernel_rfl) (C_111_snd)

/- (*sync/atomic.Uint64).Load -/
def F112 : Cfg := { F := 400, roots := [0, 1], fl := ⟨false, false⟩ }
noncomputable def C_112 : Oracle := quiS Tryz.prog 112 Tryz.f112 F112 C_114 (C_114)
theorem C_112_snd : Snd Tryz.prog C_112 := quiS_snd Tryz.func112 (by kernel_rfl) C_114_snd C_114_snd

/- (*ravelin/clint.Clint).Time -/
def F109 : Cfg := { F := 400, roots := [0, 1], fl := ⟨false, false⟩ }
noncomputable def C_109 : Oracle := quiS Tryz.prog 109 Tryz.f109 F109 C_112 (C_112)
theorem C_109_snd : Snd Tryz.prog C_109 := quiS_snd Tryz.func109 (by kernel_rfl) C_112_snd C_112_snd

/- (*ravelin/clint.Clint).Store$1 -/
def F110 : Cfg := { F := 400, roots := [0, 1], fl := ⟨false, false⟩ }
noncomputable def C_110 : Oracle := inlS Tryz.prog 110 Tryz.f110 F110 C_109 (C_109)
theorem C_110_snd : Snd Tryz.prog C_110 := inlS_snd Tryz.func110 (by kernel_rfl) C_109_snd C_109_snd

/- ravelin/plic.which -/
def F118 : Cfg := { F := 400, roots := [0, 1, 2, 3, 4], fl := ⟨false, false⟩ }
noncomputable def C_118 : Oracle := inlS Tryz.prog 118 Tryz.f118 F118 C_110 (C_110)
theorem C_118_snd : Snd Tryz.prog C_118 := inlS_snd Tryz.func118 (by kernel_rfl) C_110_snd C_110_snd

/- sync/atomic.AndUint32 -/
noncomputable def C_125 : Oracle := atUpdE 125 opAnd (C_118)
theorem C_125_snd : Snd Tryz.prog C_125 := atUpdE_snd (o := Op.intBits .and) Tryz.func125 (by kernel_rfl) (by kernel_rfl) (by kernel_rfl) (by kernel_rfl) opAnd_ok (C_118_snd)

/- (*sync/atomic.Uint32).And -/
def F121 : Cfg := { F := 400, roots := [0, 1, 2], fl := ⟨false, false⟩ }
noncomputable def C_121 : Oracle := inlS Tryz.prog 121 Tryz.f121 F121 C_125 (C_125)
theorem C_121_snd : Snd Tryz.prog C_121 := inlS_snd Tryz.func121 (by kernel_rfl) C_125_snd C_125_snd

/- ravelin/serial.there -/
def F130 : Cfg := { F := 400, roots := [0, 1, 2], fl := ⟨false, false⟩ }
noncomputable def C_130 : Oracle := inlS Tryz.prog 130 Tryz.f130 F130 C_121 (C_121)
theorem C_130_snd : Snd Tryz.prog C_130 := inlS_snd Tryz.func130 (by kernel_rfl) C_121_snd C_121_snd

/- (*ravelin/bus.Bus).Store -/
def F14 : Cfg := { F := 400, roots := [0, 1, 2, 3, 4, 5, 6], fl := ⟨false, false⟩ }
noncomputable def C_14 : Oracle := inlS Tryz.prog 14 Tryz.f14 F14 C_130 (C_130)
theorem C_14_snd : Snd Tryz.prog C_14 := inlS_snd Tryz.func14 (by kernel_rfl) C_130_snd C_130_snd

/- ravelin/ravelinlaw21.Lay -/
def F4 : Cfg := { F := 400, roots := [0, 1, 2, 3, 4, 5], fl := ⟨false, false⟩ }
noncomputable def C_4 : Oracle := inlS Tryz.prog 4 Tryz.f4 F4 C_14 (C_14)
theorem C_4_snd : Snd Tryz.prog C_4 := inlS_snd Tryz.func4 (by kernel_rfl) C_14_snd C_14_snd

/- ravelin/ravelinlaw21.table -/
def F37 : Cfg := { F := 400, roots := [0], fl := ⟨false, false⟩ }
noncomputable def C_37 : Oracle := inlS Tryz.prog 37 Tryz.f37 F37 C_4 (C_4)
theorem C_37_snd : Snd Tryz.prog C_37 := inlS_snd Tryz.func37 (by kernel_rfl) C_4_snd C_4_snd

/- (*ravelin/bus.Bus).InRam -/
def F19 : Cfg := { F := 400, roots := [0, 1, 2, 3, 4, 5], fl := ⟨false, false⟩ }
noncomputable def C_19 : Oracle := inlS Tryz.prog 19 Tryz.f19 F19 C_37 (C_37)
theorem C_19_snd : Snd Tryz.prog C_19 := inlS_snd Tryz.func19 (by kernel_rfl) C_37_snd C_37_snd

/- a loop of ravelin/ram.get -/
noncomputable def FL_70_mgl : Cfg := { F := 400, roots := [2, 5, 6, 7], fl := ⟨false, false⟩, laws := [] }
noncomputable def LC_70_mgl : Code := loopIn 0 Tryz.f70
theorem nx_70_mgl_a : ∀ (rw : Bool) (m : Nat) (d : List (List AV)) (o : Nat) (n : Nat) (v : BitVec 64) (ln : BitVec 64) (ix : BitVec 64), codeA Tryz.prog (C_19) (drawA Tryz.prog FL_70_mgl.fl Tryz.f70.ntmps (C_19)) FL_70_mgl Tryz.f70.ntmps LC_70_mgl (tmOf [2, 5, 6, 7] (mglT (.a rw m d o n v ln ix))) (mglH (.a rw m d o n v ln ix)) (mglN (.a rw m d o n v ln ix)) (roundK 1 [2, 5, 6, 7] [2, 5, 6, 7] [2] mglDec mglDecE) = mglStep (.a rw m d o n v ln ix) := fun _ _ _ _ _ _ _ _ => by kernel_rfl
noncomputable def LL_70_mgl : LL Tryz.prog (C_19) Tryz.f70.ntmps (drawA Tryz.prog FL_70_mgl.fl Tryz.f70.ntmps (C_19)) FL_70_mgl LC_70_mgl MglS MglE :=
  { N0 := 1, rts := [2, 5, 6, 7], kT := [2, 5, 6, 7], vT := mglT, hT := mglH, nT := mglN, dec := mglDec, dec_ok := mglDec_ok, kE := [2], oE := mglO, vE := mglV, hE := mglG, nE := mglM, decE := mglDecE, decE_ok := mglDecE_ok, step := mglStep,
    hstep := fun x => match x with
      | .a rw m d o n v ln ix => nx_70_mgl_a rw m d o n v ln ix
  }
theorem hs_70_mgl : HSnd Tryz.prog Tryz.f70.ntmps (.block 0 (.loop LC_70_mgl)) (orH 1 (llH 1 [2, 5, 6, 7] mglDec 0 mglCps) (selfH Tryz.prog (C_19) (drawA Tryz.prog FL_70_mgl.fl Tryz.f70.ntmps (C_19)) FL_70_mgl Tryz.f70.ntmps (.block 0 (.loop LC_70_mgl)))) :=
  orH_snd (LL.handler_snd LL_70_mgl (C_19_snd) (drawA_sound (C_19_snd)) (laws_nil) 0 (cps := mglCps) mglCps_ok) (selfH_snd (C_19_snd) (drawA_sound (C_19_snd)) (laws_nil))

/- ravelin/ram.get -/
noncomputable def F70 : Cfg := { F := 400, roots := [0, 1, 2, 3, 4], fl := ⟨false, false⟩, laws := [(0, orH 1 (llH 1 [2, 5, 6, 7] mglDec 0 mglCps) (selfH Tryz.prog (C_19) (drawA Tryz.prog FL_70_mgl.fl Tryz.f70.ntmps (C_19)) FL_70_mgl Tryz.f70.ntmps (.block 0 (.loop LC_70_mgl))))] }
theorem fok_70 : FOK Tryz.prog Tryz.f70 F70 := fok_of (laws_cons (subs_one (b := .block 0 (.loop LC_70_mgl)) (by kernel_rfl) hs_70_mgl) (laws_nil))
noncomputable def C_70 : Oracle := inlS Tryz.prog 70 Tryz.f70 F70 C_19 (C_19)
theorem C_70_snd : Snd Tryz.prog C_70 := inlS_snd Tryz.func70 (by kernel_rfl) C_19_snd C_19_snd (hF := fok_70)

/- an entry: a number of bytes -/
noncomputable def FE_70_mge : Cfg := { F := 400, roots := [0, 1, 2, 3, 4, 5, 6, 7, 8, 9, 10, 11], fl := ⟨false, false⟩, laws := [(0, orH 1 (llH 1 [2, 5, 6, 7] mglDec 0 mglCps) (selfH Tryz.prog (C_19) (drawA Tryz.prog FL_70_mgl.fl Tryz.f70.ntmps (C_19)) FL_70_mgl Tryz.f70.ntmps (.block 0 (.loop LC_70_mgl))))] }
noncomputable def C_70_mge : Oracle := elC 70 mgeDec mgeCps mgeU (C_70)
theorem nx_70_mge_s : ∀ (rw : Bool) (m : Nat) (d : List (List AV)) (o : Nat) (n : Nat), inlineA Tryz.prog (C_19) (drawA Tryz.prog) FE_70_mge Tryz.f70 (mgeA (.s rw m d o n)) (mgeH (.s rw m d o n)) (mgeH (.s rw m d o n)).length mgeDecR = mgeStep (.s rw m d o n) := fun _ _ _ _ _ => by kernel_rfl
theorem nx_70_mge_z : inlineA Tryz.prog (C_19) (drawA Tryz.prog) FE_70_mge Tryz.f70 (mgeA (.z )) (mgeH (.z )) (mgeH (.z )).length mgeDecR = mgeStep (.z ) := by kernel_rfl
noncomputable def EL_70_mge : EL Tryz.prog (C_19) FE_70_mge Tryz.f70 MgeS MgeR :=
  { eA := mgeA, eH := mgeH, dec := mgeDec, dec_ok := mgeDec_ok, enc := mgeU, decR := mgeDecR, decR_ok := mgeDecR_ok, step := mgeStep, hstep := fun x => match x with
      | .s rw m d o n => nx_70_mge_s rw m d o n
      | .z => nx_70_mge_z 
  }
theorem foke_70_mge : FOK Tryz.prog Tryz.f70 FE_70_mge := fok_of (laws_cons (subs_one (b := .block 0 (.loop LC_70_mgl)) (by kernel_rfl) hs_70_mgl) (laws_nil))
theorem C_70_mge_snd : Snd Tryz.prog C_70_mge := elC_snd EL_70_mge (C_19_snd) Tryz.func70 (by kernel_rfl) (cps := mgeCps) mgeCps_ok (C_70_snd) (hF := foke_70_mge)

/- (*ravelin/ram.Ram).Load -/
def F35 : Cfg := { F := 400, roots := [0, 1, 2, 3, 4, 5, 6], fl := ⟨false, false⟩ }
noncomputable def C_35 : Oracle := inlS Tryz.prog 35 Tryz.f35 F35 C_70_mge (C_70_mge)
theorem C_35_snd : Snd Tryz.prog C_35 := inlS_snd Tryz.func35 (by kernel_rfl) C_70_mge_snd C_70_mge_snd

/- an entry: a load -/
def FE_35_mrl : Cfg := { F := 400, roots := [0, 1, 2, 3, 4, 5, 6, 7, 8, 9, 10, 11], fl := ⟨false, false⟩, laws := [] }
noncomputable def C_35_mrl : Oracle := elC 35 mrlDec mrlCps mrlU (C_35)
theorem nx_35_mrl_a : ∀ (n : Nat) (tg : List (List AV)) (m : Nat) (d : List (List AV)) (off : BitVec 64) (size : BitVec 64), inlineA Tryz.prog (C_70_mge) (drawA Tryz.prog) FE_35_mrl Tryz.f35 (mrlA (.a n tg m d off size)) (mrlH (.a n tg m d off size)) (mrlH (.a n tg m d off size)).length mrlDecR = mrlStep (.a n tg m d off size) := fun _ _ _ _ _ _ => by kernel_rfl
noncomputable def EL_35_mrl : EL Tryz.prog (C_70_mge) FE_35_mrl Tryz.f35 MrlS MrlR :=
  { eA := mrlA, eH := mrlH, dec := mrlDec, dec_ok := mrlDec_ok, enc := mrlU, decR := mrlDecR, decR_ok := mrlDecR_ok, step := mrlStep, hstep := fun x => match x with
      | .a n tg m d off size => nx_35_mrl_a n tg m d off size
  }
theorem C_35_mrl_snd : Snd Tryz.prog C_35_mrl := elC_snd EL_35_mrl (C_70_mge_snd) Tryz.func35 (by kernel_rfl) (cps := mrlCps) mrlCps_ok (C_35_snd)

/- sync/atomic.LoadUint32 -/
noncomputable def C_122 : Oracle := atLoadE 122 (C_35_mrl)
theorem C_122_snd : Snd Tryz.prog C_122 := atLoadE_snd Tryz.func122 (by kernel_rfl) (by kernel_rfl) (by kernel_rfl) (by kernel_rfl) (C_35_mrl_snd)

/- (*sync/atomic.Uint32).Load -/
def F119 : Cfg := { F := 400, roots := [0, 1], fl := ⟨false, false⟩ }
noncomputable def C_119 : Oracle := quiS Tryz.prog 119 Tryz.f119 F119 C_122 (C_122)
theorem C_119_snd : Snd Tryz.prog C_119 := quiS_snd Tryz.func119 (by kernel_rfl) C_122_snd C_122_snd

/- (*ravelin/plic.Plic).best -/
def F123 : Cfg := { F := 400, roots := [0, 1, 2, 3, 4, 5], fl := ⟨false, false⟩ }
noncomputable def C_123 : Oracle := quiS Tryz.prog 123 Tryz.f123 F123 C_119 (C_119)
theorem C_123_snd : Snd Tryz.prog C_123 := quiS_snd Tryz.func123 (by kernel_rfl) C_119_snd C_119_snd

/- sync/atomic.OrUint32 -/
noncomputable def C_126 : Oracle := atUpdE 126 opOr (C_123)
theorem C_126_snd : Snd Tryz.prog C_126 := atUpdE_snd (o := Op.intBits .or) Tryz.func126 (by kernel_rfl) (by kernel_rfl) (by kernel_rfl) (by kernel_rfl) opOr_ok (C_123_snd)

/- (*sync/atomic.Uint32).Or -/
def F124 : Cfg := { F := 400, roots := [0, 1, 2], fl := ⟨false, false⟩ }
noncomputable def C_124 : Oracle := inlS Tryz.prog 124 Tryz.f124 F124 C_126 (C_126)
theorem C_124_snd : Snd Tryz.prog C_124 := inlS_snd Tryz.func124 (by kernel_rfl) C_126_snd C_126_snd

/- (*ravelin/plic.Plic).claim -/
def F120 : Cfg := { F := 400, roots := [0, 1, 2, 3], fl := ⟨false, false⟩ }
noncomputable def C_120 : Oracle := inlS Tryz.prog 120 Tryz.f120 F120 C_124 (C_124)
theorem C_120_snd : Snd Tryz.prog C_120 := inlS_snd Tryz.func120 (by kernel_rfl) C_124_snd C_124_snd

/- (*ravelin/serial.queue).next -/
def F131 : Cfg := { F := 400, roots := [0, 1, 2], fl := ⟨false, false⟩ }
noncomputable def C_131 : Oracle := inlS Tryz.prog 131 Tryz.f131 F131 C_120 (C_120)
theorem C_131_snd : Snd Tryz.prog C_131 := inlS_snd Tryz.func131 (by kernel_rfl) C_120_snd C_120_snd

/- ravelin/serial.one -/
def F132 : Cfg := { F := 400, roots := [0, 1], fl := ⟨false, false⟩ }
noncomputable def C_132 : Oracle := inlS Tryz.prog 132 Tryz.f132 F132 C_131 (C_131)
theorem C_132_snd : Snd Tryz.prog C_132 := inlS_snd Tryz.func132 (by kernel_rfl) C_131_snd C_131_snd

/- (*ravelin/serial.queue).Waits -/
def F133 : Cfg := { F := 400, roots := [0, 1], fl := ⟨false, false⟩ }
noncomputable def C_133 : Oracle := inlS Tryz.prog 133 Tryz.f133 F133 C_132 (C_132)
theorem C_133_snd : Snd Tryz.prog C_133 := inlS_snd Tryz.func133 (by kernel_rfl) C_132_snd C_132_snd

/- (*ravelin/bus.Bus).Load -/
def F20 : Cfg := { F := 400, roots := [0, 1, 2, 3, 4, 5, 6], fl := ⟨false, false⟩ }
noncomputable def C_20 : Oracle := inlS Tryz.prog 20 Tryz.f20 F20 C_133 (C_133)
theorem C_20_snd : Snd Tryz.prog C_20 := inlS_snd Tryz.func20 (by kernel_rfl) C_133_snd C_133_snd

/- (ravelin/pte.entry).has -/
def F58 : Cfg := { F := 400, roots := [0, 1, 2], fl := ⟨true, false⟩ }
theorem run_58 : ∀ (xe : BitVec 64) (bits : BitVec 64), pureRun Tryz.prog C_20 F58 Tryz.f58 [.int .u64 xe, .int .u64 bits] = some (.bool (v_pte_entry_has xe bits)) := fun xe bits =>
 (show pureRun Tryz.prog C_20 F58 Tryz.f58 [.int .u64 xe, .int .u64 bits] = (some (AV.bool (!xe &&& bits == 0#64))) by kernel_rfl).trans (rfl)
noncomputable def C_58 : Oracle := pureE 58 (pure2 dU64 dU64 (fun xe bits => .bool (v_pte_entry_has xe bits))) (C_20)
theorem C_58_snd : Snd Tryz.prog C_58 := pureE_snd (pure2_ok (F := F58) (C_20_snd) Tryz.func58 (by kernel_rfl) run_58 (fun _ _ => rfl)) (C_20_snd)

/- (ravelin/pte.entry).leaf -/
def F59 : Cfg := { F := 400, roots := [0, 1], fl := ⟨true, false⟩ }
theorem run_59 : ∀ (xe : BitVec 64), pureRun Tryz.prog C_58 F59 Tryz.f59 [.int .u64 xe] = some (.bool (v_pte_entry_leaf xe)) := fun xe =>
 (show pureRun Tryz.prog C_58 F59 Tryz.f59 [.int .u64 xe] = (some (AV.bool (v_pte_entry_has xe 10#64))) by kernel_rfl).trans (rfl)
noncomputable def C_59 : Oracle := pureE 59 (pure1 dU64 (fun xe => .bool (v_pte_entry_leaf xe))) (C_58)
theorem C_59_snd : Snd Tryz.prog C_59 := pureE_snd (pure1_ok (F := F59) (C_58_snd) Tryz.func59 (by kernel_rfl) run_59 (fun _ => rfl)) (C_58_snd)

/- (ravelin/pte.entry).page -/
def F60 : Cfg := { F := 400, roots := [0, 1], fl := ⟨true, false⟩ }
theorem run_60 : ∀ (xe : BitVec 64), pureRun Tryz.prog C_59 F60 Tryz.f60 [.int .u64 xe] = some (.int .u64 (v_pte_entry_page xe)) := fun xe =>
 (show pureRun Tryz.prog C_59 F60 Tryz.f60 [.int .u64 xe] = (some (AV.int (IntKind.u64) (xe >>> 10 &&& 17592186044415#64))) by kernel_rfl).trans (rfl)
noncomputable def C_60 : Oracle := pureE 60 (pure1 dU64 (fun xe => .int .u64 (v_pte_entry_page xe))) (C_59)
theorem C_60_snd : Snd Tryz.prog C_60 := pureE_snd (pure1_ok (F := F60) (C_59_snd) Tryz.func60 (by kernel_rfl) run_60 (fun _ => rfl)) (C_59_snd)

/- ravelin/pte.Right -/
def F21 : Cfg := { F := 400, roots := [0, 1, 2, 3], fl := ⟨true, false⟩ }
theorem run_21 : ∀ (p : BitVec 64) (level : BitVec 64), pureRun Tryz.prog C_60 F21 Tryz.f21 [.int .u64 p, .int .i64 level] = cond (g_pte_Right p level) (some (.bool (v_pte_Right p level))) none := fun p level =>
 (show pureRun Tryz.prog C_60 F21 Tryz.f21 [.int .u64 p, .int .i64 level] = (cond (level.slt 0#64)
 (some (AV.bool (false)))
 (cond ((2#64).slt level)
 (some (AV.bool (false)))
 (cond (!v_pte_entry_has p 1#64)
 (some (AV.bool (false)))
 (cond (v_pte_entry_has p 4593671619917905920#64)
 (some (AV.bool (false)))
 (cond (v_pte_entry_has p 4#64)
 (cond (!v_pte_entry_has p 2#64)
 (some (AV.bool (false)))
 (cond (v_pte_entry_leaf p)
 (cond (nonneg IntKind.i64 (9#64 * level))
 (some (AV.bool (v_pte_entry_page p &&& 1#64 <<< min (9#64 * level).toNat 64 - 1#64 == 0#64)))
        none)
 (cond ((0#64).slt level)
 (some (AV.bool (!v_pte_entry_has p 13835058055282163920#64)))
 (some (AV.bool (false))))))
 (cond (v_pte_entry_leaf p)
 (cond (nonneg IntKind.i64 (9#64 * level))
 (some (AV.bool (v_pte_entry_page p &&& 1#64 <<< min (9#64 * level).toNat 64 - 1#64 == 0#64)))
       none)
 (cond ((0#64).slt level)
 (some (AV.bool (!v_pte_entry_has p 13835058055282163920#64)))
 (some (AV.bool (false)))))))))) by kernel_rfl).trans ((merG _ (fun p => .bool p) rfl (merG _ (fun p => .bool p) rfl (merG _ (fun p => .bool p) rfl (merG _ (fun p => .bool p) rfl (merG _ (fun p => .bool p) (merG _ (fun p => .bool p) rfl (merG _ (fun p => .bool p) (merR _ (fun p => .bool p) rfl) (merG _ (fun p => .bool p) rfl rfl))) (merG _ (fun p => .bool p) (merR _ (fun p => .bool p) rfl) (merG _ (fun p => .bool p) rfl rfl))))))))
noncomputable def C_21 : Oracle := pureGE 21 (pure2 dU64 dI64 (fun p level => .tup [.bool (g_pte_Right p level), .bool (v_pte_Right p level)])) (C_60)
theorem C_21_snd : Snd Tryz.prog C_21 := pureGE_snd (pure2_gok (F := F21) (C_60_snd) Tryz.func21 (by kernel_rfl) run_21 (fun _ _ => rfl)) (C_60_snd)

/- ravelin/pte.Leaf -/
def F22 : Cfg := { F := 400, roots := [0, 1], fl := ⟨true, false⟩ }
theorem run_22 : ∀ (p : BitVec 64), pureRun Tryz.prog C_21 F22 Tryz.f22 [.int .u64 p] = some (.bool (v_pte_Leaf p)) := fun p =>
 (show pureRun Tryz.prog C_21 F22 Tryz.f22 [.int .u64 p] = (some (AV.bool (v_pte_entry_leaf p))) by kernel_rfl).trans (rfl)
noncomputable def C_22 : Oracle := pureE 22 (pure1 dU64 (fun p => .bool (v_pte_Leaf p))) (C_21)
theorem C_22_snd : Snd Tryz.prog C_22 := pureE_snd (pure1_ok (F := F22) (C_21_snd) Tryz.func22 (by kernel_rfl) run_22 (fun _ => rfl)) (C_21_snd)

/- (ravelin/pte.entry).whose -/
def F61 : Cfg := { F := 400, roots := [0, 1, 2, 3, 4], fl := ⟨true, false⟩ }
theorem run_61 : ∀ (xe : BitVec 64) (kind : BitVec 64) (priv : BitVec 64) (mstatus : BitVec 64), pureRun Tryz.prog C_22 F61 Tryz.f61 [.int .u64 xe, .int .i64 kind, .int .i64 priv, .int .u64 mstatus] = some (.bool (v_pte_entry_whose xe kind priv mstatus)) := fun xe kind priv mstatus =>
 (show pureRun Tryz.prog C_22 F61 Tryz.f61 [.int .u64 xe, .int .i64 kind, .int .i64 priv, .int .u64 mstatus] = (cond (priv == 0#64)
 (some (AV.bool (v_pte_entry_has xe 16#64)))
 (cond (v_pte_entry_has xe 16#64)
 (cond (!kind == 1#64)
 (some (AV.bool (!mstatus &&& 262144#64 == 0#64)))
 (some (AV.bool (false))))
 (some (AV.bool (true))))) by kernel_rfl).trans (by
    delta v_pte_entry_whose
    refine (mer _ (fun p => .bool p) ?_ (mer _ (fun p => .bool p) (mer _ (fun p => .bool p) ?_ ?_) ?_))
    all_goals first | with_reducible rfl | rfl)
noncomputable def C_61 : Oracle := pureE 61 (pure4 dU64 dI64 dI64 dU64 (fun xe kind priv mstatus => .bool (v_pte_entry_whose xe kind priv mstatus))) (C_22)
theorem C_61_snd : Snd Tryz.prog C_61 := pureE_snd (pure4_ok (F := F61) (C_22_snd) Tryz.func61 (by kernel_rfl) run_61 (fun _ _ _ _ => rfl)) (C_22_snd)

/- ravelin/pte.May -/
def F23 : Cfg := { F := 400, roots := [0, 1, 2, 3, 4, 5], fl := ⟨true, false⟩ }
theorem run_23 : ∀ (p : BitVec 64) (kind : BitVec 64) (priv : BitVec 64) (mstatus : BitVec 64), pureRun Tryz.prog C_61 F23 Tryz.f23 [.int .u64 p, .int .i64 kind, .int .i64 priv, .int .u64 mstatus] = some (.bool (v_pte_May p kind priv mstatus)) := fun p kind priv mstatus =>
 (show pureRun Tryz.prog C_61 F23 Tryz.f23 [.int .u64 p, .int .i64 kind, .int .i64 priv, .int .u64 mstatus] = (cond (!v_pte_entry_whose p kind priv mstatus)
 (some (AV.bool (false)))
 (cond (kind == 1#64)
 (some (AV.bool (v_pte_entry_has p 8#64)))
 (cond (kind == 2#64)
 (cond (v_pte_entry_has p 2#64)
 (some (AV.bool (true)))
 (cond (!mstatus &&& 524288#64 == 0#64)
 (some (AV.bool (v_pte_entry_has p 8#64)))
 (some (AV.bool (false)))))
 (cond (kind == 3#64)
 (some (AV.bool (v_pte_entry_has p 4#64)))
 (some (AV.bool (false))))))) by kernel_rfl).trans (by
    delta v_pte_May
    refine (mer _ (fun p => .bool p) ?_ (mer _ (fun p => .bool p) ?_ (mer _ (fun p => .bool p) (mer _ (fun p => .bool p) ?_ (mer _ (fun p => .bool p) ?_ ?_)) (mer _ (fun p => .bool p) ?_ ?_))))
    all_goals first | with_reducible rfl | rfl)
noncomputable def C_23 : Oracle := pureE 23 (pure4 dU64 dI64 dI64 dU64 (fun p kind priv mstatus => .bool (v_pte_May p kind priv mstatus))) (C_61)
theorem C_23_snd : Snd Tryz.prog C_23 := pureE_snd (pure4_ok (F := F23) (C_61_snd) Tryz.func23 (by kernel_rfl) run_23 (fun _ _ _ _ => rfl)) (C_61_snd)

/- ravelin/pte.Mark -/
def F24 : Cfg := { F := 400, roots := [0, 1, 2, 3], fl := ⟨true, false⟩ }
theorem run_24 : ∀ (p : BitVec 64) (kind : BitVec 64), pureRun Tryz.prog C_23 F24 Tryz.f24 [.int .u64 p, .int .i64 kind] = some (.int .u64 (v_pte_Mark p kind)) := fun p kind =>
 (show pureRun Tryz.prog C_23 F24 Tryz.f24 [.int .u64 p, .int .i64 kind] = (cond (kind == 3#64)
 (some (AV.int (IntKind.u64) (p ||| 64#64 ||| 128#64)))
 (some (AV.int (IntKind.u64) (p ||| 64#64)))) by kernel_rfl).trans (by
    delta v_pte_Mark
    refine (mer _ (fun p => .int .u64 p) ?_ ?_)
    all_goals first | with_reducible rfl | rfl)
noncomputable def C_24 : Oracle := pureE 24 (pure2 dU64 dI64 (fun p kind => .int .u64 (v_pte_Mark p kind))) (C_23)
theorem C_24_snd : Snd Tryz.prog C_24 := pureE_snd (pure2_ok (F := F24) (C_23_snd) Tryz.func24 (by kernel_rfl) run_24 (fun _ _ => rfl)) (C_23_snd)

/- ravelin/walk.Walk$1 -/
def F18 : Cfg := { F := 400, roots := [], fl := ⟨false, false⟩ }
noncomputable def C_18 : Oracle := inlS Tryz.prog 18 Tryz.f18 F18 C_24 (C_24)
theorem C_18_snd : Snd Tryz.prog C_18 := inlS_snd Tryz.func18 (by kernel_rfl) C_24_snd C_24_snd

/- ravelin/walk.Walk -/
def F7 : Cfg := { F := 400, roots := [0, 1, 2, 3, 4, 5, 6, 7, 8, 9, 10, 11, 12, 13, 14, 15], fl := ⟨false, false⟩ }
noncomputable def C_7 : Oracle := inlS Tryz.prog 7 Tryz.f7 F7 C_18 (C_18)
theorem C_7_snd : Snd Tryz.prog C_7 := inlS_snd Tryz.func7 (by kernel_rfl) C_18_snd C_18_snd

/- an entry: a walk -/
def FE_7_mwk : Cfg := { F := 400, roots := [0, 1, 2, 3, 4, 5, 6, 7, 8, 9, 10, 11], fl := ⟨false, false⟩, laws := [] }
noncomputable def C_7_mwk : Oracle := elC 7 mwkDec mwkCps mwkU (C_7)
theorem nx_7_mwk_a : ∀ (n : Nat) (tg : List (List AV)) (m : Nat) (d : List (List AV)) (c0 : BitVec 64) (c1 : BitVec 64) (c2 : BitVec 64) (pr : List (List AV)) (p1 : BitVec 32) (p2 : BitVec 32) (en : List (List AV)) (th : List (List AV)) (q : List (List AV)) (u1 : BitVec 64) (u2 : BitVec 64) (u3 : Bool) (w : Bool) (satp : BitVec 64) (va : BitVec 64) (kind : BitVec 64) (priv : BitVec 64) (mst : BitVec 64), inlineA Tryz.prog (C_18) (drawA Tryz.prog) FE_7_mwk Tryz.f7 (mwkA (.a n tg m d c0 c1 c2 pr p1 p2 en th q u1 u2 u3 w satp va kind priv mst)) (mwkH (.a n tg m d c0 c1 c2 pr p1 p2 en th q u1 u2 u3 w satp va kind priv mst)) (mwkH (.a n tg m d c0 c1 c2 pr p1 p2 en th q u1 u2 u3 w satp va kind priv mst)).length mwkDecR = mwkStep (.a n tg m d c0 c1 c2 pr p1 p2 en th q u1 u2 u3 w satp va kind priv mst) := fun _ _ _ _ _ _ _ _ _ _ _ _ _ _ _ _ _ _ _ _ _ _ => by kernel_rfl
noncomputable def EL_7_mwk : EL Tryz.prog (C_18) FE_7_mwk Tryz.f7 MwkS MwkR :=
  { eA := mwkA, eH := mwkH, dec := mwkDec, dec_ok := mwkDec_ok, enc := mwkU, decR := mwkDecR, decR_ok := mwkDecR_ok, step := mwkStep, hstep := fun x => match x with
      | .a n tg m d c0 c1 c2 pr p1 p2 en th q u1 u2 u3 w satp va kind priv mst => nx_7_mwk_a n tg m d c0 c1 c2 pr p1 p2 en th q u1 u2 u3 w satp va kind priv mst
  }
theorem C_7_mwk_snd : Snd Tryz.prog C_7_mwk := elC_snd EL_7_mwk (C_18_snd) Tryz.func7 (by kernel_rfl) (cps := mwkCps) (Eq.mp (show ECok mwkStep mwkCps = ECok EL_7_mwk.step mwkCps by kernel_rfl) mwkCps_ok) (C_7_snd)

/- ravelin/ravelinlaw21.known -/
def F12 : Cfg := { F := 400, roots := [0, 1, 2, 3, 4, 5, 6, 7, 8], fl := ⟨false, false⟩ }
theorem run_12 : pureRun Tryz.prog C_7_mwk F12 Tryz.f12 [] = t_l21_known  :=  by kernel_rfl
theorem snd_12 : Snd Tryz.prog (C_7_mwk) := C_7_mwk_snd

end Go.Proofs.YtkbcfbehebbmhaaGreat.K

import Derived.Test.YtkniemlelilbdaaSxLen2
import Derived.Test.YtkniemlelilbdaaSxAE
import Derived.Test.YtkniemlelilbdaaSxEC
import Derived.Test.YtkniemlelilbdaaSxX
import Derived.Test.YtkniemlelilbdaaSxAt6
import Derived.Test.YtkniemlelilbdaaVa03
import Derived.Test.YtkniemlelilbdaaVa11
import Derived.Test.YtkniemlelilbdaaPlRam3
import Derived.Test.YtkniemlelilbdaaPlRam4
import Derived.Test.YtkniemlelilbdaaPlRamU
import Derived.Test.YtkniemlelilbdaaPlRamR
import Derived.Test.YtkniemlelilbdaaVl15a
import Derived.Test.YtkniemlelilbdaaPlBusO
import Derived.Test.YtkniemlelilbdaaVa15
import Derived.KernelRfl
import Derived.Test.YtkniemlelilbdaaProg
set_option linter.unusedSimpArgs false
set_option linter.unusedVariables false
set_option linter.unnecessarySimpa false
/- What the functions of the seat answer. -/
namespace Go.Proofs.Ytkniemlelilbdaa.K
open Go Go.Sx Go.Proofs
set_option maxRecDepth 100000
set_option maxHeartbeats 4000000

/- ravelin/ram.New -/
def F17 : Cfg := { F := 400, roots := [0, 1, 2], fl := ⟨false, false⟩ }
noncomputable def C_17 : Oracle := inlS Try.prog 17 Try.f17 F17 nothing (nothing)
theorem C_17_snd : Snd Try.prog C_17 := inlS_snd Try.func17 (by kernel_rfl) nothing_snd nothing_snd

/- ravelin/clint.New -/
def F18 : Cfg := { F := 400, roots := [0], fl := ⟨false, false⟩ }
noncomputable def C_18 : Oracle := inlS Try.prog 18 Try.f18 F18 C_17 (C_17)
theorem C_18_snd : Snd Try.prog C_18 := inlS_snd Try.func18 (by kernel_rfl) C_17_snd C_17_snd

/- ravelin/plic.New -/
def F19 : Cfg := { F := 400, roots := [0], fl := ⟨false, false⟩ }
noncomputable def C_19 : Oracle := inlS Try.prog 19 Try.f19 F19 C_18 (C_18)
theorem C_19_snd : Snd Try.prog C_19 := inlS_snd Try.func19 (by kernel_rfl) C_18_snd C_18_snd

/- ravelin/serial.New -/
def F20 : Cfg := { F := 400, roots := [0], fl := ⟨false, false⟩ }
noncomputable def C_20 : Oracle := inlS Try.prog 20 Try.f20 F20 C_19 (C_19)
theorem C_20_snd : Snd Try.prog C_20 := inlS_snd Try.func20 (by kernel_rfl) C_19_snd C_19_snd

/- ravelin/serial.NewPower -/
def F21 : Cfg := { F := 400, roots := [0], fl := ⟨false, false⟩ }
noncomputable def C_21 : Oracle := inlS Try.prog 21 Try.f21 F21 C_20 (C_20)
theorem C_21_snd : Snd Try.prog C_21 := inlS_snd Try.func21 (by kernel_rfl) C_20_snd C_20_snd

/- ravelin/bus.New -/
def F6 : Cfg := { F := 400, roots := [0, 1, 2, 3, 4], fl := ⟨false, false⟩ }
noncomputable def C_6 : Oracle := inlS Try.prog 6 Try.f6 F6 C_21 (C_21)
theorem C_6_snd : Snd Try.prog C_6 := inlS_snd Try.func6 (by kernel_rfl) C_21_snd C_21_snd

/- (*ravelin/ram.Ram).Len -/
def F39 : Cfg := { F := 400, roots := [0, 1], fl := ⟨false, false⟩ }
noncomputable def C_39 : Oracle := quiS Try.prog 39 Try.f39 F39 C_6 (C_6)
theorem C_39_snd : Snd Try.prog C_39 := quiS_snd Try.func39 (by kernel_rfl) C_6_snd C_6_snd

/- (*ravelin/bus.Bus).regions -/
def F26 : Cfg := { F := 400, roots := [0, 1], fl := ⟨false, false⟩ }
noncomputable def C_26 : Oracle := inlS Try.prog 26 Try.f26 F26 C_39 (C_39)
theorem C_26_snd : Snd Try.prog C_26 := inlS_snd Try.func26 (by kernel_rfl) C_39_snd C_39_snd

/- (ravelin/bus.region).off -/
def F27 : Cfg := { F := 400, roots := [0, 1, 2, 3, 4, 5], fl := ⟨false, false⟩ }
noncomputable def C_27 : Oracle := inlS Try.prog 27 Try.f27 F27 C_26 (C_26)
theorem C_27_snd : Snd Try.prog C_27 := inlS_snd Try.func27 (by kernel_rfl) C_26_snd C_26_snd

/- an entry: are bytes in a region? -/
def FE_27_mbo : Cfg := { F := 400, roots := [0, 1, 2, 3, 4, 5, 6, 7, 8, 9, 10, 11], fl := ⟨false, false⟩, laws := [] }
noncomputable def C_27_mbo : Oracle := elC 27 mboDec mboCps mboU (C_27)
theorem nx_27_mbo_r : ∀ (n : Nat) (tg : List (List AV)) (m : Nat) (d : List (List AV)) (t2 : Nat) (bg : BitVec 64) (sz : BitVec 64) (pa : BitVec 64) (size : BitVec 64), inlineA Try.prog (C_26) (drawA Try.prog) FE_27_mbo Try.f27 (mboA (.r n tg m d t2 bg sz pa size)) (mboH (.r n tg m d t2 bg sz pa size)) (mboH (.r n tg m d t2 bg sz pa size)).length mboDecR = mboStep (.r n tg m d t2 bg sz pa size) := fun _ _ _ _ _ _ _ _ _ => by kernel_rfl
theorem nx_27_mbo_c : ∀ (c0 : BitVec 64) (c1 : BitVec 64) (c2 : BitVec 64) (t2 : Nat) (bg : BitVec 64) (sz : BitVec 64) (pa : BitVec 64) (size : BitVec 64), inlineA Try.prog (C_26) (drawA Try.prog) FE_27_mbo Try.f27 (mboA (.c c0 c1 c2 t2 bg sz pa size)) (mboH (.c c0 c1 c2 t2 bg sz pa size)) (mboH (.c c0 c1 c2 t2 bg sz pa size)).length mboDecR = mboStep (.c c0 c1 c2 t2 bg sz pa size) := fun _ _ _ _ _ _ _ _ => by kernel_rfl
theorem nx_27_mbo_p : ∀ (pr : List (List AV)) (p1 : BitVec 32) (p2 : BitVec 32) (en : List (List AV)) (th : List (List AV)) (t2 : Nat) (bg : BitVec 64) (sz : BitVec 64) (pa : BitVec 64) (size : BitVec 64), inlineA Try.prog (C_26) (drawA Try.prog) FE_27_mbo Try.f27 (mboA (.p pr p1 p2 en th t2 bg sz pa size)) (mboH (.p pr p1 p2 en th t2 bg sz pa size)) (mboH (.p pr p1 p2 en th t2 bg sz pa size)).length mboDecR = mboStep (.p pr p1 p2 en th t2 bg sz pa size) := fun _ _ _ _ _ _ _ _ _ _ => by kernel_rfl
theorem nx_27_mbo_u : ∀ (q : List (List AV)) (u1 : BitVec 64) (u2 : BitVec 64) (u3 : Bool) (t2 : Nat) (bg : BitVec 64) (sz : BitVec 64) (pa : BitVec 64) (size : BitVec 64), inlineA Try.prog (C_26) (drawA Try.prog) FE_27_mbo Try.f27 (mboA (.u q u1 u2 u3 t2 bg sz pa size)) (mboH (.u q u1 u2 u3 t2 bg sz pa size)) (mboH (.u q u1 u2 u3 t2 bg sz pa size)).length mboDecR = mboStep (.u q u1 u2 u3 t2 bg sz pa size) := fun _ _ _ _ _ _ _ _ _ => by kernel_rfl
theorem nx_27_mbo_w : ∀ (w : Bool) (t2 : Nat) (bg : BitVec 64) (sz : BitVec 64) (pa : BitVec 64) (size : BitVec 64), inlineA Try.prog (C_26) (drawA Try.prog) FE_27_mbo Try.f27 (mboA (.w w t2 bg sz pa size)) (mboH (.w w t2 bg sz pa size)) (mboH (.w w t2 bg sz pa size)).length mboDecR = mboStep (.w w t2 bg sz pa size) := fun _ _ _ _ _ _ => by kernel_rfl
noncomputable def EL_27_mbo : EL Try.prog (C_26) FE_27_mbo Try.f27 MboS MboR :=
  { eA := mboA, eH := mboH, dec := mboDec, dec_ok := mboDec_ok, enc := mboU, decR := mboDecR, decR_ok := mboDecR_ok, step := mboStep, hstep := fun x => match x with
      | .r n tg m d t2 bg sz pa size => nx_27_mbo_r n tg m d t2 bg sz pa size
      | .c c0 c1 c2 t2 bg sz pa size => nx_27_mbo_c c0 c1 c2 t2 bg sz pa size
      | .p pr p1 p2 en th t2 bg sz pa size => nx_27_mbo_p pr p1 p2 en th t2 bg sz pa size
      | .u q u1 u2 u3 t2 bg sz pa size => nx_27_mbo_u q u1 u2 u3 t2 bg sz pa size
      | .w w t2 bg sz pa size => nx_27_mbo_w w t2 bg sz pa size
  }
theorem C_27_mbo_snd : Snd Try.prog C_27_mbo := elC_snd EL_27_mbo (C_26_snd) Try.func27 (by kernel_rfl) (cps := mboCps) mboCps_ok (C_27_snd)

/- (*ravelin/bus.Bus).find -/
def F22 : Cfg := { F := 400, roots := [0, 1, 2, 3, 4, 5, 6, 7, 8], fl := ⟨false, false⟩ }
noncomputable def C_22 : Oracle := inlS Try.prog 22 Try.f22 F22 C_27_mbo (C_27_mbo)
theorem C_22_snd : Snd Try.prog C_22 := inlS_snd Try.func22 (by kernel_rfl) C_27_mbo_snd C_27_mbo_snd

/- (*ravelin/ram.Ram).part -/
def F40 : Cfg := { F := 400, roots := [0, 1, 2, 3, 4], fl := ⟨false, false⟩ }
noncomputable def C_40 : Oracle := inlS Try.prog 40 Try.f40 F40 C_22 (C_22)
theorem C_40_snd : Snd Try.prog C_40 := inlS_snd Try.func40 (by kernel_rfl) C_22_snd C_22_snd

/- (*ravelin/ram.Ram).number -/
def F65 : Cfg := { F := 400, roots := [0, 1, 2, 3, 4], fl := ⟨false, false⟩ }
noncomputable def C_65 : Oracle := inlS Try.prog 65 Try.f65 F65 C_40 (C_40)
theorem C_65_snd : Snd Try.prog C_65 := inlS_snd Try.func65 (by kernel_rfl) C_40_snd C_40_snd

/- a loop of ravelin/ram.put -/
noncomputable def FL_44_mpl : Cfg := { F := 400, roots := [0, 1, 6, 7], fl := ⟨false, false⟩, laws := [] }
noncomputable def LC_44_mpl : Code := loopIn 0 Try.f44
theorem nx_44_mpl_a : ∀ (m : Nat) (d : List (List AV)) (o : Nat) (n : Nat) (v : BitVec 64) (ln : BitVec 64) (ix : BitVec 64), codeA Try.prog (C_65) (drawA Try.prog FL_44_mpl.fl Try.f44.ntmps (C_65)) FL_44_mpl Try.f44.ntmps LC_44_mpl (tmOf [0, 1, 6, 7] (mplT (.a m d o n v ln ix))) (mplH (.a m d o n v ln ix)) (mplN (.a m d o n v ln ix)) (roundK 1 [0, 1, 6, 7] [0, 1, 6, 7] [] mplDec mplDecE) = mplStep (.a m d o n v ln ix) := fun _ _ _ _ _ _ _ => by kernel_rfl
noncomputable def LL_44_mpl : LL Try.prog (C_65) Try.f44.ntmps (drawA Try.prog FL_44_mpl.fl Try.f44.ntmps (C_65)) FL_44_mpl LC_44_mpl MplS MplE :=
  { N0 := 1, rts := [0, 1, 6, 7], kT := [0, 1, 6, 7], vT := mplT, hT := mplH, nT := mplN, dec := mplDec, dec_ok := mplDec_ok, kE := [], oE := mplO, vE := mplV, hE := mplG, nE := mplM, decE := mplDecE, decE_ok := mplDecE_ok, step := mplStep,
    hstep := fun x => match x with
      | .a m d o n v ln ix => nx_44_mpl_a m d o n v ln ix
  }
theorem hs_44_mpl : HSnd Try.prog Try.f44.ntmps (.block 0 (.loop LC_44_mpl)) (llH 1 [0, 1, 6, 7] mplDec 0 mplCps) :=
  LL.handler_snd LL_44_mpl (C_65_snd) (drawA_sound (C_65_snd)) (laws_nil) 0 (cps := mplCps) mplCps_ok

/- ravelin/ram.put -/
noncomputable def F44 : Cfg := { F := 400, roots := [0, 1, 2, 3, 4], fl := ⟨false, false⟩, laws := [(0, llH 1 [0, 1, 6, 7] mplDec 0 mplCps)] }
theorem fok_44 : FOK Try.prog Try.f44 F44 := fok_of (laws_cons (subs_one (b := .block 0 (.loop LC_44_mpl)) (by kernel_rfl) hs_44_mpl) (laws_nil))
noncomputable def C_44 : Oracle := inlS Try.prog 44 Try.f44 F44 C_65 (C_65)
theorem C_44_snd : Snd Try.prog C_44 := inlS_snd Try.func44 (by kernel_rfl) C_65_snd C_65_snd (hF := fok_44)

/- an entry: a number laid -/
noncomputable def FE_44_mpu : Cfg := { F := 400, roots := [0, 1, 2, 3, 4, 5, 6, 7, 8, 9, 10, 11], fl := ⟨false, false⟩, laws := [(0, llH 1 [0, 1, 6, 7] mplDec 0 mplCps)] }
noncomputable def C_44_mpu : Oracle := elC 44 mpuDec mpuCps mpuU (C_44)
theorem nx_44_mpu_a : ∀ (m : Nat) (d : List (List AV)) (o : Nat) (n : Nat) (v : BitVec 64), inlineA Try.prog (C_65) (drawA Try.prog) FE_44_mpu Try.f44 (mpuA (.a m d o n v)) (mpuH (.a m d o n v)) (mpuH (.a m d o n v)).length mpuDecR = mpuStep (.a m d o n v) := fun _ _ _ _ _ => by kernel_rfl
noncomputable def EL_44_mpu : EL Try.prog (C_65) FE_44_mpu Try.f44 MpuS MpuR :=
  { eA := mpuA, eH := mpuH, dec := mpuDec, dec_ok := mpuDec_ok, enc := mpuU, decR := mpuDecR, decR_ok := mpuDecR_ok, step := mpuStep, hstep := fun x => match x with
      | .a m d o n v => nx_44_mpu_a m d o n v
  }
theorem foke_44_mpu : FOK Try.prog Try.f44 FE_44_mpu := fok_of (laws_cons (subs_one (b := .block 0 (.loop LC_44_mpl)) (by kernel_rfl) hs_44_mpl) (laws_nil))
theorem C_44_mpu_snd : Snd Try.prog C_44_mpu := elC_snd EL_44_mpu (C_65_snd) Try.func44 (by kernel_rfl) (cps := mpuCps) mpuCps_ok (C_44_snd) (hF := foke_44_mpu)

/- (*ravelin/ram.Ram).tag -/
def F41 : Cfg := { F := 400, roots := [0, 1, 2, 3, 4], fl := ⟨false, false⟩ }
noncomputable def C_41 : Oracle := inlS Try.prog 41 Try.f41 F41 C_44_mpu (C_44_mpu)
theorem C_41_snd : Snd Try.prog C_41 := inlS_snd Try.func41 (by kernel_rfl) C_44_mpu_snd C_44_mpu_snd

/- (*ravelin/ram.Ram).Store -/
def F64 : Cfg := { F := 400, roots := [0, 1, 2, 3, 4, 5, 6, 7, 8, 9, 10], fl := ⟨false, false⟩ }
noncomputable def C_64 : Oracle := inlS Try.prog 64 Try.f64 F64 C_41 (C_41)
theorem C_64_snd : Snd Try.prog C_64 := inlS_snd Try.func64 (by kernel_rfl) C_41_snd C_41_snd

/- an entry: a store -/
def FE_64_mrs : Cfg := { F := 400, roots := [0, 1, 2, 3, 4, 5, 6, 7, 8, 9, 10, 11], fl := ⟨false, false⟩, laws := [] }
noncomputable def C_64_mrs : Oracle := elC 64 mrsDec mrsCps mrsU (C_64)
theorem nx_64_mrs_a : ∀ (n : Nat) (tg : List (List AV)) (m : Nat) (d : List (List AV)) (off : BitVec 64) (size : BitVec 64) (v : BitVec 64), inlineA Try.prog (C_41) (drawA Try.prog) FE_64_mrs Try.f64 (mrsA (.a n tg m d off size v)) (mrsH (.a n tg m d off size v)) (mrsH (.a n tg m d off size v)).length mrsDecR = mrsStep (.a n tg m d off size v) := fun _ _ _ _ _ _ _ => by kernel_rfl
noncomputable def EL_64_mrs : EL Try.prog (C_41) FE_64_mrs Try.f64 MrsS MrsR :=
  { eA := mrsA, eH := mrsH, dec := mrsDec, dec_ok := mrsDec_ok, enc := mrsU, decR := mrsDecR, decR_ok := mrsDecR_ok, step := mrsStep, hstep := fun x => match x with
      | .a n tg m d off size v => nx_64_mrs_a n tg m d off size v
  }
theorem C_64_mrs_snd : Snd Try.prog C_64_mrs := elC_snd EL_64_mrs (C_41_snd) Try.func64 (by kernel_rfl) (cps := mrsCps) mrsCps_ok (C_64_snd)

/- ravelin/clint.part -/
def F68 : Cfg := { F := 400, roots := [0, 1, 2, 3, 4], fl := ⟨false, false⟩ }
noncomputable def C_68 : Oracle := inlS Try.prog 68 Try.f68 F68 C_64_mrs (C_64_mrs)
theorem C_68_snd : Snd Try.prog C_68 := inlS_snd Try.func68 (by kernel_rfl) C_64_mrs_snd C_64_mrs_snd

/- sync/atomic.StoreUint64 -/
noncomputable def C_71 : Oracle := atStoreE64 71 (C_68)
theorem C_71_snd : Snd Try.prog C_71 := atStoreE64_snd Try.func71 (by kernel_rfl) (by kernel_rfl) (by kernel_rfl) (by kernel_rfl) (C_68_snd)

/- (*sync/atomic.Uint64).Store -/
def F70 : Cfg := { F := 400, roots := [0, 1], fl := ⟨false, false⟩ }
noncomputable def C_70 : Oracle := inlS Try.prog 70 Try.f70 F70 C_71 (C_71)
theorem C_70_snd : Snd Try.prog C_70 := inlS_snd Try.func70 (by kernel_rfl) C_71_snd C_71_snd

/- sync/atomic.LoadUint64 -/
noncomputable def C_47 : Oracle := atLoadE64 47 (C_70)
theorem C_47_snd : Snd Try.prog C_47 := atLoadE64_snd Try.func47 (by kernel_rfl) (by kernel_rfl) (by kernel_rfl) (by kernel_rfl) (C_70_snd)

/- (*sync/atomic.Uint64).Load -/
def F45 : Cfg := { F := 400, roots := [0, 1], fl := ⟨false, false⟩ }
noncomputable def C_45 : Oracle := quiS Try.prog 45 Try.f45 F45 C_47 (C_47)
theorem C_45_snd : Snd Try.prog C_45 := quiS_snd Try.func45 (by kernel_rfl) C_47_snd C_47_snd

/- (*ravelin/clint.Clint).Time -/
def F36 : Cfg := { F := 400, roots := [0, 1], fl := ⟨false, false⟩ }
noncomputable def C_36 : Oracle := quiS Try.prog 36 Try.f36 F36 C_45 (C_45)
theorem C_36_snd : Snd Try.prog C_36 := quiS_snd Try.func36 (by kernel_rfl) C_45_snd C_45_snd

/- (*ravelin/clint.Clint).Store$1 -/
def F69 : Cfg := { F := 400, roots := [0, 1], fl := ⟨false, false⟩ }
noncomputable def C_69 : Oracle := inlS Try.prog 69 Try.f69 F69 C_36 (C_36)
theorem C_69_snd : Snd Try.prog C_69 := inlS_snd Try.func69 (by kernel_rfl) C_36_snd C_36_snd

/- (*ravelin/clint.Clint).Store -/
def F67 : Cfg := { F := 400, roots := [0, 1, 2, 3, 4, 5, 6, 7, 8, 9], fl := ⟨false, false⟩ }
noncomputable def C_67 : Oracle := inlS Try.prog 67 Try.f67 F67 C_69 (C_69)
theorem C_67_snd : Snd Try.prog C_67 := inlS_snd Try.func67 (by kernel_rfl) C_69_snd C_69_snd

/- ravelin/plic.which -/
def F75 : Cfg := { F := 400, roots := [0, 1, 2, 3, 4], fl := ⟨false, false⟩ }
noncomputable def C_75 : Oracle := inlS Try.prog 75 Try.f75 F75 C_67 (C_67)
theorem C_75_snd : Snd Try.prog C_75 := inlS_snd Try.func75 (by kernel_rfl) C_67_snd C_67_snd

/- sync/atomic.AndUint32 -/
noncomputable def C_79 : Oracle := atUpdE 79 opAnd (C_75)
theorem C_79_snd : Snd Try.prog C_79 := atUpdE_snd (o := Op.intBits .and) Try.func79 (by kernel_rfl) (by kernel_rfl) (by kernel_rfl) (by kernel_rfl) opAnd_ok (C_75_snd)

/- (*sync/atomic.Uint32).And -/
def F77 : Cfg := { F := 400, roots := [0, 1, 2], fl := ⟨false, false⟩ }
noncomputable def C_77 : Oracle := inlS Try.prog 77 Try.f77 F77 C_79 (C_79)
theorem C_77_snd : Snd Try.prog C_77 := inlS_snd Try.func77 (by kernel_rfl) C_79_snd C_79_snd

/- (*ravelin/plic.Plic).Store -/
def F74 : Cfg := { F := 400, roots := [0, 1, 2, 3, 4, 5, 6, 7], fl := ⟨false, false⟩ }
noncomputable def C_74 : Oracle := inlS Try.prog 74 Try.f74 F74 C_77 (C_77)
theorem C_74_snd : Snd Try.prog C_74 := inlS_snd Try.func74 (by kernel_rfl) C_77_snd C_77_snd

/- ravelin/serial.there -/
def F84 : Cfg := { F := 400, roots := [0, 1, 2], fl := ⟨false, false⟩ }
noncomputable def C_84 : Oracle := inlS Try.prog 84 Try.f84 F84 C_74 (C_74)
theorem C_84_snd : Snd Try.prog C_84 := inlS_snd Try.func84 (by kernel_rfl) C_74_snd C_74_snd

/- (*ravelin/serial.Uart).Store -/
def F83 : Cfg := { F := 400, roots := [0, 1, 2, 3, 4], fl := ⟨false, false⟩ }
noncomputable def C_83 : Oracle := inlS Try.prog 83 Try.f83 F83 C_84 (C_84)
theorem C_83_snd : Snd Try.prog C_83 := inlS_snd Try.func83 (by kernel_rfl) C_84_snd C_84_snd

/- (*ravelin/serial.Power).Store -/
def F89 : Cfg := { F := 400, roots := [0, 1, 2, 3, 4], fl := ⟨false, false⟩ }
noncomputable def C_89 : Oracle := inlS Try.prog 89 Try.f89 F89 C_83 (C_83)
theorem C_89_snd : Snd Try.prog C_89 := inlS_snd Try.func89 (by kernel_rfl) C_83_snd C_83_snd

/- (*ravelin/bus.Bus).Store -/
def F8 : Cfg := { F := 400, roots := [0, 1, 2, 3, 4, 5, 6], fl := ⟨false, false⟩ }
noncomputable def C_8 : Oracle := inlS Try.prog 8 Try.f8 F8 C_89 (C_89)
theorem C_8_snd : Snd Try.prog C_8 := inlS_snd Try.func8 (by kernel_rfl) C_89_snd C_89_snd

/- a loop of ravelin/ram.get -/
noncomputable def FL_42_mgl : Cfg := { F := 400, roots := [2, 5, 6, 7], fl := ⟨false, false⟩, laws := [] }
noncomputable def LC_42_mgl : Code := loopIn 0 Try.f42
theorem nx_42_mgl_a : ∀ (rw : Bool) (m : Nat) (d : List (List AV)) (o : Nat) (n : Nat) (v : BitVec 64) (ln : BitVec 64) (ix : BitVec 64), codeA Try.prog (C_8) (drawA Try.prog FL_42_mgl.fl Try.f42.ntmps (C_8)) FL_42_mgl Try.f42.ntmps LC_42_mgl (tmOf [2, 5, 6, 7] (mglT (.a rw m d o n v ln ix))) (mglH (.a rw m d o n v ln ix)) (mglN (.a rw m d o n v ln ix)) (roundK 1 [2, 5, 6, 7] [2, 5, 6, 7] [2] mglDec mglDecE) = mglStep (.a rw m d o n v ln ix) := fun _ _ _ _ _ _ _ _ => by kernel_rfl
noncomputable def LL_42_mgl : LL Try.prog (C_8) Try.f42.ntmps (drawA Try.prog FL_42_mgl.fl Try.f42.ntmps (C_8)) FL_42_mgl LC_42_mgl MglS MglE :=
  { N0 := 1, rts := [2, 5, 6, 7], kT := [2, 5, 6, 7], vT := mglT, hT := mglH, nT := mglN, dec := mglDec, dec_ok := mglDec_ok, kE := [2], oE := mglO, vE := mglV, hE := mglG, nE := mglM, decE := mglDecE, decE_ok := mglDecE_ok, step := mglStep,
    hstep := fun x => match x with
      | .a rw m d o n v ln ix => nx_42_mgl_a rw m d o n v ln ix
  }
theorem hs_42_mgl : HSnd Try.prog Try.f42.ntmps (.block 0 (.loop LC_42_mgl)) (orH 1 (llH 1 [2, 5, 6, 7] mglDec 0 mglCps) (selfH Try.prog (C_8) (drawA Try.prog FL_42_mgl.fl Try.f42.ntmps (C_8)) FL_42_mgl Try.f42.ntmps (.block 0 (.loop LC_42_mgl)))) :=
  orH_snd (LL.handler_snd LL_42_mgl (C_8_snd) (drawA_sound (C_8_snd)) (laws_nil) 0 (cps := mglCps) mglCps_ok) (selfH_snd (C_8_snd) (drawA_sound (C_8_snd)) (laws_nil))

/- ravelin/ram.get -/
noncomputable def F42 : Cfg := { F := 400, roots := [0, 1, 2, 3, 4], fl := ⟨false, false⟩, laws := [(0, orH 1 (llH 1 [2, 5, 6, 7] mglDec 0 mglCps) (selfH Try.prog (C_8) (drawA Try.prog FL_42_mgl.fl Try.f42.ntmps (C_8)) FL_42_mgl Try.f42.ntmps (.block 0 (.loop LC_42_mgl))))] }
theorem fok_42 : FOK Try.prog Try.f42 F42 := fok_of (laws_cons (subs_one (b := .block 0 (.loop LC_42_mgl)) (by kernel_rfl) hs_42_mgl) (laws_nil))
noncomputable def C_42 : Oracle := inlS Try.prog 42 Try.f42 F42 C_8 (C_8)
theorem C_42_snd : Snd Try.prog C_42 := inlS_snd Try.func42 (by kernel_rfl) C_8_snd C_8_snd (hF := fok_42)

/- an entry: a number of bytes -/
noncomputable def FE_42_mge : Cfg := { F := 400, roots := [0, 1, 2, 3, 4, 5, 6, 7, 8, 9, 10, 11], fl := ⟨false, false⟩, laws := [(0, orH 1 (llH 1 [2, 5, 6, 7] mglDec 0 mglCps) (selfH Try.prog (C_8) (drawA Try.prog FL_42_mgl.fl Try.f42.ntmps (C_8)) FL_42_mgl Try.f42.ntmps (.block 0 (.loop LC_42_mgl))))] }
noncomputable def C_42_mge : Oracle := elC 42 mgeDec mgeCps mgeU (C_42)
theorem nx_42_mge_s : ∀ (rw : Bool) (m : Nat) (d : List (List AV)) (o : Nat) (n : Nat), inlineA Try.prog (C_8) (drawA Try.prog) FE_42_mge Try.f42 (mgeA (.s rw m d o n)) (mgeH (.s rw m d o n)) (mgeH (.s rw m d o n)).length mgeDecR = mgeStep (.s rw m d o n) := fun _ _ _ _ _ => by kernel_rfl
theorem nx_42_mge_z : inlineA Try.prog (C_8) (drawA Try.prog) FE_42_mge Try.f42 (mgeA (.z )) (mgeH (.z )) (mgeH (.z )).length mgeDecR = mgeStep (.z ) := by kernel_rfl
noncomputable def EL_42_mge : EL Try.prog (C_8) FE_42_mge Try.f42 MgeS MgeR :=
  { eA := mgeA, eH := mgeH, dec := mgeDec, dec_ok := mgeDec_ok, enc := mgeU, decR := mgeDecR, decR_ok := mgeDecR_ok, step := mgeStep, hstep := fun x => match x with
      | .s rw m d o n => nx_42_mge_s rw m d o n
      | .z => nx_42_mge_z 
  }
theorem foke_42_mge : FOK Try.prog Try.f42 FE_42_mge := fok_of (laws_cons (subs_one (b := .block 0 (.loop LC_42_mgl)) (by kernel_rfl) hs_42_mgl) (laws_nil))
theorem C_42_mge_snd : Snd Try.prog C_42_mge := elC_snd EL_42_mge (C_8_snd) Try.func42 (by kernel_rfl) (cps := mgeCps) mgeCps_ok (C_42_snd) (hF := foke_42_mge)

/- (*ravelin/ram.Ram).Load -/
def F63 : Cfg := { F := 400, roots := [0, 1, 2, 3, 4, 5, 6], fl := ⟨false, false⟩ }
noncomputable def C_63 : Oracle := inlS Try.prog 63 Try.f63 F63 C_42_mge (C_42_mge)
theorem C_63_snd : Snd Try.prog C_63 := inlS_snd Try.func63 (by kernel_rfl) C_42_mge_snd C_42_mge_snd

/- an entry: a load -/
def FE_63_mrl : Cfg := { F := 400, roots := [0, 1, 2, 3, 4, 5, 6, 7, 8, 9, 10, 11], fl := ⟨false, false⟩, laws := [] }
noncomputable def C_63_mrl : Oracle := elC 63 mrlDec mrlCps mrlU (C_63)
theorem nx_63_mrl_a : ∀ (n : Nat) (tg : List (List AV)) (m : Nat) (d : List (List AV)) (off : BitVec 64) (size : BitVec 64), inlineA Try.prog (C_42_mge) (drawA Try.prog) FE_63_mrl Try.f63 (mrlA (.a n tg m d off size)) (mrlH (.a n tg m d off size)) (mrlH (.a n tg m d off size)).length mrlDecR = mrlStep (.a n tg m d off size) := fun _ _ _ _ _ _ => by kernel_rfl
noncomputable def EL_63_mrl : EL Try.prog (C_42_mge) FE_63_mrl Try.f63 MrlS MrlR :=
  { eA := mrlA, eH := mrlH, dec := mrlDec, dec_ok := mrlDec_ok, enc := mrlU, decR := mrlDecR, decR_ok := mrlDecR_ok, step := mrlStep, hstep := fun x => match x with
      | .a n tg m d off size => nx_63_mrl_a n tg m d off size
  }
theorem C_63_mrl_snd : Snd Try.prog C_63_mrl := elC_snd EL_63_mrl (C_42_mge_snd) Try.func63 (by kernel_rfl) (cps := mrlCps) mrlCps_ok (C_63_snd)

/- (*ravelin/clint.Clint).Load -/
def F66 : Cfg := { F := 400, roots := [0, 1, 2, 3, 4, 5, 6, 7, 8], fl := ⟨false, false⟩ }
noncomputable def C_66 : Oracle := inlS Try.prog 66 Try.f66 F66 C_63_mrl (C_63_mrl)
theorem C_66_snd : Snd Try.prog C_66 := inlS_snd Try.func66 (by kernel_rfl) C_63_mrl_snd C_63_mrl_snd

/- sync/atomic.LoadUint32 -/
noncomputable def C_46 : Oracle := atLoadE 46 (C_66)
theorem C_46_snd : Snd Try.prog C_46 := atLoadE_snd Try.func46 (by kernel_rfl) (by kernel_rfl) (by kernel_rfl) (by kernel_rfl) (C_66_snd)

/- (*sync/atomic.Uint32).Load -/
def F38 : Cfg := { F := 400, roots := [0, 1], fl := ⟨false, false⟩ }
noncomputable def C_38 : Oracle := quiS Try.prog 38 Try.f38 F38 C_46 (C_46)
theorem C_38_snd : Snd Try.prog C_38 := quiS_snd Try.func38 (by kernel_rfl) C_46_snd C_46_snd

/- (*ravelin/plic.Plic).best -/
def F37 : Cfg := { F := 400, roots := [0, 1, 2, 3, 4, 5], fl := ⟨false, false⟩ }
noncomputable def C_37 : Oracle := quiS Try.prog 37 Try.f37 F37 C_38 (C_38)
theorem C_37_snd : Snd Try.prog C_37 := quiS_snd Try.func37 (by kernel_rfl) C_38_snd C_38_snd

/- sync/atomic.OrUint32 -/
noncomputable def C_80 : Oracle := atUpdE 80 opOr (C_37)
theorem C_80_snd : Snd Try.prog C_80 := atUpdE_snd (o := Op.intBits .or) Try.func80 (by kernel_rfl) (by kernel_rfl) (by kernel_rfl) (by kernel_rfl) opOr_ok (C_37_snd)

/- (*sync/atomic.Uint32).Or -/
def F78 : Cfg := { F := 400, roots := [0, 1, 2], fl := ⟨false, false⟩ }
noncomputable def C_78 : Oracle := inlS Try.prog 78 Try.f78 F78 C_80 (C_80)
theorem C_78_snd : Snd Try.prog C_78 := inlS_snd Try.func78 (by kernel_rfl) C_80_snd C_80_snd

/- (*ravelin/plic.Plic).claim -/
def F76 : Cfg := { F := 400, roots := [0, 1, 2, 3], fl := ⟨false, false⟩ }
noncomputable def C_76 : Oracle := inlS Try.prog 76 Try.f76 F76 C_78 (C_78)
theorem C_76_snd : Snd Try.prog C_76 := inlS_snd Try.func76 (by kernel_rfl) C_78_snd C_78_snd

/- (*ravelin/plic.Plic).Load -/
def F73 : Cfg := { F := 400, roots := [0, 1, 2, 3, 4, 5, 6, 7], fl := ⟨false, false⟩ }
noncomputable def C_73 : Oracle := inlS Try.prog 73 Try.f73 F73 C_76 (C_76)
theorem C_73_snd : Snd Try.prog C_73 := inlS_snd Try.func73 (by kernel_rfl) C_76_snd C_76_snd

/- (*ravelin/serial.queue).next -/
def F85 : Cfg := { F := 400, roots := [0, 1, 2], fl := ⟨false, false⟩ }
noncomputable def C_85 : Oracle := inlS Try.prog 85 Try.f85 F85 C_73 (C_73)
theorem C_85_snd : Snd Try.prog C_85 := inlS_snd Try.func85 (by kernel_rfl) C_73_snd C_73_snd

/- ravelin/serial.one -/
def F86 : Cfg := { F := 400, roots := [0, 1], fl := ⟨false, false⟩ }
noncomputable def C_86 : Oracle := inlS Try.prog 86 Try.f86 F86 C_85 (C_85)
theorem C_86_snd : Snd Try.prog C_86 := inlS_snd Try.func86 (by kernel_rfl) C_85_snd C_85_snd

/- (*ravelin/serial.queue).Waits -/
def F87 : Cfg := { F := 400, roots := [0, 1], fl := ⟨false, false⟩ }
noncomputable def C_87 : Oracle := inlS Try.prog 87 Try.f87 F87 C_86 (C_86)
theorem C_87_snd : Snd Try.prog C_87 := inlS_snd Try.func87 (by kernel_rfl) C_86_snd C_86_snd

/- (*ravelin/serial.Uart).Load -/
def F81 : Cfg := { F := 400, roots := [0, 1, 2, 3, 4], fl := ⟨false, false⟩ }
noncomputable def C_81 : Oracle := inlS Try.prog 81 Try.f81 F81 C_87 (C_87)
theorem C_81_snd : Snd Try.prog C_81 := inlS_snd Try.func81 (by kernel_rfl) C_87_snd C_87_snd

/- (*ravelin/serial.Power).Load -/
def F88 : Cfg := { F := 400, roots := [0, 1, 2, 3, 4], fl := ⟨false, false⟩ }
noncomputable def C_88 : Oracle := inlS Try.prog 88 Try.f88 F88 C_81 (C_81)
theorem C_88_snd : Snd Try.prog C_88 := inlS_snd Try.func88 (by kernel_rfl) C_81_snd C_81_snd

/- (*ravelin/bus.Bus).Load -/
def F7 : Cfg := { F := 400, roots := [0, 1, 2, 3, 4, 5, 6], fl := ⟨false, false⟩ }
noncomputable def C_7 : Oracle := inlS Try.prog 7 Try.f7 F7 C_88 (C_88)
theorem C_7_snd : Snd Try.prog C_7 := inlS_snd Try.func7 (by kernel_rfl) C_88_snd C_88_snd

/- (*ravelin/clint.Clint).Soft -/
def F23 : Cfg := { F := 400, roots := [0, 1], fl := ⟨false, false⟩ }
noncomputable def C_23 : Oracle := quiS Try.prog 23 Try.f23 F23 C_7 (C_7)
theorem C_23_snd : Snd Try.prog C_23 := quiS_snd Try.func23 (by kernel_rfl) C_7_snd C_7_snd

/- (*ravelin/clint.Clint).Timer -/
def F24 : Cfg := { F := 400, roots := [0, 1], fl := ⟨false, false⟩ }
noncomputable def C_24 : Oracle := quiS Try.prog 24 Try.f24 F24 C_23 (C_23)
theorem C_24_snd : Snd Try.prog C_24 := quiS_snd Try.func24 (by kernel_rfl) C_23_snd C_23_snd

/- (*ravelin/plic.Plic).Pending -/
def F25 : Cfg := { F := 400, roots := [0, 1, 2], fl := ⟨false, false⟩ }
noncomputable def C_25 : Oracle := quiS Try.prog 25 Try.f25 F25 C_24 (C_24)
theorem C_25_snd : Snd Try.prog C_25 := quiS_snd Try.func25 (by kernel_rfl) C_24_snd C_24_snd

/- (*ravelin/bus.Bus).Lines -/
def F9 : Cfg := { F := 400, roots := [0, 1, 2, 3, 4], fl := ⟨false, false⟩ }
noncomputable def C_9 : Oracle := quiS Try.prog 9 Try.f9 F9 C_25 (C_25)
theorem C_9_snd : Snd Try.prog C_9 := quiS_snd Try.func9 (by kernel_rfl) C_25_snd C_25_snd

/- ravelin/ravelinlaw15.known -/
def F12 : Cfg := { F := 400, roots := [0, 1, 2, 3, 4, 5, 6], fl := ⟨false, false⟩ }
theorem run_12 : pureRun Try.prog C_9 F12 Try.f12 [] = t_l15_known  :=  by kernel_rfl
theorem snd_12 : Snd Try.prog (C_9) := C_9_snd

end Go.Proofs.Ytkniemlelilbdaa.K

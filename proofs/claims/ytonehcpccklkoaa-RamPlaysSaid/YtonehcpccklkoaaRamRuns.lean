import Derived.Test.YtonehcpccklkoaaSxW
import Derived.Test.YtonehcpccklkoaaSxY
import Derived.Test.YtonehcpccklkoaaSxLen2
import Derived.Test.YtonehcpccklkoaaSxEC
import Derived.Test.YtonehcpccklkoaaSxX
import Derived.Test.YtonehcpccklkoaaSxSR
import Derived.Test.YtonehcpccklkoaaVa03
import Derived.Test.YtonehcpccklkoaaVa11
import Derived.Test.YtonehcpccklkoaaVl11a
import Derived.Test.YtonehcpccklkoaaPlRam
import Derived.Test.YtonehcpccklkoaaVl11b
import Derived.Test.YtonehcpccklkoaaPlRam2
import Derived.Test.YtonehcpccklkoaaVl11c
import Derived.Test.YtonehcpccklkoaaPlRam3
import Derived.Test.YtonehcpccklkoaaVl11d
import Derived.Test.YtonehcpccklkoaaPlRamT
import Derived.Test.YtonehcpccklkoaaVl11e
import Derived.Test.YtonehcpccklkoaaPlRam4
import Derived.Test.YtonehcpccklkoaaVl11s
import Derived.Test.YtonehcpccklkoaaPlRamS
import Derived.Test.YtonehcpccklkoaaVl11t
import Derived.Test.YtonehcpccklkoaaPlRamU
import Derived.Test.YtonehcpccklkoaaVl11f
import Derived.Test.YtonehcpccklkoaaPlRamX
import Derived.Test.YtonehcpccklkoaaVl11g
import Derived.Test.YtonehcpccklkoaaPlRamY
import Derived.Test.YtonehcpccklkoaaVl11h
import Derived.Test.YtonehcpccklkoaaPlRamZ
import Derived.Test.YtonehcpccklkoaaVl11p
import Derived.Test.YtonehcpccklkoaaPlRamP
import Derived.Test.YtonehcpccklkoaaVl11q
import Derived.Test.YtonehcpccklkoaaPlRamPB
import Derived.Test.YtonehcpccklkoaaVm11
import Derived.KernelRfl
import Derived.Test.YtonehcpccklkoaaProg
set_option linter.unusedSimpArgs false
set_option linter.unusedVariables false
set_option linter.unnecessarySimpa false
/- What the functions of the seat answer. -/
namespace Go.Proofs.Ytonehcpccklkoaa
open Go Go.Sx Go.Proofs
set_option maxRecDepth 100000
set_option maxHeartbeats 4000000

/- ravelin/ram.New -/
def F8 : Cfg := { F := 400, roots := [0, 1, 2], fl := ⟨false, false⟩ }
noncomputable def C_8 : Oracle := inlS Try.prog 8 Try.f8 F8 nothing (nothing)
theorem C_8_snd : Snd Try.prog C_8 := inlS_snd Try.func8 (by kernel_rfl) nothing_snd nothing_snd

/- ravelin/ravelinref11.New -/
def F17 : Cfg := { F := 400, roots := [0, 1, 2], fl := ⟨false, false⟩ }
noncomputable def C_17 : Oracle := inlS Try.prog 17 Try.f17 F17 C_8 (C_8)
theorem C_17_snd : Snd Try.prog C_17 := inlS_snd Try.func17 (by kernel_rfl) C_8_snd C_8_snd

/- (*ravelin/ram.Ram).part -/
def F23 : Cfg := { F := 400, roots := [0, 1, 2, 3, 4], fl := ⟨false, false⟩ }
noncomputable def C_23 : Oracle := inlS Try.prog 23 Try.f23 F23 C_17 (C_17)
theorem C_23_snd : Snd Try.prog C_23 := inlS_snd Try.func23 (by kernel_rfl) C_17_snd C_17_snd

/- (*ravelin/ram.Ram).number -/
def F26 : Cfg := { F := 400, roots := [0, 1, 2, 3, 4], fl := ⟨false, false⟩ }
noncomputable def C_26 : Oracle := inlS Try.prog 26 Try.f26 F26 C_23 (C_23)
theorem C_26_snd : Snd Try.prog C_26 := inlS_snd Try.func26 (by kernel_rfl) C_23_snd C_23_snd

/- a loop of ravelin/ram.put -/
noncomputable def FL_24_mpl : Cfg := { F := 400, roots := [0, 1, 6, 7], fl := ⟨false, false⟩, laws := [] }
noncomputable def LC_24_mpl : Code := loopIn 0 Try.f24
theorem nx_24_mpl_a : ∀ (m : Nat) (d : List (List AV)) (o : Nat) (n : Nat) (v : BitVec 64) (ln : BitVec 64) (ix : BitVec 64), codeA Try.prog (C_26) (drawA Try.prog FL_24_mpl.fl Try.f24.ntmps (C_26)) FL_24_mpl Try.f24.ntmps LC_24_mpl (tmOf [0, 1, 6, 7] (mplT (.a m d o n v ln ix))) (mplH (.a m d o n v ln ix)) (mplN (.a m d o n v ln ix)) (roundK 1 [0, 1, 6, 7] [0, 1, 6, 7] [] mplDec mplDecE) = mplStep (.a m d o n v ln ix) := fun _ _ _ _ _ _ _ => by kernel_rfl
noncomputable def LL_24_mpl : LL Try.prog (C_26) Try.f24.ntmps (drawA Try.prog FL_24_mpl.fl Try.f24.ntmps (C_26)) FL_24_mpl LC_24_mpl MplS MplE :=
  { N0 := 1, rts := [0, 1, 6, 7], kT := [0, 1, 6, 7], vT := mplT, hT := mplH, nT := mplN, dec := mplDec, dec_ok := mplDec_ok, kE := [], oE := mplO, vE := mplV, hE := mplG, nE := mplM, decE := mplDecE, decE_ok := mplDecE_ok, step := mplStep,
    hstep := fun x => match x with
      | .a m d o n v ln ix => nx_24_mpl_a m d o n v ln ix
  }
theorem hs_24_mpl : HSnd Try.prog Try.f24.ntmps (.block 0 (.loop LC_24_mpl)) (llH 1 [0, 1, 6, 7] mplDec 0 mplCps) :=
  LL.handler_snd LL_24_mpl (C_26_snd) (drawA_sound (C_26_snd)) (laws_nil) 0 (cps := mplCps) mplCps_ok

/- ravelin/ram.put -/
noncomputable def F24 : Cfg := { F := 400, roots := [0, 1, 2, 3, 4], fl := ⟨false, false⟩, laws := [(0, llH 1 [0, 1, 6, 7] mplDec 0 mplCps)] }
theorem fok_24 : FOK Try.prog Try.f24 F24 := fok_of (laws_cons (subs_one (b := .block 0 (.loop LC_24_mpl)) (by kernel_rfl) hs_24_mpl) (laws_nil))
noncomputable def C_24 : Oracle := inlS Try.prog 24 Try.f24 F24 C_26 (C_26)
theorem C_24_snd : Snd Try.prog C_24 := inlS_snd Try.func24 (by kernel_rfl) C_26_snd C_26_snd (hF := fok_24)

/- an entry: a number laid -/
noncomputable def FE_24_mpu : Cfg := { F := 400, roots := [0, 1, 2, 3, 4, 5, 6, 7, 8, 9, 10, 11], fl := ⟨false, false⟩, laws := [(0, llH 1 [0, 1, 6, 7] mplDec 0 mplCps)] }
noncomputable def C_24_mpu : Oracle := elC 24 mpuDec mpuCps mpuU (C_24)
theorem nx_24_mpu_a : ∀ (m : Nat) (d : List (List AV)) (o : Nat) (n : Nat) (v : BitVec 64), inlineA Try.prog (C_26) (drawA Try.prog) FE_24_mpu Try.f24 (mpuA (.a m d o n v)) (mpuH (.a m d o n v)) (mpuH (.a m d o n v)).length mpuDecR = mpuStep (.a m d o n v) := fun _ _ _ _ _ => by kernel_rfl
noncomputable def EL_24_mpu : EL Try.prog (C_26) FE_24_mpu Try.f24 MpuS MpuR :=
  { eA := mpuA, eH := mpuH, dec := mpuDec, dec_ok := mpuDec_ok, enc := mpuU, decR := mpuDecR, decR_ok := mpuDecR_ok, step := mpuStep, hstep := fun x => match x with
      | .a m d o n v => nx_24_mpu_a m d o n v
  }
theorem foke_24_mpu : FOK Try.prog Try.f24 FE_24_mpu := fok_of (laws_cons (subs_one (b := .block 0 (.loop LC_24_mpl)) (by kernel_rfl) hs_24_mpl) (laws_nil))
theorem C_24_mpu_snd : Snd Try.prog C_24_mpu := elC_snd EL_24_mpu (C_26_snd) Try.func24 (by kernel_rfl) (cps := mpuCps) mpuCps_ok (C_24_snd) (hF := foke_24_mpu)

/- (*ravelin/ram.Ram).tag -/
def F25 : Cfg := { F := 400, roots := [0, 1, 2, 3, 4], fl := ⟨false, false⟩ }
noncomputable def C_25 : Oracle := inlS Try.prog 25 Try.f25 F25 C_24_mpu (C_24_mpu)
theorem C_25_snd : Snd Try.prog C_25 := inlS_snd Try.func25 (by kernel_rfl) C_24_mpu_snd C_24_mpu_snd

/- (*ravelin/ram.Ram).Store -/
def F11 : Cfg := { F := 400, roots := [0, 1, 2, 3, 4, 5, 6, 7, 8, 9, 10], fl := ⟨false, false⟩ }
noncomputable def C_11 : Oracle := inlS Try.prog 11 Try.f11 F11 C_25 (C_25)
theorem C_11_snd : Snd Try.prog C_11 := inlS_snd Try.func11 (by kernel_rfl) C_25_snd C_25_snd

/- an entry: a store -/
def FE_11_mrs : Cfg := { F := 400, roots := [0, 1, 2, 3, 4, 5, 6, 7, 8, 9, 10, 11], fl := ⟨false, false⟩, laws := [] }
noncomputable def C_11_mrs : Oracle := elC 11 mrsDec mrsCps mrsU (C_11)
theorem nx_11_mrs_a : ∀ (n : Nat) (tg : List (List AV)) (m : Nat) (d : List (List AV)) (off : BitVec 64) (size : BitVec 64) (v : BitVec 64), inlineA Try.prog (C_25) (drawA Try.prog) FE_11_mrs Try.f11 (mrsA (.a n tg m d off size v)) (mrsH (.a n tg m d off size v)) (mrsH (.a n tg m d off size v)).length mrsDecR = mrsStep (.a n tg m d off size v) := fun _ _ _ _ _ _ _ => by kernel_rfl
noncomputable def EL_11_mrs : EL Try.prog (C_25) FE_11_mrs Try.f11 MrsS MrsR :=
  { eA := mrsA, eH := mrsH, dec := mrsDec, dec_ok := mrsDec_ok, enc := mrsU, decR := mrsDecR, decR_ok := mrsDecR_ok, step := mrsStep, hstep := fun x => match x with
      | .a n tg m d off size v => nx_11_mrs_a n tg m d off size v
  }
theorem C_11_mrs_snd : Snd Try.prog C_11_mrs := elC_snd EL_11_mrs (C_25_snd) Try.func11 (by kernel_rfl) (cps := mrsCps) mrsCps_ok (C_11_snd)

/- (*ravelin/ram.Ram).StoreCap -/
def F10 : Cfg := { F := 400, roots := [0, 1, 2, 3, 4, 5, 6, 7, 8, 9], fl := ⟨false, false⟩ }
noncomputable def C_10 : Oracle := inlS Try.prog 10 Try.f10 F10 C_11_mrs (C_11_mrs)
theorem C_10_snd : Snd Try.prog C_10 := inlS_snd Try.func10 (by kernel_rfl) C_11_mrs_snd C_11_mrs_snd

/- an entry: a granule laid -/
def FE_10_mrt : Cfg := { F := 400, roots := [0, 1, 2, 3, 4, 5, 6, 7, 8, 9, 10, 11], fl := ⟨false, false⟩, laws := [] }
noncomputable def C_10_mrt : Oracle := elC 10 mrtDec mrtCps mrtU (C_10)
theorem nx_10_mrt_a : ∀ (n : Nat) (tg : List (List AV)) (m : Nat) (d : List (List AV)) (off : BitVec 64) (t : Bool) (x : BitVec 64) (y : BitVec 64), inlineA Try.prog (C_11_mrs) (drawA Try.prog) FE_10_mrt Try.f10 (mrtA (.a n tg m d off t x y)) (mrtH (.a n tg m d off t x y)) (mrtH (.a n tg m d off t x y)).length mrtDecR = mrtStep (.a n tg m d off t x y) := fun _ _ _ _ _ _ _ _ => by kernel_rfl
noncomputable def EL_10_mrt : EL Try.prog (C_11_mrs) FE_10_mrt Try.f10 MrtS MrtR :=
  { eA := mrtA, eH := mrtH, dec := mrtDec, dec_ok := mrtDec_ok, enc := mrtU, decR := mrtDecR, decR_ok := mrtDecR_ok, step := mrtStep, hstep := fun x => match x with
      | .a n tg m d off t x y => nx_10_mrt_a n tg m d off t x y
  }
theorem C_10_mrt_snd : Snd Try.prog C_10_mrt := elC_snd EL_10_mrt (C_11_mrs_snd) Try.func10 (by kernel_rfl) (cps := mrtCps) mrtCps_ok (C_10_snd)

/- a loop of ravelin/ram.get -/
noncomputable def FL_27_mgl : Cfg := { F := 400, roots := [2, 5, 6, 7], fl := ⟨false, false⟩, laws := [] }
noncomputable def LC_27_mgl : Code := loopIn 0 Try.f27
theorem nx_27_mgl_a : ∀ (rw : Bool) (m : Nat) (d : List (List AV)) (o : Nat) (n : Nat) (v : BitVec 64) (ln : BitVec 64) (ix : BitVec 64), codeA Try.prog (C_10_mrt) (drawA Try.prog FL_27_mgl.fl Try.f27.ntmps (C_10_mrt)) FL_27_mgl Try.f27.ntmps LC_27_mgl (tmOf [2, 5, 6, 7] (mglT (.a rw m d o n v ln ix))) (mglH (.a rw m d o n v ln ix)) (mglN (.a rw m d o n v ln ix)) (roundK 1 [2, 5, 6, 7] [2, 5, 6, 7] [2] mglDec mglDecE) = mglStep (.a rw m d o n v ln ix) := fun _ _ _ _ _ _ _ _ => by kernel_rfl
noncomputable def LL_27_mgl : LL Try.prog (C_10_mrt) Try.f27.ntmps (drawA Try.prog FL_27_mgl.fl Try.f27.ntmps (C_10_mrt)) FL_27_mgl LC_27_mgl MglS MglE :=
  { N0 := 1, rts := [2, 5, 6, 7], kT := [2, 5, 6, 7], vT := mglT, hT := mglH, nT := mglN, dec := mglDec, dec_ok := mglDec_ok, kE := [2], oE := mglO, vE := mglV, hE := mglG, nE := mglM, decE := mglDecE, decE_ok := mglDecE_ok, step := mglStep,
    hstep := fun x => match x with
      | .a rw m d o n v ln ix => nx_27_mgl_a rw m d o n v ln ix
  }
theorem hs_27_mgl : HSnd Try.prog Try.f27.ntmps (.block 0 (.loop LC_27_mgl)) (orH 1 (llH 1 [2, 5, 6, 7] mglDec 0 mglCps) (selfH Try.prog (C_10_mrt) (drawA Try.prog FL_27_mgl.fl Try.f27.ntmps (C_10_mrt)) FL_27_mgl Try.f27.ntmps (.block 0 (.loop LC_27_mgl)))) :=
  orH_snd (LL.handler_snd LL_27_mgl (C_10_mrt_snd) (drawA_sound (C_10_mrt_snd)) (laws_nil) 0 (cps := mglCps) mglCps_ok) (selfH_snd (C_10_mrt_snd) (drawA_sound (C_10_mrt_snd)) (laws_nil))

/- ravelin/ram.get -/
noncomputable def F27 : Cfg := { F := 400, roots := [0, 1, 2, 3, 4], fl := ⟨false, false⟩, laws := [(0, orH 1 (llH 1 [2, 5, 6, 7] mglDec 0 mglCps) (selfH Try.prog (C_10_mrt) (drawA Try.prog FL_27_mgl.fl Try.f27.ntmps (C_10_mrt)) FL_27_mgl Try.f27.ntmps (.block 0 (.loop LC_27_mgl))))] }
theorem fok_27 : FOK Try.prog Try.f27 F27 := fok_of (laws_cons (subs_one (b := .block 0 (.loop LC_27_mgl)) (by kernel_rfl) hs_27_mgl) (laws_nil))
noncomputable def C_27 : Oracle := inlS Try.prog 27 Try.f27 F27 C_10_mrt (C_10_mrt)
theorem C_27_snd : Snd Try.prog C_27 := inlS_snd Try.func27 (by kernel_rfl) C_10_mrt_snd C_10_mrt_snd (hF := fok_27)

/- an entry: a number of bytes -/
noncomputable def FE_27_mge : Cfg := { F := 400, roots := [0, 1, 2, 3, 4, 5, 6, 7, 8, 9, 10, 11], fl := ⟨false, false⟩, laws := [(0, orH 1 (llH 1 [2, 5, 6, 7] mglDec 0 mglCps) (selfH Try.prog (C_10_mrt) (drawA Try.prog FL_27_mgl.fl Try.f27.ntmps (C_10_mrt)) FL_27_mgl Try.f27.ntmps (.block 0 (.loop LC_27_mgl))))] }
noncomputable def C_27_mge : Oracle := elC 27 mgeDec mgeCps mgeU (C_27)
theorem nx_27_mge_s : ∀ (rw : Bool) (m : Nat) (d : List (List AV)) (o : Nat) (n : Nat), inlineA Try.prog (C_10_mrt) (drawA Try.prog) FE_27_mge Try.f27 (mgeA (.s rw m d o n)) (mgeH (.s rw m d o n)) (mgeH (.s rw m d o n)).length mgeDecR = mgeStep (.s rw m d o n) := fun _ _ _ _ _ => by kernel_rfl
theorem nx_27_mge_z : inlineA Try.prog (C_10_mrt) (drawA Try.prog) FE_27_mge Try.f27 (mgeA (.z )) (mgeH (.z )) (mgeH (.z )).length mgeDecR = mgeStep (.z ) := by kernel_rfl
noncomputable def EL_27_mge : EL Try.prog (C_10_mrt) FE_27_mge Try.f27 MgeS MgeR :=
  { eA := mgeA, eH := mgeH, dec := mgeDec, dec_ok := mgeDec_ok, enc := mgeU, decR := mgeDecR, decR_ok := mgeDecR_ok, step := mgeStep, hstep := fun x => match x with
      | .s rw m d o n => nx_27_mge_s rw m d o n
      | .z => nx_27_mge_z 
  }
theorem foke_27_mge : FOK Try.prog Try.f27 FE_27_mge := fok_of (laws_cons (subs_one (b := .block 0 (.loop LC_27_mgl)) (by kernel_rfl) hs_27_mgl) (laws_nil))
theorem C_27_mge_snd : Snd Try.prog C_27_mge := elC_snd EL_27_mge (C_10_mrt_snd) Try.func27 (by kernel_rfl) (cps := mgeCps) mgeCps_ok (C_27_snd) (hF := foke_27_mge)

/- (*ravelin/ram.Ram).Load -/
def F16 : Cfg := { F := 400, roots := [0, 1, 2, 3, 4, 5, 6], fl := ⟨false, false⟩ }
noncomputable def C_16 : Oracle := inlS Try.prog 16 Try.f16 F16 C_27_mge (C_27_mge)
theorem C_16_snd : Snd Try.prog C_16 := inlS_snd Try.func16 (by kernel_rfl) C_27_mge_snd C_27_mge_snd

/- an entry: a load -/
def FE_16_mrl : Cfg := { F := 400, roots := [0, 1, 2, 3, 4, 5, 6, 7, 8, 9, 10, 11], fl := ⟨false, false⟩, laws := [] }
noncomputable def C_16_mrl : Oracle := elC 16 mrlDec mrlCps mrlU (C_16)
theorem nx_16_mrl_a : ∀ (n : Nat) (tg : List (List AV)) (m : Nat) (d : List (List AV)) (off : BitVec 64) (size : BitVec 64), inlineA Try.prog (C_27_mge) (drawA Try.prog) FE_16_mrl Try.f16 (mrlA (.a n tg m d off size)) (mrlH (.a n tg m d off size)) (mrlH (.a n tg m d off size)).length mrlDecR = mrlStep (.a n tg m d off size) := fun _ _ _ _ _ _ => by kernel_rfl
noncomputable def EL_16_mrl : EL Try.prog (C_27_mge) FE_16_mrl Try.f16 MrlS MrlR :=
  { eA := mrlA, eH := mrlH, dec := mrlDec, dec_ok := mrlDec_ok, enc := mrlU, decR := mrlDecR, decR_ok := mrlDecR_ok, step := mrlStep, hstep := fun x => match x with
      | .a n tg m d off size => nx_16_mrl_a n tg m d off size
  }
theorem C_16_mrl_snd : Snd Try.prog C_16_mrl := elC_snd EL_16_mrl (C_27_mge_snd) Try.func16 (by kernel_rfl) (cps := mrlCps) mrlCps_ok (C_16_snd)

/- (*ravelin/ram.Ram).LoadCap -/
def F12 : Cfg := { F := 400, roots := [0, 1, 2, 3, 4, 5, 6, 7, 8], fl := ⟨false, false⟩ }
noncomputable def C_12 : Oracle := inlS Try.prog 12 Try.f12 F12 C_16_mrl (C_16_mrl)
theorem C_12_snd : Snd Try.prog C_12 := inlS_snd Try.func12 (by kernel_rfl) C_16_mrl_snd C_16_mrl_snd

/- an entry: a granule -/
def FE_12_mrc : Cfg := { F := 400, roots := [0, 1, 2, 3, 4, 5, 6, 7, 8, 9, 10, 11], fl := ⟨false, false⟩, laws := [] }
noncomputable def C_12_mrc : Oracle := elC 12 mrcDec mrcCps mrcU (C_12)
theorem nx_12_mrc_a : ∀ (n : Nat) (tg : List (List AV)) (m : Nat) (d : List (List AV)) (off : BitVec 64), inlineA Try.prog (C_16_mrl) (drawA Try.prog) FE_12_mrc Try.f12 (mrcA (.a n tg m d off)) (mrcH (.a n tg m d off)) (mrcH (.a n tg m d off)).length mrcDecR = mrcStep (.a n tg m d off) := fun _ _ _ _ _ => by kernel_rfl
noncomputable def EL_12_mrc : EL Try.prog (C_16_mrl) FE_12_mrc Try.f12 MrcS MrcR :=
  { eA := mrcA, eH := mrcH, dec := mrcDec, dec_ok := mrcDec_ok, enc := mrcU, decR := mrcDecR, decR_ok := mrcDecR_ok, step := mrcStep, hstep := fun x => match x with
      | .a n tg m d off => nx_12_mrc_a n tg m d off
  }
theorem C_12_mrc_snd : Snd Try.prog C_12_mrc := elC_snd EL_12_mrc (C_16_mrl_snd) Try.func12 (by kernel_rfl) (cps := mrcCps) mrcCps_ok (C_12_snd)

/- a loop of ravelin/ravelinkit.SameInts -/
noncomputable def FL_13_msl : Cfg := { F := 400, roots := [0, 1, 5], fl := ⟨false, false⟩, laws := [] }
noncomputable def LC_13_msl : Code := loopIn 0 Try.f13
theorem nx_13_msl_a : ∀ (ra : Bool) (ma : Nat) (da : List (List AV)) (rb : Bool) (mb : Nat) (db : List (List AV)) (na : Nat) (nb : Nat) (i : BitVec 64), codeA Try.prog (C_12_mrc) (drawA Try.prog FL_13_msl.fl Try.f13.ntmps (C_12_mrc)) FL_13_msl Try.f13.ntmps LC_13_msl (tmOf [0, 1, 5] (mslT (.a ra ma da rb mb db na nb i))) (mslH (.a ra ma da rb mb db na nb i)) (mslN (.a ra ma da rb mb db na nb i)) (roundK 2 [0, 1, 5] [0, 1, 5] [4] mslDec mslDecE) = mslStep (.a ra ma da rb mb db na nb i) := fun _ _ _ _ _ _ _ _ _ => by kernel_rfl
noncomputable def LL_13_msl : LL Try.prog (C_12_mrc) Try.f13.ntmps (drawA Try.prog FL_13_msl.fl Try.f13.ntmps (C_12_mrc)) FL_13_msl LC_13_msl MslS MslE :=
  { N0 := 2, rts := [0, 1, 5], kT := [0, 1, 5], vT := mslT, hT := mslH, nT := mslN, dec := mslDec, dec_ok := mslDec_ok, kE := [4], oE := mslO, vE := mslV, hE := mslG, nE := mslM, decE := mslDecE, decE_ok := mslDecE_ok, step := mslStep,
    hstep := fun x => match x with
      | .a ra ma da rb mb db na nb i => nx_13_msl_a ra ma da rb mb db na nb i
  }
theorem hs_13_msl : HSnd Try.prog Try.f13.ntmps (.block 0 (.loop LC_13_msl)) (orH 2 (llH 2 [0, 1, 5] mslDec 0 mslCps) (selfH Try.prog (C_12_mrc) (drawA Try.prog FL_13_msl.fl Try.f13.ntmps (C_12_mrc)) FL_13_msl Try.f13.ntmps (.block 0 (.loop LC_13_msl)))) :=
  orH_snd (LL.handler_snd LL_13_msl (C_12_mrc_snd) (drawA_sound (C_12_mrc_snd)) (laws_nil) 0 (cps := mslCps) mslCps_ok) (selfH_snd (C_12_mrc_snd) (drawA_sound (C_12_mrc_snd)) (laws_nil))

/- ravelin/ravelinkit.SameInts -/
noncomputable def F13 : Cfg := { F := 400, roots := [0, 1, 2, 3, 4, 5], fl := ⟨false, false⟩, laws := [(0, orH 2 (llH 2 [0, 1, 5] mslDec 0 mslCps) (selfH Try.prog (C_12_mrc) (drawA Try.prog FL_13_msl.fl Try.f13.ntmps (C_12_mrc)) FL_13_msl Try.f13.ntmps (.block 0 (.loop LC_13_msl))))] }
theorem fok_13 : FOK Try.prog Try.f13 F13 := fok_of (laws_cons (subs_one (b := .block 0 (.loop LC_13_msl)) (by kernel_rfl) hs_13_msl) (laws_nil))
noncomputable def C_13 : Oracle := inlS Try.prog 13 Try.f13 F13 C_12_mrc (C_12_mrc)
theorem C_13_snd : Snd Try.prog C_13 := inlS_snd Try.func13 (by kernel_rfl) C_12_mrc_snd C_12_mrc_snd (hF := fok_13)

/- an entry: are lists the same? -/
noncomputable def FE_13_msi : Cfg := { F := 400, roots := [0, 1, 2, 3, 4, 5, 6, 7, 8, 9, 10, 11], fl := ⟨false, false⟩, laws := [(0, orH 2 (llH 2 [0, 1, 5] mslDec 0 mslCps) (selfH Try.prog (C_12_mrc) (drawA Try.prog FL_13_msl.fl Try.f13.ntmps (C_12_mrc)) FL_13_msl Try.f13.ntmps (.block 0 (.loop LC_13_msl))))] }
noncomputable def C_13_msi : Oracle := elC 13 msiDec msiCps msiU (C_13)
theorem nx_13_msi_nn : inlineA Try.prog (C_12_mrc) (drawA Try.prog) FE_13_msi Try.f13 (msiA (.nn )) (msiH (.nn )) (msiH (.nn )).length msiDecR = msiStep (.nn ) := by kernel_rfl
theorem nx_13_msi_rn : ∀ (ra : Bool) (ma : Nat) (da : List (List AV)) (na : Nat), inlineA Try.prog (C_12_mrc) (drawA Try.prog) FE_13_msi Try.f13 (msiA (.rn ra ma da na)) (msiH (.rn ra ma da na)) (msiH (.rn ra ma da na)).length msiDecR = msiStep (.rn ra ma da na) := fun _ _ _ _ => by kernel_rfl
theorem nx_13_msi_nr : ∀ (ra : Bool) (ma : Nat) (da : List (List AV)) (na : Nat), inlineA Try.prog (C_12_mrc) (drawA Try.prog) FE_13_msi Try.f13 (msiA (.nr ra ma da na)) (msiH (.nr ra ma da na)) (msiH (.nr ra ma da na)).length msiDecR = msiStep (.nr ra ma da na) := fun _ _ _ _ => by kernel_rfl
theorem nx_13_msi_rr : ∀ (ra : Bool) (ma : Nat) (da : List (List AV)) (na : Nat) (rb : Bool) (mb : Nat) (db : List (List AV)) (nb : Nat), inlineA Try.prog (C_12_mrc) (drawA Try.prog) FE_13_msi Try.f13 (msiA (.rr ra ma da na rb mb db nb)) (msiH (.rr ra ma da na rb mb db nb)) (msiH (.rr ra ma da na rb mb db nb)).length msiDecR = msiStep (.rr ra ma da na rb mb db nb) := fun _ _ _ _ _ _ _ _ => by kernel_rfl
noncomputable def EL_13_msi : EL Try.prog (C_12_mrc) FE_13_msi Try.f13 MsiS MsiR :=
  { eA := msiA, eH := msiH, dec := msiDec, dec_ok := msiDec_ok, enc := msiU, decR := msiDecR, decR_ok := msiDecR_ok, step := msiStep, hstep := fun x => match x with
      | .nn => nx_13_msi_nn 
      | .rn ra ma da na => nx_13_msi_rn ra ma da na
      | .nr ra ma da na => nx_13_msi_nr ra ma da na
      | .rr ra ma da na rb mb db nb => nx_13_msi_rr ra ma da na rb mb db nb
  }
theorem foke_13_msi : FOK Try.prog Try.f13 FE_13_msi := fok_of (laws_cons (subs_one (b := .block 0 (.loop LC_13_msl)) (by kernel_rfl) hs_13_msl) (laws_nil))
theorem C_13_msi_snd : Snd Try.prog C_13_msi := elC_snd EL_13_msi (C_12_mrc_snd) Try.func13 (by kernel_rfl) (cps := msiCps) msiCps_ok (C_13_snd) (hF := foke_13_msi)

/- a loop of (*ravelin/ram.Ram).Tagged -/
noncomputable def FL_14_mtg : Cfg := { F := 400, roots := [0, 3, 4], fl := ⟨false, false⟩, laws := [] }
noncomputable def LC_14_mtg : Code := loopIn 0 Try.f14
theorem nx_14_mtg_z : ∀ (n : Nat) (tg : List (List AV)) (m : Nat) (d : List (List AV)) (i : BitVec 64), codeA Try.prog (C_13_msi) (drawA Try.prog FL_14_mtg.fl Try.f14.ntmps (C_13_msi)) FL_14_mtg Try.f14.ntmps LC_14_mtg (tmOf [0, 3, 4] (mtgT (.z n tg m d i))) (mtgH (.z n tg m d i)) (mtgN (.z n tg m d i)) (roundK 2 [0, 3, 4] [0, 3, 4] [3] mtgDec mtgDecE) = mtgStep (.z n tg m d i) := fun _ _ _ _ _ => by kernel_rfl
theorem nx_14_mtg_s : ∀ (n : Nat) (tg : List (List AV)) (m : Nat) (d : List (List AV)) (k : Nat) (kk : Nat) (g : List (List AV)) (i : BitVec 64), codeA Try.prog (C_13_msi) (drawA Try.prog FL_14_mtg.fl Try.f14.ntmps (C_13_msi)) FL_14_mtg Try.f14.ntmps LC_14_mtg (tmOf [0, 3, 4] (mtgT (.s n tg m d k kk g i))) (mtgH (.s n tg m d k kk g i)) (mtgN (.s n tg m d k kk g i)) (roundK 2 [0, 3, 4] [0, 3, 4] [3] mtgDec mtgDecE) = mtgStep (.s n tg m d k kk g i) := fun _ _ _ _ _ _ _ _ => by kernel_rfl
noncomputable def LL_14_mtg : LL Try.prog (C_13_msi) Try.f14.ntmps (drawA Try.prog FL_14_mtg.fl Try.f14.ntmps (C_13_msi)) FL_14_mtg LC_14_mtg MtgS MtgE :=
  { N0 := 2, rts := [0, 3, 4], kT := [0, 3, 4], vT := mtgT, hT := mtgH, nT := mtgN, dec := mtgDec, dec_ok := mtgDec_ok, kE := [3], oE := mtgO, vE := mtgV, hE := mtgG, nE := mtgM, decE := mtgDecE, decE_ok := mtgDecE_ok, step := mtgStep,
    hstep := fun x => match x with
      | .z n tg m d i => nx_14_mtg_z n tg m d i
      | .s n tg m d k kk g i => nx_14_mtg_s n tg m d k kk g i
  }
theorem hs_14_mtg : HSnd Try.prog Try.f14.ntmps (.block 0 (.loop LC_14_mtg)) (llH 2 [0, 3, 4] mtgDec 0 mtgCps) :=
  LL.handler_snd LL_14_mtg (C_13_msi_snd) (drawA_sound (C_13_msi_snd)) (laws_nil) 0 (cps := mtgCps) mtgCps_ok

/- (*ravelin/ram.Ram).Tagged -/
noncomputable def F14 : Cfg := { F := 400, roots := [0, 1, 2, 3, 4, 5, 6], fl := ⟨false, false⟩, laws := [(0, llH 2 [0, 3, 4] mtgDec 0 mtgCps)] }
theorem fok_14 : FOK Try.prog Try.f14 F14 := fok_of (laws_cons (subs_one (b := .block 0 (.loop LC_14_mtg)) (by kernel_rfl) hs_14_mtg) (laws_nil))
noncomputable def C_14 : Oracle := inlS Try.prog 14 Try.f14 F14 C_13_msi (C_13_msi)
theorem C_14_snd : Snd Try.prog C_14 := inlS_snd Try.func14 (by kernel_rfl) C_13_msi_snd C_13_msi_snd (hF := fok_14)

/- an entry: where tags are -/
noncomputable def FE_14_mrg : Cfg := { F := 400, roots := [0, 1, 2, 3, 4, 5, 6, 7, 8, 9, 10, 11], fl := ⟨false, false⟩, laws := [(0, llH 2 [0, 3, 4] mtgDec 0 mtgCps)] }
noncomputable def C_14_mrg : Oracle := elC 14 mrgDec mrgCps mrgU (C_14)
theorem nx_14_mrg_a : ∀ (n : Nat) (tg : List (List AV)) (m : Nat) (d : List (List AV)), inlineA Try.prog (C_13_msi) (drawA Try.prog) FE_14_mrg Try.f14 (mrgA (.a n tg m d)) (mrgH (.a n tg m d)) (mrgH (.a n tg m d)).length mrgDecR = mrgStep (.a n tg m d) := fun _ _ _ _ => by kernel_rfl
noncomputable def EL_14_mrg : EL Try.prog (C_13_msi) FE_14_mrg Try.f14 MrgS MrgR :=
  { eA := mrgA, eH := mrgH, dec := mrgDec, dec_ok := mrgDec_ok, enc := mrgU, decR := mrgDecR, decR_ok := mrgDecR_ok, step := mrgStep, hstep := fun x => match x with
      | .a n tg m d => nx_14_mrg_a n tg m d
  }
theorem foke_14_mrg : FOK Try.prog Try.f14 FE_14_mrg := fok_of (laws_cons (subs_one (b := .block 0 (.loop LC_14_mtg)) (by kernel_rfl) hs_14_mtg) (laws_nil))
theorem C_14_mrg_snd : Snd Try.prog C_14_mrg := elC_snd EL_14_mrg (C_13_msi_snd) Try.func14 (by kernel_rfl) (cps := mrgCps) mrgCps_ok (C_14_snd) (hF := foke_14_mrg)

/- ravelin/ravelinlaw11.known -/
def F15 : Cfg := { F := 400, roots := [0, 1, 2, 3, 4, 5, 6, 7, 8], fl := ⟨true, false⟩ }
theorem run_15 : pureRun Try.prog C_14_mrg F15 Try.f15 [] = some (.bool v_l11_known) := (show pureRun Try.prog C_14_mrg F15 Try.f15 [] = (some (AV.bool (true))) by kernel_rfl).trans (rfl)
noncomputable def C_15 : Oracle := pureE 15 (pure0  (.bool v_l11_known)) (C_14_mrg)
theorem C_15_snd : Snd Try.prog C_15 := pureE_snd (pure0_ok (F := F15) (C_14_mrg_snd) Try.func15 (by kernel_rfl) run_15 rfl) (C_14_mrg_snd)

/- ravelin/ravelinkit.Pick -/
def F9 : Cfg := { F := 400, roots := [0, 1, 2], fl := ⟨true, false⟩ }
theorem run_9 : ∀ (k : BitVec 64) (n : BitVec 64), pureRun Try.prog C_15 F9 Try.f9 [.int .i64 k, .int .i64 n] = some (.int .i64 (v_kit_Pick k n)) := fun k n =>
 (show pureRun Try.prog C_15 F9 Try.f9 [.int .i64 k, .int .i64 n] = t_kit_Pick k n by kernel_rfl).trans (t_kit_Pick_eq k n)
noncomputable def C_9 : Oracle := pureE 9 (pure2 dI64 dI64 (fun k n => .int .i64 (v_kit_Pick k n))) (C_15)
theorem C_9_snd : Snd Try.prog C_9 := pureE_snd (pure2_ok (F := F9) (C_15_snd) Try.func9 (by kernel_rfl) run_9 (fun _ _ => rfl)) (C_15_snd)

/- ravelin/ravelinref11.sized -/
def F31 : Cfg := { F := 400, roots := [0, 1], fl := ⟨true, false⟩ }
theorem run_31 : ∀ (n : BitVec 64), pureRun Try.prog C_9 F31 Try.f31 [.int .i64 n] = some (.bool (v_r11_sized n)) := fun n =>
 (show pureRun Try.prog C_9 F31 Try.f31 [.int .i64 n] = (cond (n == 1#64)
 (some (AV.bool (true)))
 (cond (n == 2#64)
 (some (AV.bool (true)))
 (cond (n == 4#64)
 (some (AV.bool (true)))
 (some (AV.bool (n == 8#64)))))) by kernel_rfl).trans (by
    delta v_r11_sized
    refine (mer _ (fun p => .bool p) ?_ (mer _ (fun p => .bool p) ?_ (mer _ (fun p => .bool p) ?_ ?_)))
    all_goals first | with_reducible rfl | rfl)
noncomputable def C_31 : Oracle := pureE 31 (pure1 dI64 (fun n => .bool (v_r11_sized n))) (C_9)
theorem C_31_snd : Snd Try.prog C_31 := pureE_snd (pure1_ok (F := F31) (C_9_snd) Try.func31 (by kernel_rfl) run_31 (fun _ => rfl)) (C_9_snd)

/- (*ravelin/ravelinref11.Ram).there -/
def F32 : Cfg := { F := 400, roots := [0, 1, 2, 3], fl := ⟨false, false⟩ }
noncomputable def C_32 : Oracle := inlS Try.prog 32 Try.f32 F32 C_31 (C_31)
theorem C_32_snd : Snd Try.prog C_32 := inlS_snd Try.func32 (by kernel_rfl) C_31_snd C_31_snd

/- a loop of (*ravelin/ravelinref11.Ram).Load -/
noncomputable def FL_22_mxa : Cfg := { F := 400, roots := [0, 1, 8, 9], fl := ⟨false, false⟩, laws := [] }
noncomputable def LC_22_mxa : Code := loopIn 0 Try.f22
theorem nx_22_mxa_a : ∀ (n : Nat) (t : Nat) (m : Nat) (d : List (List AV)) (mt : Nat) (T : List (List AV)) (off : BitVec 64) (v : BitVec 64) (i : BitVec 64), codeA Try.prog (C_32) (drawA Try.prog FL_22_mxa.fl Try.f22.ntmps (C_32)) FL_22_mxa Try.f22.ntmps LC_22_mxa (tmOf [0, 1, 8, 9] (mxaT (.a n t m d mt T off v i))) (mxaH (.a n t m d mt T off v i)) (mxaN (.a n t m d mt T off v i)) (roundK 3 [0, 1, 8, 9] [0, 1, 8, 9] [8] mxaDec mxaDecE) = mxaStep (.a n t m d mt T off v i) := fun _ _ _ _ _ _ _ _ _ => by kernel_rfl
noncomputable def LL_22_mxa : LL Try.prog (C_32) Try.f22.ntmps (drawA Try.prog FL_22_mxa.fl Try.f22.ntmps (C_32)) FL_22_mxa LC_22_mxa MxaS MxaE :=
  { N0 := 3, rts := [0, 1, 8, 9], kT := [0, 1, 8, 9], vT := mxaT, hT := mxaH, nT := mxaN, dec := mxaDec, dec_ok := mxaDec_ok, kE := [8], oE := mxaO, vE := mxaV, hE := mxaG, nE := mxaM, decE := mxaDecE, decE_ok := mxaDecE_ok, step := mxaStep,
    hstep := fun x => match x with
      | .a n t m d mt T off v i => nx_22_mxa_a n t m d mt T off v i
  }
theorem hs_22_mxa : HSnd Try.prog Try.f22.ntmps (.block 0 (.loop LC_22_mxa)) (llH 3 [0, 1, 8, 9] mxaDec 0 mxaCps) :=
  LL.handler_snd LL_22_mxa (C_32_snd) (drawA_sound (C_32_snd)) (laws_nil) 0 (cps := mxaCps) mxaCps_ok

/- (*ravelin/ravelinref11.Ram).Load -/
noncomputable def F22 : Cfg := { F := 400, roots := [0, 1, 2, 3, 4, 5, 6, 7, 8, 9], fl := ⟨false, false⟩, laws := [(0, llH 3 [0, 1, 8, 9] mxaDec 0 mxaCps)] }
theorem fok_22 : FOK Try.prog Try.f22 F22 := fok_of (laws_cons (subs_one (b := .block 0 (.loop LC_22_mxa)) (by kernel_rfl) hs_22_mxa) (laws_nil))
noncomputable def C_22 : Oracle := inlS Try.prog 22 Try.f22 F22 C_32 (C_32)
theorem C_22_snd : Snd Try.prog C_22 := inlS_snd Try.func22 (by kernel_rfl) C_32_snd C_32_snd (hF := fok_22)

/- an entry: the document: a load -/
noncomputable def FE_22_mxl : Cfg := { F := 400, roots := [0, 1, 2, 3, 4, 5, 6, 7, 8, 9, 10, 11], fl := ⟨false, false⟩, laws := [(0, llH 3 [0, 1, 8, 9] mxaDec 0 mxaCps)] }
noncomputable def C_22_mxl : Oracle := elC 22 mxlDec mxlCps mxlU (C_22)
theorem nx_22_mxl_a : ∀ (n : Nat) (t : Nat) (m : Nat) (d : List (List AV)) (mt : Nat) (T : List (List AV)) (off : BitVec 64) (size : BitVec 64), inlineA Try.prog (C_32) (drawA Try.prog) FE_22_mxl Try.f22 (mxlA (.a n t m d mt T off size)) (mxlH (.a n t m d mt T off size)) (mxlH (.a n t m d mt T off size)).length mxlDecR = mxlStep (.a n t m d mt T off size) := fun _ _ _ _ _ _ _ _ => by kernel_rfl
noncomputable def EL_22_mxl : EL Try.prog (C_32) FE_22_mxl Try.f22 MxlS MxlR :=
  { eA := mxlA, eH := mxlH, dec := mxlDec, dec_ok := mxlDec_ok, enc := mxlU, decR := mxlDecR, decR_ok := mxlDecR_ok, step := mxlStep, hstep := fun x => match x with
      | .a n t m d mt T off size => nx_22_mxl_a n t m d mt T off size
  }
theorem foke_22_mxl : FOK Try.prog Try.f22 FE_22_mxl := fok_of (laws_cons (subs_one (b := .block 0 (.loop LC_22_mxa)) (by kernel_rfl) hs_22_mxa) (laws_nil))
theorem C_22_mxl_snd : Snd Try.prog C_22_mxl := elC_snd EL_22_mxl (C_32_snd) Try.func22 (by kernel_rfl) (cps := mxlCps) mxlCps_ok (C_22_snd) (hF := foke_22_mxl)

/- a loop of (*ravelin/ravelinref11.Ram).Store -/
noncomputable def FL_28_mxb : Cfg := { F := 400, roots := [0, 1, 2, 3, 9], fl := ⟨false, false⟩, laws := [] }
noncomputable def LC_28_mxb : Code := loopIn 0 Try.f28
theorem nx_28_mxb_a : ∀ (n : Nat) (t : Nat) (m : Nat) (d : List (List AV)) (mt : Nat) (T : List (List AV)) (off : BitVec 64) (size : BitVec 64) (v : BitVec 64) (i : BitVec 64), codeA Try.prog (C_22_mxl) (drawA Try.prog FL_28_mxb.fl Try.f28.ntmps (C_22_mxl)) FL_28_mxb Try.f28.ntmps LC_28_mxb (tmOf [0, 1, 2, 3, 9] (mxbT (.a n t m d mt T off size v i))) (mxbH (.a n t m d mt T off size v i)) (mxbN (.a n t m d mt T off size v i)) (roundK 3 [0, 1, 2, 3, 9] [0, 1, 2, 3, 9] [] mxbDec mxbDecE) = mxbStep (.a n t m d mt T off size v i) := fun _ _ _ _ _ _ _ _ _ _ => by kernel_rfl
noncomputable def LL_28_mxb : LL Try.prog (C_22_mxl) Try.f28.ntmps (drawA Try.prog FL_28_mxb.fl Try.f28.ntmps (C_22_mxl)) FL_28_mxb LC_28_mxb MxbS MxbE :=
  { N0 := 3, rts := [0, 1, 2, 3, 9], kT := [0, 1, 2, 3, 9], vT := mxbT, hT := mxbH, nT := mxbN, dec := mxbDec, dec_ok := mxbDec_ok, kE := [], oE := mxbO, vE := mxbV, hE := mxbG, nE := mxbM, decE := mxbDecE, decE_ok := mxbDecE_ok, step := mxbStep,
    hstep := fun x => match x with
      | .a n t m d mt T off size v i => nx_28_mxb_a n t m d mt T off size v i
  }
theorem hs_28_mxb : HSnd Try.prog Try.f28.ntmps (.block 0 (.loop LC_28_mxb)) (llH 3 [0, 1, 2, 3, 9] mxbDec 0 mxbCps) :=
  LL.handler_snd LL_28_mxb (C_22_mxl_snd) (drawA_sound (C_22_mxl_snd)) (laws_nil) 0 (cps := mxbCps) mxbCps_ok

/- (*ravelin/ravelinref11.Ram).Store -/
noncomputable def F28 : Cfg := { F := 400, roots := [0, 1, 2, 3, 4, 5, 6, 7, 8, 9], fl := ⟨false, false⟩, laws := [(0, llH 3 [0, 1, 2, 3, 9] mxbDec 0 mxbCps)] }
theorem fok_28 : FOK Try.prog Try.f28 F28 := fok_of (laws_cons (subs_one (b := .block 0 (.loop LC_28_mxb)) (by kernel_rfl) hs_28_mxb) (laws_nil))
noncomputable def C_28 : Oracle := inlS Try.prog 28 Try.f28 F28 C_22_mxl (C_22_mxl)
theorem C_28_snd : Snd Try.prog C_28 := inlS_snd Try.func28 (by kernel_rfl) C_22_mxl_snd C_22_mxl_snd (hF := fok_28)

/- an entry: the document: a store -/
noncomputable def FE_28_mxs : Cfg := { F := 400, roots := [0, 1, 2, 3, 4, 5, 6, 7, 8, 9, 10, 11], fl := ⟨false, false⟩, laws := [(0, llH 3 [0, 1, 2, 3, 9] mxbDec 0 mxbCps)] }
noncomputable def C_28_mxs : Oracle := elC 28 mxsDec mxsCps mxsU (C_28)
theorem nx_28_mxs_a : ∀ (n : Nat) (t : Nat) (m : Nat) (d : List (List AV)) (mt : Nat) (T : List (List AV)) (off : BitVec 64) (size : BitVec 64) (v : BitVec 64), inlineA Try.prog (C_22_mxl) (drawA Try.prog) FE_28_mxs Try.f28 (mxsA (.a n t m d mt T off size v)) (mxsH (.a n t m d mt T off size v)) (mxsH (.a n t m d mt T off size v)).length mxsDecR = mxsStep (.a n t m d mt T off size v) := fun _ _ _ _ _ _ _ _ _ => by kernel_rfl
noncomputable def EL_28_mxs : EL Try.prog (C_22_mxl) FE_28_mxs Try.f28 MxsS MxsR :=
  { eA := mxsA, eH := mxsH, dec := mxsDec, dec_ok := mxsDec_ok, enc := mxsU, decR := mxsDecR, decR_ok := mxsDecR_ok, step := mxsStep, hstep := fun x => match x with
      | .a n t m d mt T off size v => nx_28_mxs_a n t m d mt T off size v
  }
theorem foke_28_mxs : FOK Try.prog Try.f28 FE_28_mxs := fok_of (laws_cons (subs_one (b := .block 0 (.loop LC_28_mxb)) (by kernel_rfl) hs_28_mxb) (laws_nil))
theorem C_28_mxs_snd : Snd Try.prog C_28_mxs := elC_snd EL_28_mxs (C_22_mxl_snd) Try.func28 (by kernel_rfl) (cps := mxsCps) mxsCps_ok (C_28_snd) (hF := foke_28_mxs)

/- (*ravelin/ravelinref11.Ram).LoadCap -/
def F29 : Cfg := { F := 400, roots := [0, 1, 2, 3, 4, 5, 6, 7, 8, 9], fl := ⟨false, false⟩ }
noncomputable def C_29 : Oracle := inlS Try.prog 29 Try.f29 F29 C_28_mxs (C_28_mxs)
theorem C_29_snd : Snd Try.prog C_29 := inlS_snd Try.func29 (by kernel_rfl) C_28_mxs_snd C_28_mxs_snd

/- an entry: the document: a granule -/
def FE_29_mxc : Cfg := { F := 400, roots := [0, 1, 2, 3, 4, 5, 6, 7, 8, 9, 10, 11], fl := ⟨false, false⟩, laws := [] }
noncomputable def C_29_mxc : Oracle := elC 29 mxcDec mxcCps mxcU (C_29)
theorem nx_29_mxc_a : ∀ (n : Nat) (t : Nat) (m : Nat) (d : List (List AV)) (mt : Nat) (T : List (List AV)) (off : BitVec 64), inlineA Try.prog (C_28_mxs) (drawA Try.prog) FE_29_mxc Try.f29 (mxcA (.a n t m d mt T off)) (mxcH (.a n t m d mt T off)) (mxcH (.a n t m d mt T off)).length mxcDecR = mxcStep (.a n t m d mt T off) := fun _ _ _ _ _ _ _ => by kernel_rfl
noncomputable def EL_29_mxc : EL Try.prog (C_28_mxs) FE_29_mxc Try.f29 MxcS MxcR :=
  { eA := mxcA, eH := mxcH, dec := mxcDec, dec_ok := mxcDec_ok, enc := mxcU, decR := mxcDecR, decR_ok := mxcDecR_ok, step := mxcStep, hstep := fun x => match x with
      | .a n t m d mt T off => nx_29_mxc_a n t m d mt T off
  }
theorem C_29_mxc_snd : Snd Try.prog C_29_mxc := elC_snd EL_29_mxc (C_28_mxs_snd) Try.func29 (by kernel_rfl) (cps := mxcCps) mxcCps_ok (C_29_snd)

/- (*ravelin/ravelinref11.Ram).StoreCap -/
def F30 : Cfg := { F := 400, roots := [0, 1, 2, 3, 4, 5], fl := ⟨false, false⟩ }
noncomputable def C_30 : Oracle := inlS Try.prog 30 Try.f30 F30 C_29_mxc (C_29_mxc)
theorem C_30_snd : Snd Try.prog C_30 := inlS_snd Try.func30 (by kernel_rfl) C_29_mxc_snd C_29_mxc_snd

/- an entry: the document: a granule laid -/
def FE_30_mxt : Cfg := { F := 400, roots := [0, 1, 2, 3, 4, 5, 6, 7, 8, 9, 10, 11], fl := ⟨false, false⟩, laws := [] }
noncomputable def C_30_mxt : Oracle := elC 30 mxtDec mxtCps mxtU (C_30)
theorem nx_30_mxt_a : ∀ (n : Nat) (t : Nat) (m : Nat) (d : List (List AV)) (mt : Nat) (T : List (List AV)) (off : BitVec 64) (tt : Bool) (x : BitVec 64) (y : BitVec 64), inlineA Try.prog (C_29_mxc) (drawA Try.prog) FE_30_mxt Try.f30 (mxtA (.a n t m d mt T off tt x y)) (mxtH (.a n t m d mt T off tt x y)) (mxtH (.a n t m d mt T off tt x y)).length mxtDecR = mxtStep (.a n t m d mt T off tt x y) := fun _ _ _ _ _ _ _ _ _ _ => by kernel_rfl
noncomputable def EL_30_mxt : EL Try.prog (C_29_mxc) FE_30_mxt Try.f30 MxtS MxtR :=
  { eA := mxtA, eH := mxtH, dec := mxtDec, dec_ok := mxtDec_ok, enc := mxtU, decR := mxtDecR, decR_ok := mxtDecR_ok, step := mxtStep, hstep := fun x => match x with
      | .a n t m d mt T off tt x y => nx_30_mxt_a n t m d mt T off tt x y
  }
theorem C_30_mxt_snd : Snd Try.prog C_30_mxt := elC_snd EL_30_mxt (C_29_mxc_snd) Try.func30 (by kernel_rfl) (cps := mxtCps) mxtCps_ok (C_30_snd)

/- ravelin/ravelinlaw11.does -/
def F18 : Cfg := { F := 400, roots := [0, 1, 2, 3, 4, 5, 6, 7, 8, 9, 10, 11, 12, 13, 14, 15], fl := ⟨false, false⟩ }
noncomputable def C_18 : Oracle := inlS Try.prog 18 Try.f18 F18 C_30_mxt (C_30_mxt)
theorem C_18_snd : Snd Try.prog C_18 := inlS_snd Try.func18 (by kernel_rfl) C_30_mxt_snd C_30_mxt_snd

/- (*ravelin/ram.Ram).Len -/
def F19 : Cfg := { F := 400, roots := [0, 1], fl := ⟨false, false⟩ }
noncomputable def C_19 : Oracle := inlS Try.prog 19 Try.f19 F19 C_18 (C_18)
theorem C_19_snd : Snd Try.prog C_19 := inlS_snd Try.func19 (by kernel_rfl) C_18_snd C_18_snd

/- (*ravelin/ravelinref11.Ram).Len -/
def F20 : Cfg := { F := 400, roots := [0, 1], fl := ⟨false, false⟩ }
noncomputable def C_20 : Oracle := inlS Try.prog 20 Try.f20 F20 C_19 (C_19)
theorem C_20_snd : Snd Try.prog C_20 := inlS_snd Try.func20 (by kernel_rfl) C_19_snd C_19_snd

/- a loop of (*ravelin/ravelinref11.Ram).Tagged -/
noncomputable def FL_21_mxd : Cfg := { F := 400, roots := [0, 3, 4], fl := ⟨false, false⟩, laws := [] }
noncomputable def LC_21_mxd : Code := loopIn 0 Try.f21
theorem nx_21_mxd_z : ∀ (n : Nat) (t : Nat) (m : Nat) (d : List (List AV)) (mt : Nat) (T : List (List AV)) (i : BitVec 64), codeA Try.prog (C_20) (drawA Try.prog FL_21_mxd.fl Try.f21.ntmps (C_20)) FL_21_mxd Try.f21.ntmps LC_21_mxd (tmOf [0, 3, 4] (mxdT (.z n t m d mt T i))) (mxdH (.z n t m d mt T i)) (mxdN (.z n t m d mt T i)) (roundK 3 [0, 3, 4] [0, 3, 4] [3] mxdDec mxdDecE) = mxdStep (.z n t m d mt T i) := fun _ _ _ _ _ _ _ => by kernel_rfl
theorem nx_21_mxd_s : ∀ (n : Nat) (t : Nat) (m : Nat) (d : List (List AV)) (mt : Nat) (T : List (List AV)) (k : Nat) (kk : Nat) (g : List (List AV)) (i : BitVec 64), codeA Try.prog (C_20) (drawA Try.prog FL_21_mxd.fl Try.f21.ntmps (C_20)) FL_21_mxd Try.f21.ntmps LC_21_mxd (tmOf [0, 3, 4] (mxdT (.s n t m d mt T k kk g i))) (mxdH (.s n t m d mt T k kk g i)) (mxdN (.s n t m d mt T k kk g i)) (roundK 3 [0, 3, 4] [0, 3, 4] [3] mxdDec mxdDecE) = mxdStep (.s n t m d mt T k kk g i) := fun _ _ _ _ _ _ _ _ _ _ => by kernel_rfl
noncomputable def LL_21_mxd : LL Try.prog (C_20) Try.f21.ntmps (drawA Try.prog FL_21_mxd.fl Try.f21.ntmps (C_20)) FL_21_mxd LC_21_mxd MxdS MxdE :=
  { N0 := 3, rts := [0, 3, 4], kT := [0, 3, 4], vT := mxdT, hT := mxdH, nT := mxdN, dec := mxdDec, dec_ok := mxdDec_ok, kE := [3], oE := mxdO, vE := mxdV, hE := mxdG, nE := mxdM, decE := mxdDecE, decE_ok := mxdDecE_ok, step := mxdStep,
    hstep := fun x => match x with
      | .z n t m d mt T i => nx_21_mxd_z n t m d mt T i
      | .s n t m d mt T k kk g i => nx_21_mxd_s n t m d mt T k kk g i
  }
theorem hs_21_mxd : HSnd Try.prog Try.f21.ntmps (.block 0 (.loop LC_21_mxd)) (llH 3 [0, 3, 4] mxdDec 0 mxdCps) :=
  LL.handler_snd LL_21_mxd (C_20_snd) (drawA_sound (C_20_snd)) (laws_nil) 0 (cps := mxdCps) mxdCps_ok

/- (*ravelin/ravelinref11.Ram).Tagged -/
noncomputable def F21 : Cfg := { F := 400, roots := [0, 1, 2, 3, 4], fl := ⟨false, false⟩, laws := [(0, llH 3 [0, 3, 4] mxdDec 0 mxdCps)] }
theorem fok_21 : FOK Try.prog Try.f21 F21 := fok_of (laws_cons (subs_one (b := .block 0 (.loop LC_21_mxd)) (by kernel_rfl) hs_21_mxd) (laws_nil))
noncomputable def C_21 : Oracle := inlS Try.prog 21 Try.f21 F21 C_20 (C_20)
theorem C_21_snd : Snd Try.prog C_21 := inlS_snd Try.func21 (by kernel_rfl) C_20_snd C_20_snd (hF := fok_21)

/- an entry: the document: where tags are -/
noncomputable def FE_21_mxg : Cfg := { F := 400, roots := [0, 1, 2, 3, 4, 5, 6, 7, 8, 9, 10, 11], fl := ⟨false, false⟩, laws := [(0, llH 3 [0, 3, 4] mxdDec 0 mxdCps)] }
noncomputable def C_21_mxg : Oracle := elC 21 mxgDec mxgCps mxgU (C_21)
theorem nx_21_mxg_a : ∀ (n : Nat) (t : Nat) (m : Nat) (d : List (List AV)) (mt : Nat) (T : List (List AV)), inlineA Try.prog (C_20) (drawA Try.prog) FE_21_mxg Try.f21 (mxgA (.a n t m d mt T)) (mxgH (.a n t m d mt T)) (mxgH (.a n t m d mt T)).length mxgDecR = mxgStep (.a n t m d mt T) := fun _ _ _ _ _ _ => by kernel_rfl
noncomputable def EL_21_mxg : EL Try.prog (C_20) FE_21_mxg Try.f21 MxgS MxgR :=
  { eA := mxgA, eH := mxgH, dec := mxgDec, dec_ok := mxgDec_ok, enc := mxgU, decR := mxgDecR, decR_ok := mxgDecR_ok, step := mxgStep, hstep := fun x => match x with
      | .a n t m d mt T => nx_21_mxg_a n t m d mt T
  }
theorem foke_21_mxg : FOK Try.prog Try.f21 FE_21_mxg := fok_of (laws_cons (subs_one (b := .block 0 (.loop LC_21_mxd)) (by kernel_rfl) hs_21_mxd) (laws_nil))
theorem C_21_mxg_snd : Snd Try.prog C_21_mxg := elC_snd EL_21_mxg (C_20_snd) Try.func21 (by kernel_rfl) (cps := mxgCps) mxgCps_ok (C_21_snd) (hF := foke_21_mxg)

/- a loop of ravelin/ravelinlaw11.RamPlays -/
noncomputable def FL_6_mpa : Cfg := { F := 400, roots := [1, 5, 7, 9], fl := ⟨false, false⟩, laws := [] }
noncomputable def LC_6_mpa : Code := loopIn 0 Try.f6
theorem nx_6_mpa_a : ∀ (rw : Bool) (na : Nat) (ma : Nat) (da : List (List AV)) (n : Nat) (tg : List (List AV)) (m : Nat) (d : List (List AV)) (nx : Nat) (t : Nat) (mx : Nat) (dx : List (List AV)) (mt : Nat) (T : List (List AV)) (i : BitVec 64), codeA Try.prog (C_21_mxg) (drawA Try.prog FL_6_mpa.fl Try.f6.ntmps (C_21_mxg)) FL_6_mpa Try.f6.ntmps LC_6_mpa (tmOf [1, 5, 7, 9] (mpaT (.a rw na ma da n tg m d nx t mx dx mt T i))) (mpaH (.a rw na ma da n tg m d nx t mx dx mt T i)) (mpaN (.a rw na ma da n tg m d nx t mx dx mt T i)) (roundK 7 [1, 5, 7, 9] [1, 5, 7, 9] [4, 5, 7] mpaDec mpaDecE) = mpaStep (.a rw na ma da n tg m d nx t mx dx mt T i) := fun _ _ _ _ _ _ _ _ _ _ _ _ _ _ _ => by kernel_rfl
theorem nx_6_mpa_z : ∀ (n : Nat) (tg : List (List AV)) (m : Nat) (d : List (List AV)) (nx : Nat) (t : Nat) (mx : Nat) (dx : List (List AV)) (mt : Nat) (T : List (List AV)) (i : BitVec 64), codeA Try.prog (C_21_mxg) (drawA Try.prog FL_6_mpa.fl Try.f6.ntmps (C_21_mxg)) FL_6_mpa Try.f6.ntmps LC_6_mpa (tmOf [1, 5, 7, 9] (mpaT (.z n tg m d nx t mx dx mt T i))) (mpaH (.z n tg m d nx t mx dx mt T i)) (mpaN (.z n tg m d nx t mx dx mt T i)) (roundK 7 [1, 5, 7, 9] [1, 5, 7, 9] [4, 5, 7] mpaDec mpaDecE) = mpaStep (.z n tg m d nx t mx dx mt T i) := fun _ _ _ _ _ _ _ _ _ _ _ => by kernel_rfl
noncomputable def LL_6_mpa : LL Try.prog (C_21_mxg) Try.f6.ntmps (drawA Try.prog FL_6_mpa.fl Try.f6.ntmps (C_21_mxg)) FL_6_mpa LC_6_mpa MpaS MpaE :=
  { N0 := 7, rts := [1, 5, 7, 9], kT := [1, 5, 7, 9], vT := mpaT, hT := mpaH, nT := mpaN, dec := mpaDec, dec_ok := mpaDec_ok, kE := [4, 5, 7], oE := mpaO, vE := mpaV, hE := mpaG, nE := mpaM, decE := mpaDecE, decE_ok := mpaDecE_ok, step := mpaStep,
    hstep := fun x => match x with
      | .a rw na ma da n tg m d nx t mx dx mt T i => nx_6_mpa_a rw na ma da n tg m d nx t mx dx mt T i
      | .z n tg m d nx t mx dx mt T i => nx_6_mpa_z n tg m d nx t mx dx mt T i
  }
theorem hs_6_mpa : HSnd Try.prog Try.f6.ntmps (.block 0 (.loop LC_6_mpa)) (llH 7 [1, 5, 7, 9] mpaDec 0 mpaCps) :=
  LL.handler_snd LL_6_mpa (C_21_mxg_snd) (drawA_sound (C_21_mxg_snd)) (laws_nil) 0 (cps := mpaCps) mpaCps_ok

/- a loop of ravelin/ravelinlaw11.RamPlays -/
noncomputable def FL_6_mpb : Cfg := { F := 400, roots := [5, 7, 10], fl := ⟨false, false⟩, laws := [] }
noncomputable def LC_6_mpb : Code := loopIn 2 Try.f6
theorem nx_6_mpb_a : ∀ (n : Nat) (tg : List (List AV)) (m : Nat) (d : List (List AV)) (nx : Nat) (t : Nat) (mx : Nat) (dx : List (List AV)) (mt : Nat) (T : List (List AV)) (off : BitVec 64), codeA Try.prog (C_21_mxg) (drawA Try.prog FL_6_mpb.fl Try.f6.ntmps (C_21_mxg)) FL_6_mpb Try.f6.ntmps LC_6_mpb (tmOf [5, 7, 10] (mpbT (.a n tg m d nx t mx dx mt T off))) (mpbH (.a n tg m d nx t mx dx mt T off)) (mpbN (.a n tg m d nx t mx dx mt T off)) (roundK 7 [5, 7, 10] [5, 7, 10] [4, 5, 7] mpbDec mpbDecE) = mpbStep (.a n tg m d nx t mx dx mt T off) := fun _ _ _ _ _ _ _ _ _ _ _ => by kernel_rfl
noncomputable def LL_6_mpb : LL Try.prog (C_21_mxg) Try.f6.ntmps (drawA Try.prog FL_6_mpb.fl Try.f6.ntmps (C_21_mxg)) FL_6_mpb LC_6_mpb MpbS MpbE :=
  { N0 := 7, rts := [5, 7, 10], kT := [5, 7, 10], vT := mpbT, hT := mpbH, nT := mpbN, dec := mpbDec, dec_ok := mpbDec_ok, kE := [4, 5, 7], oE := mpbO, vE := mpbV, hE := mpbG, nE := mpbM, decE := mpbDecE, decE_ok := mpbDecE_ok, step := mpbStep,
    hstep := fun x => match x with
      | .a n tg m d nx t mx dx mt T off => nx_6_mpb_a n tg m d nx t mx dx mt T off
  }
theorem hs_6_mpb : HSnd Try.prog Try.f6.ntmps (.block 2 (.loop LC_6_mpb)) (llH 7 [5, 7, 10] mpbDec 2 mpbCps) :=
  LL.handler_snd LL_6_mpb (C_21_mxg_snd) (drawA_sound (C_21_mxg_snd)) (laws_nil) 2 (cps := mpbCps) mpbCps_ok

/- ravelin/ravelinlaw11.RamPlays -/
noncomputable def F6 : Cfg := { F := 400, roots := [0, 1, 2, 3, 4, 5, 6, 7, 8, 9, 10, 11, 12, 13, 14], fl := ⟨false, false⟩, laws := [(0, llH 7 [1, 5, 7, 9] mpaDec 0 mpaCps), (2, llH 7 [5, 7, 10] mpbDec 2 mpbCps)] }
theorem run_6_r : ∀ (n : BitVec 64) (k : Nat) (d : List (List AV)), runS Try.prog (C_21_mxg) F6 Try.f6 [.int .i64 n, .slice ⟨1, 0, 0, 6, 0⟩ 6 k] [(1, ⟨false, [.arr [.int .i64, .int .i64, .int .i64, .bool, .int .u64, .int .u64] k d]⟩)] 2 = t_RamPlays_r n k d := fun _ _ _ => by kernel_rfl
theorem run_6_n : ∀ (n : BitVec 64), runS Try.prog (C_21_mxg) F6 Try.f6 [.int .i64 n, .nilslice] [] 2 = t_RamPlays_n n := fun _ => by kernel_rfl
theorem snd_6 : Snd Try.prog (C_21_mxg) := C_21_mxg_snd
theorem fok_6 : FOK Try.prog Try.f6 F6 := fok_of (laws_cons (subs_one (b := .block 0 (.loop LC_6_mpa)) (by kernel_rfl) hs_6_mpa) (laws_cons (subs_one (b := .block 2 (.loop LC_6_mpb)) (by kernel_rfl) hs_6_mpb) (laws_nil)))

end Go.Proofs.Ytonehcpccklkoaa

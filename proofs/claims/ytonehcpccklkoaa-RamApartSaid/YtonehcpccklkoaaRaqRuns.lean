import Derived.Test.YtonehcpccklkoaaSxW
import Derived.Test.YtonehcpccklkoaaSxY
import Derived.Test.YtonehcpccklkoaaSxLen2
import Derived.Test.YtonehcpccklkoaaSxEC
import Derived.Test.YtonehcpccklkoaaSxX
import Derived.Test.YtonehcpccklkoaaSxSR
import Derived.Test.YtonehcpccklkoaaVa03
import Derived.Test.YtonehcpccklkoaaVa11
import Derived.Test.YtonehcpccklkoaaVl11a
import Derived.Test.YtonehcpccklkoaaPlRam
import Derived.Test.YtonehcpccklkoaaVl11b
import Derived.Test.YtonehcpccklkoaaPlRam2
import Derived.Test.YtonehcpccklkoaaVl11c
import Derived.Test.YtonehcpccklkoaaPlRam3
import Derived.Test.YtonehcpccklkoaaVl11d
import Derived.Test.YtonehcpccklkoaaPlRamT
import Derived.Test.YtonehcpccklkoaaVl11e
import Derived.Test.YtonehcpccklkoaaPlRam4
import Derived.Test.YtonehcpccklkoaaVl11s
import Derived.Test.YtonehcpccklkoaaPlRamS
import Derived.Test.YtonehcpccklkoaaVl11t
import Derived.Test.YtonehcpccklkoaaPlRamU
import Derived.Test.YtonehcpccklkoaaPlRamR
import Derived.Test.YtonehcpccklkoaaVl11x
import Derived.Test.YtonehcpccklkoaaPlRamPA
import Derived.Test.YtonehcpccklkoaaVm11r
import Derived.KernelRfl
import Derived.Test.YtonehcpccklkoaaProg
set_option linter.unusedSimpArgs false
set_option linter.unusedVariables false
set_option linter.unnecessarySimpa false
/- What the functions of the seat answer. -/
namespace Go.Proofs.Ytonehcpccklkoaa
open Go Go.Sx Go.Proofs
set_option maxRecDepth 100000
set_option maxHeartbeats 4000000

/- ravelin/ram.New -/
def F8 : Cfg := { F := 400, roots := [0, 1, 2], fl := ⟨false, false⟩ }
noncomputable def C_8 : Oracle := inlS Try.prog 8 Try.f8 F8 nothing (nothing)
theorem C_8_snd : Snd Try.prog C_8 := inlS_snd Try.func8 (by kernel_rfl) nothing_snd nothing_snd

/- ravelin/ravelinkit.Pick -/
def F9 : Cfg := { F := 400, roots := [0, 1, 2], fl := ⟨true, false⟩ }
theorem run_9 : ∀ (k : BitVec 64) (n : BitVec 64), pureRun Try.prog C_8 F9 Try.f9 [.int .i64 k, .int .i64 n] = some (.int .i64 (v_kit_Pick k n)) := fun k n =>
 (show pureRun Try.prog C_8 F9 Try.f9 [.int .i64 k, .int .i64 n] = t_kit_Pick k n by kernel_rfl).trans (t_kit_Pick_eq k n)
noncomputable def C_9 : Oracle := pureE 9 (pure2 dI64 dI64 (fun k n => .int .i64 (v_kit_Pick k n))) (C_8)
theorem C_9_snd : Snd Try.prog C_9 := pureE_snd (pure2_ok (F := F9) (C_8_snd) Try.func9 (by kernel_rfl) run_9 (fun _ _ => rfl)) (C_8_snd)

/- (*ravelin/ram.Ram).part -/
def F23 : Cfg := { F := 400, roots := [0, 1, 2, 3, 4], fl := ⟨false, false⟩ }
noncomputable def C_23 : Oracle := inlS Try.prog 23 Try.f23 F23 C_9 (C_9)
theorem C_23_snd : Snd Try.prog C_23 := inlS_snd Try.func23 (by kernel_rfl) C_9_snd C_9_snd

/- (*ravelin/ram.Ram).number -/
def F26 : Cfg := { F := 400, roots := [0, 1, 2, 3, 4], fl := ⟨false, false⟩ }
noncomputable def C_26 : Oracle := inlS Try.prog 26 Try.f26 F26 C_23 (C_23)
theorem C_26_snd : Snd Try.prog C_26 := inlS_snd Try.func26 (by kernel_rfl) C_23_snd C_23_snd

/- a loop of ravelin/ram.put -/
noncomputable def FL_24_mpl : Cfg := { F := 400, roots := [0, 1, 6, 7], fl := ⟨false, false⟩, laws := [] }
noncomputable def LC_24_mpl : Code := loopIn 0 Try.f24
theorem nx_24_mpl_a : ∀ (m : Nat) (d : List (List AV)) (o : Nat) (n : Nat) (v : BitVec 64) (ln : BitVec 64) (ix : BitVec 64), codeA Try.prog (C_26) (drawA Try.prog FL_24_mpl.fl Try.f24.ntmps (C_26)) FL_24_mpl Try.f24.ntmps LC_24_mpl (tmOf [0, 1, 6, 7] (mplT (.a m d o n v ln ix))) (mplH (.a m d o n v ln ix)) (mplN (.a m d o n v ln ix)) (roundK 1 [0, 1, 6, 7] [0, 1, 6, 7] [] mplDec mplDecE) = mplStep (.a m d o n v ln ix) := fun _ _ _ _ _ _ _ => by kernel_rfl
noncomputable def LL_24_mpl : LL Try.prog (C_26) Try.f24.ntmps (drawA Try.prog FL_24_mpl.fl Try.f24.ntmps (C_26)) FL_24_mpl LC_24_mpl MplS MplE :=
  { N0 := 1, rts := [0, 1, 6, 7], kT := [0, 1, 6, 7], vT := mplT, hT := mplH, nT := mplN, dec := mplDec, dec_ok := mplDec_ok, kE := [], oE := mplO, vE := mplV, hE := mplG, nE := mplM, decE := mplDecE, decE_ok := mplDecE_ok, step := mplStep,
    hstep := fun x => match x with
      | .a m d o n v ln ix => nx_24_mpl_a m d o n v ln ix
  }
theorem hs_24_mpl : HSnd Try.prog Try.f24.ntmps (.block 0 (.loop LC_24_mpl)) (llH 1 [0, 1, 6, 7] mplDec 0 mplCps) :=
  LL.handler_snd LL_24_mpl (C_26_snd) (drawA_sound (C_26_snd)) (laws_nil) 0 (cps := mplCps) mplCps_ok

/- ravelin/ram.put -/
noncomputable def F24 : Cfg := { F := 400, roots := [0, 1, 2, 3, 4], fl := ⟨false, false⟩, laws := [(0, llH 1 [0, 1, 6, 7] mplDec 0 mplCps)] }
theorem fok_24 : FOK Try.prog Try.f24 F24 := fok_of (laws_cons (subs_one (b := .block 0 (.loop LC_24_mpl)) (by kernel_rfl) hs_24_mpl) (laws_nil))
noncomputable def C_24 : Oracle := inlS Try.prog 24 Try.f24 F24 C_26 (C_26)
theorem C_24_snd : Snd Try.prog C_24 := inlS_snd Try.func24 (by kernel_rfl) C_26_snd C_26_snd (hF := fok_24)

/- an entry: a number laid -/
noncomputable def FE_24_mpu : Cfg := { F := 400, roots := [0, 1, 2, 3, 4, 5, 6, 7, 8, 9, 10, 11], fl := ⟨false, false⟩, laws := [(0, llH 1 [0, 1, 6, 7] mplDec 0 mplCps)] }
noncomputable def C_24_mpu : Oracle := elC 24 mpuDec mpuCps mpuU (C_24)
theorem nx_24_mpu_a : ∀ (m : Nat) (d : List (List AV)) (o : Nat) (n : Nat) (v : BitVec 64), inlineA Try.prog (C_26) (drawA Try.prog) FE_24_mpu Try.f24 (mpuA (.a m d o n v)) (mpuH (.a m d o n v)) (mpuH (.a m d o n v)).length mpuDecR = mpuStep (.a m d o n v) := fun _ _ _ _ _ => by kernel_rfl
noncomputable def EL_24_mpu : EL Try.prog (C_26) FE_24_mpu Try.f24 MpuS MpuR :=
  { eA := mpuA, eH := mpuH, dec := mpuDec, dec_ok := mpuDec_ok, enc := mpuU, decR := mpuDecR, decR_ok := mpuDecR_ok, step := mpuStep, hstep := fun x => match x with
      | .a m d o n v => nx_24_mpu_a m d o n v
  }
theorem foke_24_mpu : FOK Try.prog Try.f24 FE_24_mpu := fok_of (laws_cons (subs_one (b := .block 0 (.loop LC_24_mpl)) (by kernel_rfl) hs_24_mpl) (laws_nil))
theorem C_24_mpu_snd : Snd Try.prog C_24_mpu := elC_snd EL_24_mpu (C_26_snd) Try.func24 (by kernel_rfl) (cps := mpuCps) mpuCps_ok (C_24_snd) (hF := foke_24_mpu)

/- (*ravelin/ram.Ram).tag -/
def F25 : Cfg := { F := 400, roots := [0, 1, 2, 3, 4], fl := ⟨false, false⟩ }
noncomputable def C_25 : Oracle := inlS Try.prog 25 Try.f25 F25 C_24_mpu (C_24_mpu)
theorem C_25_snd : Snd Try.prog C_25 := inlS_snd Try.func25 (by kernel_rfl) C_24_mpu_snd C_24_mpu_snd

/- (*ravelin/ram.Ram).Store -/
def F11 : Cfg := { F := 400, roots := [0, 1, 2, 3, 4, 5, 6, 7, 8, 9, 10], fl := ⟨false, false⟩ }
noncomputable def C_11 : Oracle := inlS Try.prog 11 Try.f11 F11 C_25 (C_25)
theorem C_11_snd : Snd Try.prog C_11 := inlS_snd Try.func11 (by kernel_rfl) C_25_snd C_25_snd

/- an entry: a store -/
def FE_11_mrs : Cfg := { F := 400, roots := [0, 1, 2, 3, 4, 5, 6, 7, 8, 9, 10, 11], fl := ⟨false, false⟩, laws := [] }
noncomputable def C_11_mrs : Oracle := elC 11 mrsDec mrsCps mrsU (C_11)
theorem nx_11_mrs_a : ∀ (n : Nat) (tg : List (List AV)) (m : Nat) (d : List (List AV)) (off : BitVec 64) (size : BitVec 64) (v : BitVec 64), inlineA Try.prog (C_25) (drawA Try.prog) FE_11_mrs Try.f11 (mrsA (.a n tg m d off size v)) (mrsH (.a n tg m d off size v)) (mrsH (.a n tg m d off size v)).length mrsDecR = mrsStep (.a n tg m d off size v) := fun _ _ _ _ _ _ _ => by kernel_rfl
noncomputable def EL_11_mrs : EL Try.prog (C_25) FE_11_mrs Try.f11 MrsS MrsR :=
  { eA := mrsA, eH := mrsH, dec := mrsDec, dec_ok := mrsDec_ok, enc := mrsU, decR := mrsDecR, decR_ok := mrsDecR_ok, step := mrsStep, hstep := fun x => match x with
      | .a n tg m d off size v => nx_11_mrs_a n tg m d off size v
  }
theorem C_11_mrs_snd : Snd Try.prog C_11_mrs := elC_snd EL_11_mrs (C_25_snd) Try.func11 (by kernel_rfl) (cps := mrsCps) mrsCps_ok (C_11_snd)

/- (*ravelin/ram.Ram).StoreCap -/
def F10 : Cfg := { F := 400, roots := [0, 1, 2, 3, 4, 5, 6, 7, 8, 9], fl := ⟨false, false⟩ }
noncomputable def C_10 : Oracle := inlS Try.prog 10 Try.f10 F10 C_11_mrs (C_11_mrs)
theorem C_10_snd : Snd Try.prog C_10 := inlS_snd Try.func10 (by kernel_rfl) C_11_mrs_snd C_11_mrs_snd

/- an entry: a granule laid -/
def FE_10_mrt : Cfg := { F := 400, roots := [0, 1, 2, 3, 4, 5, 6, 7, 8, 9, 10, 11], fl := ⟨false, false⟩, laws := [] }
noncomputable def C_10_mrt : Oracle := elC 10 mrtDec mrtCps mrtU (C_10)
theorem nx_10_mrt_a : ∀ (n : Nat) (tg : List (List AV)) (m : Nat) (d : List (List AV)) (off : BitVec 64) (t : Bool) (x : BitVec 64) (y : BitVec 64), inlineA Try.prog (C_11_mrs) (drawA Try.prog) FE_10_mrt Try.f10 (mrtA (.a n tg m d off t x y)) (mrtH (.a n tg m d off t x y)) (mrtH (.a n tg m d off t x y)).length mrtDecR = mrtStep (.a n tg m d off t x y) := fun _ _ _ _ _ _ _ _ => by kernel_rfl
noncomputable def EL_10_mrt : EL Try.prog (C_11_mrs) FE_10_mrt Try.f10 MrtS MrtR :=
  { eA := mrtA, eH := mrtH, dec := mrtDec, dec_ok := mrtDec_ok, enc := mrtU, decR := mrtDecR, decR_ok := mrtDecR_ok, step := mrtStep, hstep := fun x => match x with
      | .a n tg m d off t x y => nx_10_mrt_a n tg m d off t x y
  }
theorem C_10_mrt_snd : Snd Try.prog C_10_mrt := elC_snd EL_10_mrt (C_11_mrs_snd) Try.func10 (by kernel_rfl) (cps := mrtCps) mrtCps_ok (C_10_snd)

/- a loop of ravelin/ram.get -/
noncomputable def FL_27_mgl : Cfg := { F := 400, roots := [2, 5, 6, 7], fl := ⟨false, false⟩, laws := [] }
noncomputable def LC_27_mgl : Code := loopIn 0 Try.f27
theorem nx_27_mgl_a : ∀ (rw : Bool) (m : Nat) (d : List (List AV)) (o : Nat) (n : Nat) (v : BitVec 64) (ln : BitVec 64) (ix : BitVec 64), codeA Try.prog (C_10_mrt) (drawA Try.prog FL_27_mgl.fl Try.f27.ntmps (C_10_mrt)) FL_27_mgl Try.f27.ntmps LC_27_mgl (tmOf [2, 5, 6, 7] (mglT (.a rw m d o n v ln ix))) (mglH (.a rw m d o n v ln ix)) (mglN (.a rw m d o n v ln ix)) (roundK 1 [2, 5, 6, 7] [2, 5, 6, 7] [2] mglDec mglDecE) = mglStep (.a rw m d o n v ln ix) := fun _ _ _ _ _ _ _ _ => by kernel_rfl
noncomputable def LL_27_mgl : LL Try.prog (C_10_mrt) Try.f27.ntmps (drawA Try.prog FL_27_mgl.fl Try.f27.ntmps (C_10_mrt)) FL_27_mgl LC_27_mgl MglS MglE :=
  { N0 := 1, rts := [2, 5, 6, 7], kT := [2, 5, 6, 7], vT := mglT, hT := mglH, nT := mglN, dec := mglDec, dec_ok := mglDec_ok, kE := [2], oE := mglO, vE := mglV, hE := mglG, nE := mglM, decE := mglDecE, decE_ok := mglDecE_ok, step := mglStep,
    hstep := fun x => match x with
      | .a rw m d o n v ln ix => nx_27_mgl_a rw m d o n v ln ix
  }
theorem hs_27_mgl : HSnd Try.prog Try.f27.ntmps (.block 0 (.loop LC_27_mgl)) (orH 1 (llH 1 [2, 5, 6, 7] mglDec 0 mglCps) (selfH Try.prog (C_10_mrt) (drawA Try.prog FL_27_mgl.fl Try.f27.ntmps (C_10_mrt)) FL_27_mgl Try.f27.ntmps (.block 0 (.loop LC_27_mgl)))) :=
  orH_snd (LL.handler_snd LL_27_mgl (C_10_mrt_snd) (drawA_sound (C_10_mrt_snd)) (laws_nil) 0 (cps := mglCps) mglCps_ok) (selfH_snd (C_10_mrt_snd) (drawA_sound (C_10_mrt_snd)) (laws_nil))

/- ravelin/ram.get -/
noncomputable def F27 : Cfg := { F := 400, roots := [0, 1, 2, 3, 4], fl := ⟨false, false⟩, laws := [(0, orH 1 (llH 1 [2, 5, 6, 7] mglDec 0 mglCps) (selfH Try.prog (C_10_mrt) (drawA Try.prog FL_27_mgl.fl Try.f27.ntmps (C_10_mrt)) FL_27_mgl Try.f27.ntmps (.block 0 (.loop LC_27_mgl))))] }
theorem fok_27 : FOK Try.prog Try.f27 F27 := fok_of (laws_cons (subs_one (b := .block 0 (.loop LC_27_mgl)) (by kernel_rfl) hs_27_mgl) (laws_nil))
noncomputable def C_27 : Oracle := inlS Try.prog 27 Try.f27 F27 C_10_mrt (C_10_mrt)
theorem C_27_snd : Snd Try.prog C_27 := inlS_snd Try.func27 (by kernel_rfl) C_10_mrt_snd C_10_mrt_snd (hF := fok_27)

/- an entry: a number of bytes -/
noncomputable def FE_27_mge : Cfg := { F := 400, roots := [0, 1, 2, 3, 4, 5, 6, 7, 8, 9, 10, 11], fl := ⟨false, false⟩, laws := [(0, orH 1 (llH 1 [2, 5, 6, 7] mglDec 0 mglCps) (selfH Try.prog (C_10_mrt) (drawA Try.prog FL_27_mgl.fl Try.f27.ntmps (C_10_mrt)) FL_27_mgl Try.f27.ntmps (.block 0 (.loop LC_27_mgl))))] }
noncomputable def C_27_mge : Oracle := elC 27 mgeDec mgeCps mgeU (C_27)
theorem nx_27_mge_s : ∀ (rw : Bool) (m : Nat) (d : List (List AV)) (o : Nat) (n : Nat), inlineA Try.prog (C_10_mrt) (drawA Try.prog) FE_27_mge Try.f27 (mgeA (.s rw m d o n)) (mgeH (.s rw m d o n)) (mgeH (.s rw m d o n)).length mgeDecR = mgeStep (.s rw m d o n) := fun _ _ _ _ _ => by kernel_rfl
theorem nx_27_mge_z : inlineA Try.prog (C_10_mrt) (drawA Try.prog) FE_27_mge Try.f27 (mgeA (.z )) (mgeH (.z )) (mgeH (.z )).length mgeDecR = mgeStep (.z ) := by kernel_rfl
noncomputable def EL_27_mge : EL Try.prog (C_10_mrt) FE_27_mge Try.f27 MgeS MgeR :=
  { eA := mgeA, eH := mgeH, dec := mgeDec, dec_ok := mgeDec_ok, enc := mgeU, decR := mgeDecR, decR_ok := mgeDecR_ok, step := mgeStep, hstep := fun x => match x with
      | .s rw m d o n => nx_27_mge_s rw m d o n
      | .z => nx_27_mge_z 
  }
theorem foke_27_mge : FOK Try.prog Try.f27 FE_27_mge := fok_of (laws_cons (subs_one (b := .block 0 (.loop LC_27_mgl)) (by kernel_rfl) hs_27_mgl) (laws_nil))
theorem C_27_mge_snd : Snd Try.prog C_27_mge := elC_snd EL_27_mge (C_10_mrt_snd) Try.func27 (by kernel_rfl) (cps := mgeCps) mgeCps_ok (C_27_snd) (hF := foke_27_mge)

/- (*ravelin/ram.Ram).Load -/
def F16 : Cfg := { F := 400, roots := [0, 1, 2, 3, 4, 5, 6], fl := ⟨false, false⟩ }
noncomputable def C_16 : Oracle := inlS Try.prog 16 Try.f16 F16 C_27_mge (C_27_mge)
theorem C_16_snd : Snd Try.prog C_16 := inlS_snd Try.func16 (by kernel_rfl) C_27_mge_snd C_27_mge_snd

/- an entry: a load -/
def FE_16_mrl : Cfg := { F := 400, roots := [0, 1, 2, 3, 4, 5, 6, 7, 8, 9, 10, 11], fl := ⟨false, false⟩, laws := [] }
noncomputable def C_16_mrl : Oracle := elC 16 mrlDec mrlCps mrlU (C_16)
theorem nx_16_mrl_a : ∀ (n : Nat) (tg : List (List AV)) (m : Nat) (d : List (List AV)) (off : BitVec 64) (size : BitVec 64), inlineA Try.prog (C_27_mge) (drawA Try.prog) FE_16_mrl Try.f16 (mrlA (.a n tg m d off size)) (mrlH (.a n tg m d off size)) (mrlH (.a n tg m d off size)).length mrlDecR = mrlStep (.a n tg m d off size) := fun _ _ _ _ _ _ => by kernel_rfl
noncomputable def EL_16_mrl : EL Try.prog (C_27_mge) FE_16_mrl Try.f16 MrlS MrlR :=
  { eA := mrlA, eH := mrlH, dec := mrlDec, dec_ok := mrlDec_ok, enc := mrlU, decR := mrlDecR, decR_ok := mrlDecR_ok, step := mrlStep, hstep := fun x => match x with
      | .a n tg m d off size => nx_16_mrl_a n tg m d off size
  }
theorem C_16_mrl_snd : Snd Try.prog C_16_mrl := elC_snd EL_16_mrl (C_27_mge_snd) Try.func16 (by kernel_rfl) (cps := mrlCps) mrlCps_ok (C_16_snd)

/- (*ravelin/ram.Ram).LoadCap -/
def F12 : Cfg := { F := 400, roots := [0, 1, 2, 3, 4, 5, 6, 7, 8], fl := ⟨false, false⟩ }
noncomputable def C_12 : Oracle := inlS Try.prog 12 Try.f12 F12 C_16_mrl (C_16_mrl)
theorem C_12_snd : Snd Try.prog C_12 := inlS_snd Try.func12 (by kernel_rfl) C_16_mrl_snd C_16_mrl_snd

/- an entry: a granule -/
def FE_12_mrc : Cfg := { F := 400, roots := [0, 1, 2, 3, 4, 5, 6, 7, 8, 9, 10, 11], fl := ⟨false, false⟩, laws := [] }
noncomputable def C_12_mrc : Oracle := elC 12 mrcDec mrcCps mrcU (C_12)
theorem nx_12_mrc_a : ∀ (n : Nat) (tg : List (List AV)) (m : Nat) (d : List (List AV)) (off : BitVec 64), inlineA Try.prog (C_16_mrl) (drawA Try.prog) FE_12_mrc Try.f12 (mrcA (.a n tg m d off)) (mrcH (.a n tg m d off)) (mrcH (.a n tg m d off)).length mrcDecR = mrcStep (.a n tg m d off) := fun _ _ _ _ _ => by kernel_rfl
noncomputable def EL_12_mrc : EL Try.prog (C_16_mrl) FE_12_mrc Try.f12 MrcS MrcR :=
  { eA := mrcA, eH := mrcH, dec := mrcDec, dec_ok := mrcDec_ok, enc := mrcU, decR := mrcDecR, decR_ok := mrcDecR_ok, step := mrcStep, hstep := fun x => match x with
      | .a n tg m d off => nx_12_mrc_a n tg m d off
  }
theorem C_12_mrc_snd : Snd Try.prog C_12_mrc := elC_snd EL_12_mrc (C_16_mrl_snd) Try.func12 (by kernel_rfl) (cps := mrcCps) mrcCps_ok (C_12_snd)

/- a loop of ravelin/ravelinkit.SameInts -/
noncomputable def FL_13_msl : Cfg := { F := 400, roots := [0, 1, 5], fl := ⟨false, false⟩, laws := [] }
noncomputable def LC_13_msl : Code := loopIn 0 Try.f13
theorem nx_13_msl_a : ∀ (ra : Bool) (ma : Nat) (da : List (List AV)) (rb : Bool) (mb : Nat) (db : List (List AV)) (na : Nat) (nb : Nat) (i : BitVec 64), codeA Try.prog (C_12_mrc) (drawA Try.prog FL_13_msl.fl Try.f13.ntmps (C_12_mrc)) FL_13_msl Try.f13.ntmps LC_13_msl (tmOf [0, 1, 5] (mslT (.a ra ma da rb mb db na nb i))) (mslH (.a ra ma da rb mb db na nb i)) (mslN (.a ra ma da rb mb db na nb i)) (roundK 2 [0, 1, 5] [0, 1, 5] [4] mslDec mslDecE) = mslStep (.a ra ma da rb mb db na nb i) := fun _ _ _ _ _ _ _ _ _ => by kernel_rfl
noncomputable def LL_13_msl : LL Try.prog (C_12_mrc) Try.f13.ntmps (drawA Try.prog FL_13_msl.fl Try.f13.ntmps (C_12_mrc)) FL_13_msl LC_13_msl MslS MslE :=
  { N0 := 2, rts := [0, 1, 5], kT := [0, 1, 5], vT := mslT, hT := mslH, nT := mslN, dec := mslDec, dec_ok := mslDec_ok, kE := [4], oE := mslO, vE := mslV, hE := mslG, nE := mslM, decE := mslDecE, decE_ok := mslDecE_ok, step := mslStep,
    hstep := fun x => match x with
      | .a ra ma da rb mb db na nb i => nx_13_msl_a ra ma da rb mb db na nb i
  }
theorem hs_13_msl : HSnd Try.prog Try.f13.ntmps (.block 0 (.loop LC_13_msl)) (orH 2 (llH 2 [0, 1, 5] mslDec 0 mslCps) (selfH Try.prog (C_12_mrc) (drawA Try.prog FL_13_msl.fl Try.f13.ntmps (C_12_mrc)) FL_13_msl Try.f13.ntmps (.block 0 (.loop LC_13_msl)))) :=
  orH_snd (LL.handler_snd LL_13_msl (C_12_mrc_snd) (drawA_sound (C_12_mrc_snd)) (laws_nil) 0 (cps := mslCps) mslCps_ok) (selfH_snd (C_12_mrc_snd) (drawA_sound (C_12_mrc_snd)) (laws_nil))

/- ravelin/ravelinkit.SameInts -/
noncomputable def F13 : Cfg := { F := 400, roots := [0, 1, 2, 3, 4, 5], fl := ⟨false, false⟩, laws := [(0, orH 2 (llH 2 [0, 1, 5] mslDec 0 mslCps) (selfH Try.prog (C_12_mrc) (drawA Try.prog FL_13_msl.fl Try.f13.ntmps (C_12_mrc)) FL_13_msl Try.f13.ntmps (.block 0 (.loop LC_13_msl))))] }
theorem fok_13 : FOK Try.prog Try.f13 F13 := fok_of (laws_cons (subs_one (b := .block 0 (.loop LC_13_msl)) (by kernel_rfl) hs_13_msl) (laws_nil))
noncomputable def C_13 : Oracle := inlS Try.prog 13 Try.f13 F13 C_12_mrc (C_12_mrc)
theorem C_13_snd : Snd Try.prog C_13 := inlS_snd Try.func13 (by kernel_rfl) C_12_mrc_snd C_12_mrc_snd (hF := fok_13)

/- an entry: are lists the same? -/
noncomputable def FE_13_msi : Cfg := { F := 400, roots := [0, 1, 2, 3, 4, 5, 6, 7, 8, 9, 10, 11], fl := ⟨false, false⟩, laws := [(0, orH 2 (llH 2 [0, 1, 5] mslDec 0 mslCps) (selfH Try.prog (C_12_mrc) (drawA Try.prog FL_13_msl.fl Try.f13.ntmps (C_12_mrc)) FL_13_msl Try.f13.ntmps (.block 0 (.loop LC_13_msl))))] }
noncomputable def C_13_msi : Oracle := elC 13 msiDec msiCps msiU (C_13)
theorem nx_13_msi_nn : inlineA Try.prog (C_12_mrc) (drawA Try.prog) FE_13_msi Try.f13 (msiA (.nn )) (msiH (.nn )) (msiH (.nn )).length msiDecR = msiStep (.nn ) := by kernel_rfl
theorem nx_13_msi_rn : ∀ (ra : Bool) (ma : Nat) (da : List (List AV)) (na : Nat), inlineA Try.prog (C_12_mrc) (drawA Try.prog) FE_13_msi Try.f13 (msiA (.rn ra ma da na)) (msiH (.rn ra ma da na)) (msiH (.rn ra ma da na)).length msiDecR = msiStep (.rn ra ma da na) := fun _ _ _ _ => by kernel_rfl
theorem nx_13_msi_nr : ∀ (ra : Bool) (ma : Nat) (da : List (List AV)) (na : Nat), inlineA Try.prog (C_12_mrc) (drawA Try.prog) FE_13_msi Try.f13 (msiA (.nr ra ma da na)) (msiH (.nr ra ma da na)) (msiH (.nr ra ma da na)).length msiDecR = msiStep (.nr ra ma da na) := fun _ _ _ _ => by kernel_rfl
theorem nx_13_msi_rr : ∀ (ra : Bool) (ma : Nat) (da : List (List AV)) (na : Nat) (rb : Bool) (mb : Nat) (db : List (List AV)) (nb : Nat), inlineA Try.prog (C_12_mrc) (drawA Try.prog) FE_13_msi Try.f13 (msiA (.rr ra ma da na rb mb db nb)) (msiH (.rr ra ma da na rb mb db nb)) (msiH (.rr ra ma da na rb mb db nb)).length msiDecR = msiStep (.rr ra ma da na rb mb db nb) := fun _ _ _ _ _ _ _ _ => by kernel_rfl
noncomputable def EL_13_msi : EL Try.prog (C_12_mrc) FE_13_msi Try.f13 MsiS MsiR :=
  { eA := msiA, eH := msiH, dec := msiDec, dec_ok := msiDec_ok, enc := msiU, decR := msiDecR, decR_ok := msiDecR_ok, step := msiStep, hstep := fun x => match x with
      | .nn => nx_13_msi_nn 
      | .rn ra ma da na => nx_13_msi_rn ra ma da na
      | .nr ra ma da na => nx_13_msi_nr ra ma da na
      | .rr ra ma da na rb mb db nb => nx_13_msi_rr ra ma da na rb mb db nb
  }
theorem foke_13_msi : FOK Try.prog Try.f13 FE_13_msi := fok_of (laws_cons (subs_one (b := .block 0 (.loop LC_13_msl)) (by kernel_rfl) hs_13_msl) (laws_nil))
theorem C_13_msi_snd : Snd Try.prog C_13_msi := elC_snd EL_13_msi (C_12_mrc_snd) Try.func13 (by kernel_rfl) (cps := msiCps) msiCps_ok (C_13_snd) (hF := foke_13_msi)

/- a loop of (*ravelin/ram.Ram).Tagged -/
noncomputable def FL_14_mtg : Cfg := { F := 400, roots := [0, 3, 4], fl := ⟨false, false⟩, laws := [] }
noncomputable def LC_14_mtg : Code := loopIn 0 Try.f14
theorem nx_14_mtg_z : ∀ (n : Nat) (tg : List (List AV)) (m : Nat) (d : List (List AV)) (i : BitVec 64), codeA Try.prog (C_13_msi) (drawA Try.prog FL_14_mtg.fl Try.f14.ntmps (C_13_msi)) FL_14_mtg Try.f14.ntmps LC_14_mtg (tmOf [0, 3, 4] (mtgT (.z n tg m d i))) (mtgH (.z n tg m d i)) (mtgN (.z n tg m d i)) (roundK 2 [0, 3, 4] [0, 3, 4] [3] mtgDec mtgDecE) = mtgStep (.z n tg m d i) := fun _ _ _ _ _ => by kernel_rfl
theorem nx_14_mtg_s : ∀ (n : Nat) (tg : List (List AV)) (m : Nat) (d : List (List AV)) (k : Nat) (kk : Nat) (g : List (List AV)) (i : BitVec 64), codeA Try.prog (C_13_msi) (drawA Try.prog FL_14_mtg.fl Try.f14.ntmps (C_13_msi)) FL_14_mtg Try.f14.ntmps LC_14_mtg (tmOf [0, 3, 4] (mtgT (.s n tg m d k kk g i))) (mtgH (.s n tg m d k kk g i)) (mtgN (.s n tg m d k kk g i)) (roundK 2 [0, 3, 4] [0, 3, 4] [3] mtgDec mtgDecE) = mtgStep (.s n tg m d k kk g i) := fun _ _ _ _ _ _ _ _ => by kernel_rfl
noncomputable def LL_14_mtg : LL Try.prog (C_13_msi) Try.f14.ntmps (drawA Try.prog FL_14_mtg.fl Try.f14.ntmps (C_13_msi)) FL_14_mtg LC_14_mtg MtgS MtgE :=
  { N0 := 2, rts := [0, 3, 4], kT := [0, 3, 4], vT := mtgT, hT := mtgH, nT := mtgN, dec := mtgDec, dec_ok := mtgDec_ok, kE := [3], oE := mtgO, vE := mtgV, hE := mtgG, nE := mtgM, decE := mtgDecE, decE_ok := mtgDecE_ok, step := mtgStep,
    hstep := fun x => match x with
      | .z n tg m d i => nx_14_mtg_z n tg m d i
      | .s n tg m d k kk g i => nx_14_mtg_s n tg m d k kk g i
  }
theorem hs_14_mtg : HSnd Try.prog Try.f14.ntmps (.block 0 (.loop LC_14_mtg)) (llH 2 [0, 3, 4] mtgDec 0 mtgCps) :=
  LL.handler_snd LL_14_mtg (C_13_msi_snd) (drawA_sound (C_13_msi_snd)) (laws_nil) 0 (cps := mtgCps) mtgCps_ok

/- (*ravelin/ram.Ram).Tagged -/
noncomputable def F14 : Cfg := { F := 400, roots := [0, 1, 2, 3, 4, 5, 6], fl := ⟨false, false⟩, laws := [(0, llH 2 [0, 3, 4] mtgDec 0 mtgCps)] }
theorem fok_14 : FOK Try.prog Try.f14 F14 := fok_of (laws_cons (subs_one (b := .block 0 (.loop LC_14_mtg)) (by kernel_rfl) hs_14_mtg) (laws_nil))
noncomputable def C_14 : Oracle := inlS Try.prog 14 Try.f14 F14 C_13_msi (C_13_msi)
theorem C_14_snd : Snd Try.prog C_14 := inlS_snd Try.func14 (by kernel_rfl) C_13_msi_snd C_13_msi_snd (hF := fok_14)

/- an entry: where tags are -/
noncomputable def FE_14_mrg : Cfg := { F := 400, roots := [0, 1, 2, 3, 4, 5, 6, 7, 8, 9, 10, 11], fl := ⟨false, false⟩, laws := [(0, llH 2 [0, 3, 4] mtgDec 0 mtgCps)] }
noncomputable def C_14_mrg : Oracle := elC 14 mrgDec mrgCps mrgU (C_14)
theorem nx_14_mrg_a : ∀ (n : Nat) (tg : List (List AV)) (m : Nat) (d : List (List AV)), inlineA Try.prog (C_13_msi) (drawA Try.prog) FE_14_mrg Try.f14 (mrgA (.a n tg m d)) (mrgH (.a n tg m d)) (mrgH (.a n tg m d)).length mrgDecR = mrgStep (.a n tg m d) := fun _ _ _ _ => by kernel_rfl
noncomputable def EL_14_mrg : EL Try.prog (C_13_msi) FE_14_mrg Try.f14 MrgS MrgR :=
  { eA := mrgA, eH := mrgH, dec := mrgDec, dec_ok := mrgDec_ok, enc := mrgU, decR := mrgDecR, decR_ok := mrgDecR_ok, step := mrgStep, hstep := fun x => match x with
      | .a n tg m d => nx_14_mrg_a n tg m d
  }
theorem foke_14_mrg : FOK Try.prog Try.f14 FE_14_mrg := fok_of (laws_cons (subs_one (b := .block 0 (.loop LC_14_mtg)) (by kernel_rfl) hs_14_mtg) (laws_nil))
theorem C_14_mrg_snd : Snd Try.prog C_14_mrg := elC_snd EL_14_mrg (C_13_msi_snd) Try.func14 (by kernel_rfl) (cps := mrgCps) mrgCps_ok (C_14_snd) (hF := foke_14_mrg)

/- ravelin/ravelinlaw11.known -/
def F15 : Cfg := { F := 400, roots := [0, 1, 2, 3, 4, 5, 6, 7, 8], fl := ⟨true, false⟩ }
theorem run_15 : pureRun Try.prog C_14_mrg F15 Try.f15 [] = some (.bool v_l11_known) := (show pureRun Try.prog C_14_mrg F15 Try.f15 [] = (some (AV.bool (true))) by kernel_rfl).trans (rfl)
noncomputable def C_15 : Oracle := pureE 15 (pure0  (.bool v_l11_known)) (C_14_mrg)
theorem C_15_snd : Snd Try.prog C_15 := pureE_snd (pure0_ok (F := F15) (C_14_mrg_snd) Try.func15 (by kernel_rfl) run_15 rfl) (C_14_mrg_snd)

/- a loop of ravelin/ravelinlaw11.RamApart -/
noncomputable def FL_5_mrx : Cfg := { F := 400, roots := [5, 7, 10, 11, 12, 13, 14, 15], fl := ⟨false, false⟩, laws := [] }
noncomputable def LC_5_mrx : Code := loopIn 0 Try.f5
theorem nx_5_mrx_a : ∀ (n : Nat) (tg : List (List AV)) (m : Nat) (d : List (List AV)) (n2 : Nat) (tg2 : List (List AV)) (m2 : Nat) (d2 : List (List AV)) (x : BitVec 64) (y : BitVec 64) (at_ : BitVec 64) (to : BitVec 64) (gg : BitVec 64) (i : BitVec 64), codeA Try.prog (C_15) (drawA Try.prog FL_5_mrx.fl Try.f5.ntmps (C_15)) FL_5_mrx Try.f5.ntmps LC_5_mrx (tmOf [5, 7, 10, 11, 12, 13, 14, 15] (mrxT (.a n tg m d n2 tg2 m2 d2 x y at_ to gg i))) (mrxH (.a n tg m d n2 tg2 m2 d2 x y at_ to gg i)) (mrxN (.a n tg m d n2 tg2 m2 d2 x y at_ to gg i)) (roundK 11 [5, 7, 10, 11, 12, 13, 14, 15] [5, 7, 10, 11, 12, 13, 14, 15] [4, 5, 10, 11, 12, 13, 14] mrxDec mrxDecE) = mrxStep (.a n tg m d n2 tg2 m2 d2 x y at_ to gg i) := fun _ _ _ _ _ _ _ _ _ _ _ _ _ _ => by kernel_rfl
noncomputable def LL_5_mrx : LL Try.prog (C_15) Try.f5.ntmps (drawA Try.prog FL_5_mrx.fl Try.f5.ntmps (C_15)) FL_5_mrx LC_5_mrx MrxS MrxE :=
  { N0 := 11, rts := [5, 7, 10, 11, 12, 13, 14, 15], kT := [5, 7, 10, 11, 12, 13, 14, 15], vT := mrxT, hT := mrxH, nT := mrxN, dec := mrxDec, dec_ok := mrxDec_ok, kE := [4, 5, 10, 11, 12, 13, 14], oE := mrxO, vE := mrxV, hE := mrxG, nE := mrxM, decE := mrxDecE, decE_ok := mrxDecE_ok, step := mrxStep,
    hstep := fun x => match x with
      | .a n tg m d n2 tg2 m2 d2 x y at_ to gg i => nx_5_mrx_a n tg m d n2 tg2 m2 d2 x y at_ to gg i
  }
theorem hs_5_mrx : HSnd Try.prog Try.f5.ntmps (.block 0 (.loop LC_5_mrx)) (llH 11 [5, 7, 10, 11, 12, 13, 14, 15] mrxDec 0 mrxCps) :=
  LL.handler_snd LL_5_mrx (C_15_snd) (drawA_sound (C_15_snd)) (laws_nil) 0 (cps := mrxCps) mrxCps_ok

/- a loop of ravelin/ravelinlaw11.RamApart -/
noncomputable def FL_5_mra : Cfg := { F := 400, roots := [5, 7, 10, 11, 12, 13, 14, 15], fl := ⟨false, false⟩, laws := [] }
noncomputable def LC_5_mra : Code := loopIn 0 Try.f5
theorem nx_5_mra_a : ∀ (n : Nat) (tg : List (List AV)) (m : Nat) (d : List (List AV)) (n2 : Nat) (tg2 : List (List AV)) (m2 : Nat) (d2 : List (List AV)) (x : BitVec 64) (y : BitVec 64) (at_ : BitVec 64) (to : BitVec 64) (gg : BitVec 64) (i : BitVec 64), codeA Try.prog (C_15) (drawA Try.prog FL_5_mra.fl Try.f5.ntmps (C_15)) FL_5_mra Try.f5.ntmps LC_5_mra (tmOf [5, 7, 10, 11, 12, 13, 14, 15] (mraT (.a n tg m d n2 tg2 m2 d2 x y at_ to gg i))) (mraH (.a n tg m d n2 tg2 m2 d2 x y at_ to gg i)) (mraN (.a n tg m d n2 tg2 m2 d2 x y at_ to gg i)) (roundK 9 [5, 7, 10, 11, 12, 13, 14, 15] [5, 7, 10, 11, 12, 13, 14, 15] [4, 5, 10, 11, 12, 13, 14] mraDec mraDecE) = mraStep (.a n tg m d n2 tg2 m2 d2 x y at_ to gg i) := fun _ _ _ _ _ _ _ _ _ _ _ _ _ _ => by kernel_rfl
noncomputable def LL_5_mra : LL Try.prog (C_15) Try.f5.ntmps (drawA Try.prog FL_5_mra.fl Try.f5.ntmps (C_15)) FL_5_mra LC_5_mra MraS MraE :=
  { N0 := 9, rts := [5, 7, 10, 11, 12, 13, 14, 15], kT := [5, 7, 10, 11, 12, 13, 14, 15], vT := mraT, hT := mraH, nT := mraN, dec := mraDec, dec_ok := mraDec_ok, kE := [4, 5, 10, 11, 12, 13, 14], oE := mraO, vE := mraV, hE := mraG, nE := mraM, decE := mraDecE, decE_ok := mraDecE_ok, step := mraStep,
    hstep := fun x => match x with
      | .a n tg m d n2 tg2 m2 d2 x y at_ to gg i => nx_5_mra_a n tg m d n2 tg2 m2 d2 x y at_ to gg i
  }
theorem hs_5_mra : HSnd Try.prog Try.f5.ntmps (.block 0 (.loop LC_5_mra)) (orH 9 (llH 9 [5, 7, 10, 11, 12, 13, 14, 15] mraDec 0 mraCps) (llH 11 [5, 7, 10, 11, 12, 13, 14, 15] mrxDec 0 mrxCps)) :=
  orH_snd (LL.handler_snd LL_5_mra (C_15_snd) (drawA_sound (C_15_snd)) (laws_nil) 0 (cps := mraCps) mraCps_ok) hs_5_mrx

/- ravelin/ravelinlaw11.RamApart -/
noncomputable def F5 : Cfg := { F := 400, roots := [0, 1, 2, 3, 4, 5, 6, 7, 8, 9, 10, 11, 12, 13, 14, 15, 16, 17, 18, 19, 20], fl := ⟨false, false⟩, laws := [(0, orH 9 (llH 9 [5, 7, 10, 11, 12, 13, 14, 15] mraDec 0 mraCps) (llH 11 [5, 7, 10, 11, 12, 13, 14, 15] mrxDec 0 mrxCps))] }
theorem run_5_x : ∀ (a_0 : BitVec 64) (a_1 : BitVec 64) (a_2 : BitVec 64) (a_3 : Bool) (a_4 : BitVec 64) (a_5 : BitVec 64) (b_0 : BitVec 64) (b_1 : BitVec 64) (b_2 : BitVec 64) (b_3 : Bool) (b_4 : BitVec 64) (b_5 : BitVec 64), runS Try.prog (C_15) F5 Try.f5 [.agg [.int .i64 a_0, .int .i64 a_1, .int .i64 a_2, .bool a_3, .int .u64 a_4, .int .u64 a_5], .agg [.int .i64 b_0, .int .i64 b_1, .int .i64 b_2, .bool b_3, .int .u64 b_4, .int .u64 b_5]] [] 2 = t_RamApart_x a_0 a_1 a_2 a_3 a_4 a_5 b_0 b_1 b_2 b_3 b_4 b_5 := fun _ _ _ _ _ _ _ _ _ _ _ _ => by kernel_rfl
theorem snd_5 : Snd Try.prog (C_15) := C_15_snd
theorem fok_5 : FOK Try.prog Try.f5 F5 := fok_of (laws_cons (subs_one (b := .block 0 (.loop LC_5_mra)) (by kernel_rfl) hs_5_mra) (laws_nil))

end Go.Proofs.Ytonehcpccklkoaa

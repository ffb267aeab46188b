import Derived.Test.YtenimiinkhjdbaaSxW
import Derived.Test.YtenimiinkhjdbaaSxY
import Derived.Test.YtenimiinkhjdbaaSxLen2
import Derived.Test.YtenimiinkhjdbaaSxEC
import Derived.Test.YtenimiinkhjdbaaSxX
import Derived.Test.YtenimiinkhjdbaaSxSR
import Derived.Test.YtenimiinkhjdbaaVa03
import Derived.Test.YtenimiinkhjdbaaVa14
import Derived.Test.YtenimiinkhjdbaaVl14a
import Derived.Test.YtenimiinkhjdbaaVl14b
import Derived.Test.YtenimiinkhjdbaaPlSr
import Derived.Test.YtenimiinkhjdbaaPlSrB
import Derived.Test.YtenimiinkhjdbaaVl14c
import Derived.Test.YtenimiinkhjdbaaPlSr2
import Derived.Test.YtenimiinkhjdbaaVl14d
import Derived.Test.YtenimiinkhjdbaaPlSr4
import Derived.Test.YtenimiinkhjdbaaVm14r
import Derived.KernelRfl
import Derived.Test.YtenimiinkhjdbaaProg
set_option linter.unusedSimpArgs false
set_option linter.unusedVariables false
set_option linter.unnecessarySimpa false
/- What the functions of the seat answer. -/
namespace Go.Proofs.Ytenimiinkhjdbaa
open Go Go.Sx Go.Proofs
set_option maxRecDepth 100000
set_option maxHeartbeats 4000000

/- ravelin/serial.New -/
def F8 : Cfg := { F := 400, roots := [0], fl := ⟨false, false⟩ }
noncomputable def C_8 : Oracle := inlS Try.prog 8 Try.f8 F8 nothing (nothing)
theorem C_8_snd : Snd Try.prog C_8 := inlS_snd Try.func8 (by kernel_rfl) nothing_snd nothing_snd

/- (*ravelin/serial.queue).Input -/
def F9 : Cfg := { F := 400, roots := [0, 1, 2], fl := ⟨false, false⟩ }
noncomputable def C_9 : Oracle := inlS Try.prog 9 Try.f9 F9 C_8 (C_8)
theorem C_9_snd : Snd Try.prog C_9 := inlS_snd Try.func9 (by kernel_rfl) C_8_snd C_8_snd

/- an entry: a byte comes -/
def FE_9_ui : Cfg := { F := 400, roots := [0, 1, 2, 3, 4, 5, 6, 7, 8, 9, 10, 11], fl := ⟨false, false⟩, laws := [] }
noncomputable def C_9_ui : Oracle := elC 9 uiDec uiCps uiU (C_9)
theorem nx_9_ui_n : ∀ (q : List (List AV)) (fi : BitVec 64) (cn : BitVec 64) (en : Bool) (b : BitVec 8), inlineA Try.prog (C_8) (drawA Try.prog) FE_9_ui Try.f9 (uiA (.n q fi cn en b)) (uiH (.n q fi cn en b)) (uiH (.n q fi cn en b)).length uiDecR = uiStep (.n q fi cn en b) := fun _ _ _ _ _ => by kernel_rfl
theorem nx_9_ui_t : ∀ (q : List (List AV)) (fi : BitVec 64) (cn : BitVec 64) (en : Bool) (tb : BitVec 8) (b : BitVec 8), inlineA Try.prog (C_8) (drawA Try.prog) FE_9_ui Try.f9 (uiA (.t q fi cn en tb b)) (uiH (.t q fi cn en tb b)) (uiH (.t q fi cn en tb b)).length uiDecR = uiStep (.t q fi cn en tb b) := fun _ _ _ _ _ _ => by kernel_rfl
noncomputable def EL_9_ui : EL Try.prog (C_8) FE_9_ui Try.f9 UiS UiR :=
  { eA := uiA, eH := uiH, dec := uiDec, dec_ok := uiDec_ok, enc := uiU, decR := uiDecR, decR_ok := uiDecR_ok, step := uiStep, hstep := fun x => match x with
      | .n q fi cn en b => nx_9_ui_n q fi cn en b
      | .t q fi cn en tb b => nx_9_ui_t q fi cn en tb b
  }
theorem C_9_ui_snd : Snd Try.prog C_9_ui := elC_snd EL_9_ui (C_8_snd) Try.func9 (by kernel_rfl) (cps := uiCps) uiCps_ok (C_9_snd)

/- ravelin/serial.there -/
def F33 : Cfg := { F := 400, roots := [0, 1, 2], fl := ⟨true, false⟩ }
theorem run_33 : ∀ (off : BitVec 64) (size : BitVec 64), pureRun Try.prog C_9_ui F33 Try.f33 [.int .i64 off, .int .i64 size] = some (.bool (v_serial_there off size)) := fun off size =>
 (show pureRun Try.prog C_9_ui F33 Try.f33 [.int .i64 off, .int .i64 size] = (cond (size == 1#64)
 (cond ((0#64).sle off)
 (some (AV.bool (off.sle 7#64)))
 (some (AV.bool (false))))
 (some (AV.bool (false)))) by kernel_rfl).trans (by
    delta v_serial_there
    refine (mer _ (fun p => .bool p) (mer _ (fun p => .bool p) ?_ ?_) ?_)
    all_goals first | with_reducible rfl | rfl)
noncomputable def C_33 : Oracle := pureE 33 (pure2 dI64 dI64 (fun off size => .bool (v_serial_there off size))) (C_9_ui)
theorem C_33_snd : Snd Try.prog C_33 := pureE_snd (pure2_ok (F := F33) (C_9_ui_snd) Try.func33 (by kernel_rfl) run_33 (fun _ _ => rfl)) (C_9_ui_snd)

/- (*ravelin/serial.queue).next -/
def F34 : Cfg := { F := 400, roots := [0, 1, 2], fl := ⟨false, false⟩ }
noncomputable def C_34 : Oracle := inlS Try.prog 34 Try.f34 F34 C_33 (C_33)
theorem C_34_snd : Snd Try.prog C_34 := inlS_snd Try.func34 (by kernel_rfl) C_33_snd C_33_snd

/- ravelin/serial.one -/
def F35 : Cfg := { F := 400, roots := [0, 1], fl := ⟨true, false⟩ }
theorem run_35 : ∀ (xis : Bool), pureRun Try.prog C_34 F35 Try.f35 [.bool xis] = some (.int .u64 (v_serial_one xis)) := fun xis =>
 (show pureRun Try.prog C_34 F35 Try.f35 [.bool xis] = (cond (xis)
 (some (AV.int (IntKind.u64) (1#64)))
 (some (AV.int (IntKind.u64) (0#64)))) by kernel_rfl).trans (by
    delta v_serial_one
    refine (mer _ (fun p => .int .u64 p) ?_ ?_)
    all_goals first | with_reducible rfl | rfl)
noncomputable def C_35 : Oracle := pureE 35 (pure1 dBool (fun xis => .int .u64 (v_serial_one xis))) (C_34)
theorem C_35_snd : Snd Try.prog C_35 := pureE_snd (pure1_ok (F := F35) (C_34_snd) Try.func35 (by kernel_rfl) run_35 (fun _ => rfl)) (C_34_snd)

/- (*ravelin/serial.queue).Waits -/
def F12 : Cfg := { F := 400, roots := [0, 1], fl := ⟨false, false⟩ }
noncomputable def C_12 : Oracle := inlS Try.prog 12 Try.f12 F12 C_35 (C_35)
theorem C_12_snd : Snd Try.prog C_12 := inlS_snd Try.func12 (by kernel_rfl) C_35_snd C_35_snd

/- (*ravelin/serial.Uart).Load -/
def F22 : Cfg := { F := 400, roots := [0, 1, 2, 3, 4], fl := ⟨false, false⟩ }
noncomputable def C_22 : Oracle := inlS Try.prog 22 Try.f22 F22 C_12 (C_12)
theorem C_22_snd : Snd Try.prog C_22 := inlS_snd Try.func22 (by kernel_rfl) C_12_snd C_12_snd

/- an entry: a load -/
def FE_22_ul : Cfg := { F := 400, roots := [0, 1, 2, 3, 4, 5, 6, 7, 8, 9, 10, 11], fl := ⟨false, false⟩, laws := [] }
noncomputable def C_22_ul : Oracle := elC 22 ulDec ulCps ulU (C_22)
theorem nx_22_ul_n : ∀ (q : List (List AV)) (fi : BitVec 64) (cn : BitVec 64) (en : Bool) (off : BitVec 64) (size : BitVec 64), inlineA Try.prog (C_12) (drawA Try.prog) FE_22_ul Try.f22 (ulA (.n q fi cn en off size)) (ulH (.n q fi cn en off size)) (ulH (.n q fi cn en off size)).length ulDecR = ulStep (.n q fi cn en off size) := fun _ _ _ _ _ _ => by kernel_rfl
theorem nx_22_ul_t : ∀ (q : List (List AV)) (fi : BitVec 64) (cn : BitVec 64) (en : Bool) (tb : BitVec 8) (off : BitVec 64) (size : BitVec 64), inlineA Try.prog (C_12) (drawA Try.prog) FE_22_ul Try.f22 (ulA (.t q fi cn en tb off size)) (ulH (.t q fi cn en tb off size)) (ulH (.t q fi cn en tb off size)).length ulDecR = ulStep (.t q fi cn en tb off size) := fun _ _ _ _ _ _ _ => by kernel_rfl
noncomputable def EL_22_ul : EL Try.prog (C_12) FE_22_ul Try.f22 UlS UlR :=
  { eA := ulA, eH := ulH, dec := ulDec, dec_ok := ulDec_ok, enc := ulU, decR := ulDecR, decR_ok := ulDecR_ok, step := ulStep, hstep := fun x => match x with
      | .n q fi cn en off size => nx_22_ul_n q fi cn en off size
      | .t q fi cn en tb off size => nx_22_ul_t q fi cn en tb off size
  }
theorem C_22_ul_snd : Snd Try.prog C_22_ul := elC_snd EL_22_ul (C_12_snd) Try.func22 (by kernel_rfl) (cps := ulCps) ulCps_ok (C_22_snd)

/- ravelin/ravelinlaw14.of -/
def F11 : Cfg := { F := 400, roots := [0, 1, 2, 3, 4], fl := ⟨false, false⟩ }
noncomputable def C_11 : Oracle := inlS Try.prog 11 Try.f11 F11 C_22_ul (C_22_ul)
theorem C_11_snd : Snd Try.prog C_11 := inlS_snd Try.func11 (by kernel_rfl) C_22_ul_snd C_22_ul_snd

/- (*ravelin/serial.Uart).Output -/
def F16 : Cfg := { F := 400, roots := [0, 1, 2], fl := ⟨false, false⟩ }
noncomputable def C_16 : Oracle := inlS Try.prog 16 Try.f16 F16 C_11 (C_11)
theorem C_16_snd : Snd Try.prog C_16 := inlS_snd Try.func16 (by kernel_rfl) C_11_snd C_11_snd

/- (*ravelin/serial.Uart).Store -/
def F15 : Cfg := { F := 400, roots := [0, 1, 2, 3, 4], fl := ⟨false, false⟩ }
noncomputable def C_15 : Oracle := inlS Try.prog 15 Try.f15 F15 C_16 (C_16)
theorem C_15_snd : Snd Try.prog C_15 := inlS_snd Try.func15 (by kernel_rfl) C_16_snd C_16_snd

/- an entry: a store -/
def FE_15_us : Cfg := { F := 400, roots := [0, 1, 2, 3, 4, 5, 6, 7, 8, 9, 10, 11], fl := ⟨false, false⟩, laws := [] }
noncomputable def C_15_us : Oracle := elC 15 usDec usCps usU (C_15)
theorem nx_15_us_n : ∀ (q : List (List AV)) (fi : BitVec 64) (cn : BitVec 64) (en : Bool) (off : BitVec 64) (size : BitVec 64) (v : BitVec 64), inlineA Try.prog (C_16) (drawA Try.prog) FE_15_us Try.f15 (usA (.n q fi cn en off size v)) (usH (.n q fi cn en off size v)) (usH (.n q fi cn en off size v)).length usDecR = usStep (.n q fi cn en off size v) := fun _ _ _ _ _ _ _ => by kernel_rfl
theorem nx_15_us_t : ∀ (q : List (List AV)) (fi : BitVec 64) (cn : BitVec 64) (en : Bool) (tb : BitVec 8) (off : BitVec 64) (size : BitVec 64) (v : BitVec 64), inlineA Try.prog (C_16) (drawA Try.prog) FE_15_us Try.f15 (usA (.t q fi cn en tb off size v)) (usH (.t q fi cn en tb off size v)) (usH (.t q fi cn en tb off size v)).length usDecR = usStep (.t q fi cn en tb off size v) := fun _ _ _ _ _ _ _ _ => by kernel_rfl
noncomputable def EL_15_us : EL Try.prog (C_16) FE_15_us Try.f15 UsS UsR :=
  { eA := usA, eH := usH, dec := usDec, dec_ok := usDec_ok, enc := usU, decR := usDecR, decR_ok := usDecR_ok, step := usStep, hstep := fun x => match x with
      | .n q fi cn en off size v => nx_15_us_n q fi cn en off size v
      | .t q fi cn en tb off size v => nx_15_us_t q fi cn en tb off size v
  }
theorem C_15_us_snd : Snd Try.prog C_15_us := elC_snd EL_15_us (C_16_snd) Try.func15 (by kernel_rfl) (cps := usCps) usCps_ok (C_15_snd)

/- ravelin/serial.NewPower -/
def F18 : Cfg := { F := 400, roots := [0], fl := ⟨false, false⟩ }
noncomputable def C_18 : Oracle := inlS Try.prog 18 Try.f18 F18 C_15_us (C_15_us)
theorem C_18_snd : Snd Try.prog C_18 := inlS_snd Try.func18 (by kernel_rfl) C_15_us_snd C_15_us_snd

/- (*ravelin/serial.Power).Off -/
def F30 : Cfg := { F := 400, roots := [0, 1], fl := ⟨false, false⟩ }
noncomputable def C_30 : Oracle := inlS Try.prog 30 Try.f30 F30 C_18 (C_18)
theorem C_30_snd : Snd Try.prog C_30 := inlS_snd Try.func30 (by kernel_rfl) C_18_snd C_18_snd

/- (*ravelin/serial.Power).Store -/
def F27 : Cfg := { F := 400, roots := [0, 1, 2, 3, 4], fl := ⟨false, false⟩ }
noncomputable def C_27 : Oracle := inlS Try.prog 27 Try.f27 F27 C_30 (C_30)
theorem C_27_snd : Snd Try.prog C_27 := inlS_snd Try.func27 (by kernel_rfl) C_30_snd C_30_snd

/- ravelin/ravelinlaw14.works -/
def F14 : Cfg := { F := 400, roots := [0, 1, 2, 3, 4, 5, 6, 7, 8], fl := ⟨true, false⟩ }
theorem run_14 : pureRun Try.prog C_27 F14 Try.f14 [] = some (.bool v_l14_works) := (show pureRun Try.prog C_27 F14 Try.f14 [] = (some (AV.bool (true))) by kernel_rfl).trans (rfl)
noncomputable def C_14 : Oracle := pureE 14 (pure0  (.bool v_l14_works)) (C_27)
theorem C_14_snd : Snd Try.prog C_14 := pureE_snd (pure0_ok (F := F14) (C_27_snd) Try.func14 (by kernel_rfl) run_14 rfl) (C_27_snd)

/- ravelin/ravelinref14.New -/
def F17 : Cfg := { F := 400, roots := [0], fl := ⟨false, false⟩ }
noncomputable def C_17 : Oracle := inlS Try.prog 17 Try.f17 F17 C_14 (C_14)
theorem C_17_snd : Snd Try.prog C_17 := inlS_snd Try.func17 (by kernel_rfl) C_14_snd C_14_snd

/- ravelin/ravelinref14.NewPower -/
def F19 : Cfg := { F := 400, roots := [0], fl := ⟨false, false⟩ }
noncomputable def C_19 : Oracle := inlS Try.prog 19 Try.f19 F19 C_17 (C_17)
theorem C_19_snd : Snd Try.prog C_19 := inlS_snd Try.func19 (by kernel_rfl) C_17_snd C_17_snd

/- (*ravelin/ravelinref14.Uart).Input -/
def F20 : Cfg := { F := 400, roots := [0, 1, 2], fl := ⟨false, false⟩ }
noncomputable def C_20 : Oracle := inlS Try.prog 20 Try.f20 F20 C_19 (C_19)
theorem C_20_snd : Snd Try.prog C_20 := inlS_snd Try.func20 (by kernel_rfl) C_19_snd C_19_snd

/- an entry: the document: a byte comes -/
def FE_20_xi : Cfg := { F := 400, roots := [0, 1, 2, 3, 4, 5, 6, 7, 8, 9, 10, 11], fl := ⟨false, false⟩, laws := [] }
noncomputable def C_20_xi : Oracle := elC 20 xiDec xiCps xiU (C_20)
theorem nx_20_xi_n : ∀ (e : Bool) (to : BitVec 64) (b : BitVec 8), inlineA Try.prog (C_19) (drawA Try.prog) FE_20_xi Try.f20 (xiA (.n e to b)) (xiH (.n e to b)) (xiH (.n e to b)).length xiDecR = xiStep (.n e to b) := fun _ _ _ => by kernel_rfl
theorem nx_20_xi_r : ∀ (n : Nat) (m : Nat) (d : List (List AV)) (e : Bool) (to : BitVec 64) (b : BitVec 8), inlineA Try.prog (C_19) (drawA Try.prog) FE_20_xi Try.f20 (xiA (.r n m d e to b)) (xiH (.r n m d e to b)) (xiH (.r n m d e to b)).length xiDecR = xiStep (.r n m d e to b) := fun _ _ _ _ _ _ => by kernel_rfl
noncomputable def EL_20_xi : EL Try.prog (C_19) FE_20_xi Try.f20 XiS XiR :=
  { eA := xiA, eH := xiH, dec := xiDec, dec_ok := xiDec_ok, enc := xiU, decR := xiDecR, decR_ok := xiDecR_ok, step := xiStep, hstep := fun x => match x with
      | .n e to b => nx_20_xi_n e to b
      | .r n m d e to b => nx_20_xi_r n m d e to b
  }
theorem C_20_xi_snd : Snd Try.prog C_20_xi := elC_snd EL_20_xi (C_19_snd) Try.func20 (by kernel_rfl) (cps := xiCps) xiCps_ok (C_20_snd)

/- (*ravelin/ravelinref14.Uart).Output -/
def F21 : Cfg := { F := 400, roots := [0, 1, 2], fl := ⟨false, false⟩ }
noncomputable def C_21 : Oracle := inlS Try.prog 21 Try.f21 F21 C_20_xi (C_20_xi)
theorem C_21_snd : Snd Try.prog C_21 := inlS_snd Try.func21 (by kernel_rfl) C_20_xi_snd C_20_xi_snd

/- a loop of (*ravelin/ravelinref14.Uart).Load -/
noncomputable def FL_23_xr : Cfg := { F := 400, roots := [0, 8, 9, 10], fl := ⟨false, false⟩, laws := [] }
noncomputable def LC_23_xr : Code := loopIn 1 Try.f23
theorem nx_23_xr_z : ∀ (n : Nat) (m : Nat) (d : List (List AV)) (e : Bool) (to : BitVec 64) (v : BitVec 64) (i : BitVec 64), codeA Try.prog (C_21) (drawA Try.prog FL_23_xr.fl Try.f23.ntmps (C_21)) FL_23_xr Try.f23.ntmps LC_23_xr (tmOf [0, 8, 9, 10] (xrT (.z n m d e to v i))) (xrH (.z n m d e to v i)) (xrN (.z n m d e to v i)) (roundK 2 [0, 8, 9, 10] [0, 8, 9, 10] [0, 8, 9] xrDec xrDecE) = xrStep (.z n m d e to v i) := fun _ _ _ _ _ _ _ => by kernel_rfl
theorem nx_23_xr_s : ∀ (n : Nat) (m : Nat) (d : List (List AV)) (e : Bool) (to : BitVec 64) (v : BitVec 64) (k : Nat) (kk : Nat) (g : List (List AV)) (i : BitVec 64), codeA Try.prog (C_21) (drawA Try.prog FL_23_xr.fl Try.f23.ntmps (C_21)) FL_23_xr Try.f23.ntmps LC_23_xr (tmOf [0, 8, 9, 10] (xrT (.s n m d e to v k kk g i))) (xrH (.s n m d e to v k kk g i)) (xrN (.s n m d e to v k kk g i)) (roundK 2 [0, 8, 9, 10] [0, 8, 9, 10] [0, 8, 9] xrDec xrDecE) = xrStep (.s n m d e to v k kk g i) := fun _ _ _ _ _ _ _ _ _ _ => by kernel_rfl
noncomputable def LL_23_xr : LL Try.prog (C_21) Try.f23.ntmps (drawA Try.prog FL_23_xr.fl Try.f23.ntmps (C_21)) FL_23_xr LC_23_xr XrS XrE :=
  { N0 := 2, rts := [0, 8, 9, 10], kT := [0, 8, 9, 10], vT := xrT, hT := xrH, nT := xrN, dec := xrDec, dec_ok := xrDec_ok, kE := [0, 8, 9], oE := xrO, vE := xrV, hE := xrG, nE := xrM, decE := xrDecE, decE_ok := xrDecE_ok, step := xrStep,
    hstep := fun x => match x with
      | .z n m d e to v i => nx_23_xr_z n m d e to v i
      | .s n m d e to v k kk g i => nx_23_xr_s n m d e to v k kk g i
  }
theorem hs_23_xr : HSnd Try.prog Try.f23.ntmps (.block 1 (.loop LC_23_xr)) (llH 2 [0, 8, 9, 10] xrDec 1 xrCps) :=
  LL.handler_snd LL_23_xr (C_21_snd) (drawA_sound (C_21_snd)) (laws_nil) 1 (cps := xrCps) xrCps_ok

/- (*ravelin/ravelinref14.Uart).Load -/
noncomputable def F23 : Cfg := { F := 400, roots := [0, 1, 2, 3, 4, 5, 6, 7, 8, 9, 10], fl := ⟨false, false⟩, laws := [(1, llH 2 [0, 8, 9, 10] xrDec 1 xrCps)] }
theorem fok_23 : FOK Try.prog Try.f23 F23 := fok_of (laws_cons (subs_one (b := .block 1 (.loop LC_23_xr)) (by kernel_rfl) hs_23_xr) (laws_nil))
noncomputable def C_23 : Oracle := inlS Try.prog 23 Try.f23 F23 C_21 (C_21)
theorem C_23_snd : Snd Try.prog C_23 := inlS_snd Try.func23 (by kernel_rfl) C_21_snd C_21_snd (hF := fok_23)

/- an entry: the document: a load -/
noncomputable def FE_23_xd : Cfg := { F := 400, roots := [0, 1, 2, 3, 4, 5, 6, 7, 8, 9, 10, 11], fl := ⟨false, false⟩, laws := [(1, llH 2 [0, 8, 9, 10] xrDec 1 xrCps)] }
noncomputable def C_23_xd : Oracle := elC 23 xdDec xdCps xdU (C_23)
theorem nx_23_xd_n : ∀ (e : Bool) (to : BitVec 64) (off : BitVec 64) (size : BitVec 64), inlineA Try.prog (C_21) (drawA Try.prog) FE_23_xd Try.f23 (xdA (.n e to off size)) (xdH (.n e to off size)) (xdH (.n e to off size)).length xdDecR = xdStep (.n e to off size) := fun _ _ _ _ => by kernel_rfl
theorem nx_23_xd_r : ∀ (n : Nat) (m : Nat) (d : List (List AV)) (e : Bool) (to : BitVec 64) (off : BitVec 64) (size : BitVec 64), inlineA Try.prog (C_21) (drawA Try.prog) FE_23_xd Try.f23 (xdA (.r n m d e to off size)) (xdH (.r n m d e to off size)) (xdH (.r n m d e to off size)).length xdDecR = xdStep (.r n m d e to off size) := fun _ _ _ _ _ _ _ => by kernel_rfl
noncomputable def EL_23_xd : EL Try.prog (C_21) FE_23_xd Try.f23 XdS XdR :=
  { eA := xdA, eH := xdH, dec := xdDec, dec_ok := xdDec_ok, enc := xdU, decR := xdDecR, decR_ok := xdDecR_ok, step := xdStep, hstep := fun x => match x with
      | .n e to off size => nx_23_xd_n e to off size
      | .r n m d e to off size => nx_23_xd_r n m d e to off size
  }
theorem foke_23_xd : FOK Try.prog Try.f23 FE_23_xd := fok_of (laws_cons (subs_one (b := .block 1 (.loop LC_23_xr)) (by kernel_rfl) hs_23_xr) (laws_nil))
theorem C_23_xd_snd : Snd Try.prog C_23_xd := elC_snd EL_23_xd (C_21_snd) Try.func23 (by kernel_rfl) (cps := xdCps) xdCps_ok (C_23_snd) (hF := foke_23_xd)

/- (*ravelin/ravelinref14.Uart).Store -/
def F24 : Cfg := { F := 400, roots := [0, 1, 2, 3, 4], fl := ⟨false, false⟩ }
noncomputable def C_24 : Oracle := inlS Try.prog 24 Try.f24 F24 C_23_xd (C_23_xd)
theorem C_24_snd : Snd Try.prog C_24 := inlS_snd Try.func24 (by kernel_rfl) C_23_xd_snd C_23_xd_snd

/- an entry: the document: a store -/
def FE_24_xs : Cfg := { F := 400, roots := [0, 1, 2, 3, 4, 5, 6, 7, 8, 9, 10, 11], fl := ⟨false, false⟩, laws := [] }
noncomputable def C_24_xs : Oracle := elC 24 xsDec xsCps xsU (C_24)
theorem nx_24_xs_n : ∀ (e : Bool) (to : BitVec 64) (off : BitVec 64) (size : BitVec 64) (v : BitVec 64), inlineA Try.prog (C_23_xd) (drawA Try.prog) FE_24_xs Try.f24 (xsA (.n e to off size v)) (xsH (.n e to off size v)) (xsH (.n e to off size v)).length xsDecR = xsStep (.n e to off size v) := fun _ _ _ _ _ => by kernel_rfl
theorem nx_24_xs_r : ∀ (n : Nat) (m : Nat) (d : List (List AV)) (e : Bool) (to : BitVec 64) (off : BitVec 64) (size : BitVec 64) (v : BitVec 64), inlineA Try.prog (C_23_xd) (drawA Try.prog) FE_24_xs Try.f24 (xsA (.r n m d e to off size v)) (xsH (.r n m d e to off size v)) (xsH (.r n m d e to off size v)).length xsDecR = xsStep (.r n m d e to off size v) := fun _ _ _ _ _ _ _ _ => by kernel_rfl
noncomputable def EL_24_xs : EL Try.prog (C_23_xd) FE_24_xs Try.f24 XsS XsR :=
  { eA := xsA, eH := xsH, dec := xsDec, dec_ok := xsDec_ok, enc := xsU, decR := xsDecR, decR_ok := xsDecR_ok, step := xsStep, hstep := fun x => match x with
      | .n e to off size v => nx_24_xs_n e to off size v
      | .r n m d e to off size v => nx_24_xs_r n m d e to off size v
  }
theorem C_24_xs_snd : Snd Try.prog C_24_xs := elC_snd EL_24_xs (C_23_xd_snd) Try.func24 (by kernel_rfl) (cps := xsCps) xsCps_ok (C_24_snd)

/- (*ravelin/serial.Power).Load -/
def F25 : Cfg := { F := 400, roots := [0, 1, 2, 3, 4], fl := ⟨false, false⟩ }
noncomputable def C_25 : Oracle := inlS Try.prog 25 Try.f25 F25 C_24_xs (C_24_xs)
theorem C_25_snd : Snd Try.prog C_25 := inlS_snd Try.func25 (by kernel_rfl) C_24_xs_snd C_24_xs_snd

/- (*ravelin/ravelinref14.Power).Load -/
def F26 : Cfg := { F := 400, roots := [0, 1, 2, 3, 4], fl := ⟨false, false⟩ }
noncomputable def C_26 : Oracle := inlS Try.prog 26 Try.f26 F26 C_25 (C_25)
theorem C_26_snd : Snd Try.prog C_26 := inlS_snd Try.func26 (by kernel_rfl) C_25_snd C_25_snd

/- (*ravelin/ravelinref14.Power).Store -/
def F28 : Cfg := { F := 400, roots := [0, 1, 2, 3, 4], fl := ⟨false, false⟩ }
noncomputable def C_28 : Oracle := inlS Try.prog 28 Try.f28 F28 C_26 (C_26)
theorem C_28_snd : Snd Try.prog C_28 := inlS_snd Try.func28 (by kernel_rfl) C_26_snd C_26_snd

/- (*ravelin/ravelinref14.Uart).Waits -/
def F29 : Cfg := { F := 400, roots := [0, 1], fl := ⟨false, false⟩ }
noncomputable def C_29 : Oracle := inlS Try.prog 29 Try.f29 F29 C_28 (C_28)
theorem C_29_snd : Snd Try.prog C_29 := inlS_snd Try.func29 (by kernel_rfl) C_28_snd C_28_snd

/- (*ravelin/ravelinref14.Power).Off -/
def F31 : Cfg := { F := 400, roots := [0, 1], fl := ⟨false, false⟩ }
noncomputable def C_31 : Oracle := inlS Try.prog 31 Try.f31 F31 C_29 (C_29)
theorem C_31_snd : Snd Try.prog C_31 := inlS_snd Try.func31 (by kernel_rfl) C_29_snd C_29_snd

/- a loop of ravelin/ravelinlaw14.SerialRuns -/
noncomputable def FL_5_sr : Cfg := { F := 400, roots := [0, 3, 4, 5, 6, 7], fl := ⟨false, false⟩, laws := [] }
noncomputable def LC_5_sr : Code := loopIn 0 Try.f5
theorem nx_5_sr_nn : ∀ (rw : Bool) (no : Nat) (mo : Nat) (dd : List (List AV)) (q : List (List AV)) (fi : BitVec 64) (cn : BitVec 64) (en : Bool) (e : Bool) (to : BitVec 64) (po : Bool) (yo : Bool) (i : BitVec 64), codeA Try.prog (C_31) (drawA Try.prog FL_5_sr.fl Try.f5.ntmps (C_31)) FL_5_sr Try.f5.ntmps LC_5_sr (tmOf [0, 3, 4, 5, 6, 7] (srT (.nn rw no mo dd q fi cn en e to po yo i))) (srH (.nn rw no mo dd q fi cn en e to po yo i)) (srN (.nn rw no mo dd q fi cn en e to po yo i)) (roundK 5 [0, 3, 4, 5, 6, 7] [0, 3, 4, 5, 6, 7] [2] srDec srDecE) = srStep (.nn rw no mo dd q fi cn en e to po yo i) := fun _ _ _ _ _ _ _ _ _ _ _ _ _ => by kernel_rfl
theorem nx_5_sr_tn : ∀ (rw : Bool) (no : Nat) (mo : Nat) (dd : List (List AV)) (q : List (List AV)) (fi : BitVec 64) (cn : BitVec 64) (en : Bool) (tb : BitVec 8) (e : Bool) (to : BitVec 64) (po : Bool) (yo : Bool) (i : BitVec 64), codeA Try.prog (C_31) (drawA Try.prog FL_5_sr.fl Try.f5.ntmps (C_31)) FL_5_sr Try.f5.ntmps LC_5_sr (tmOf [0, 3, 4, 5, 6, 7] (srT (.tn rw no mo dd q fi cn en tb e to po yo i))) (srH (.tn rw no mo dd q fi cn en tb e to po yo i)) (srN (.tn rw no mo dd q fi cn en tb e to po yo i)) (roundK 5 [0, 3, 4, 5, 6, 7] [0, 3, 4, 5, 6, 7] [2] srDec srDecE) = srStep (.tn rw no mo dd q fi cn en tb e to po yo i) := fun _ _ _ _ _ _ _ _ _ _ _ _ _ _ => by kernel_rfl
theorem nx_5_sr_nr : ∀ (rw : Bool) (no : Nat) (mo : Nat) (dd : List (List AV)) (q : List (List AV)) (fi : BitVec 64) (cn : BitVec 64) (en : Bool) (n : Nat) (m : Nat) (d : List (List AV)) (e : Bool) (to : BitVec 64) (po : Bool) (yo : Bool) (i : BitVec 64), codeA Try.prog (C_31) (drawA Try.prog FL_5_sr.fl Try.f5.ntmps (C_31)) FL_5_sr Try.f5.ntmps LC_5_sr (tmOf [0, 3, 4, 5, 6, 7] (srT (.nr rw no mo dd q fi cn en n m d e to po yo i))) (srH (.nr rw no mo dd q fi cn en n m d e to po yo i)) (srN (.nr rw no mo dd q fi cn en n m d e to po yo i)) (roundK 5 [0, 3, 4, 5, 6, 7] [0, 3, 4, 5, 6, 7] [2] srDec srDecE) = srStep (.nr rw no mo dd q fi cn en n m d e to po yo i) := fun _ _ _ _ _ _ _ _ _ _ _ _ _ _ _ _ => by kernel_rfl
theorem nx_5_sr_tr : ∀ (rw : Bool) (no : Nat) (mo : Nat) (dd : List (List AV)) (q : List (List AV)) (fi : BitVec 64) (cn : BitVec 64) (en : Bool) (tb : BitVec 8) (n : Nat) (m : Nat) (d : List (List AV)) (e : Bool) (to : BitVec 64) (po : Bool) (yo : Bool) (i : BitVec 64), codeA Try.prog (C_31) (drawA Try.prog FL_5_sr.fl Try.f5.ntmps (C_31)) FL_5_sr Try.f5.ntmps LC_5_sr (tmOf [0, 3, 4, 5, 6, 7] (srT (.tr rw no mo dd q fi cn en tb n m d e to po yo i))) (srH (.tr rw no mo dd q fi cn en tb n m d e to po yo i)) (srN (.tr rw no mo dd q fi cn en tb n m d e to po yo i)) (roundK 5 [0, 3, 4, 5, 6, 7] [0, 3, 4, 5, 6, 7] [2] srDec srDecE) = srStep (.tr rw no mo dd q fi cn en tb n m d e to po yo i) := fun _ _ _ _ _ _ _ _ _ _ _ _ _ _ _ _ _ => by kernel_rfl
noncomputable def LL_5_sr : LL Try.prog (C_31) Try.f5.ntmps (drawA Try.prog FL_5_sr.fl Try.f5.ntmps (C_31)) FL_5_sr LC_5_sr SrS SrE :=
  { N0 := 5, rts := [0, 3, 4, 5, 6, 7], kT := [0, 3, 4, 5, 6, 7], vT := srT, hT := srH, nT := srN, dec := srDec, dec_ok := srDec_ok, kE := [2], oE := srO, vE := srV, hE := srG, nE := srM, decE := srDecE, decE_ok := srDecE_ok, step := srStep,
    hstep := fun x => match x with
      | .nn rw no mo dd q fi cn en e to po yo i => nx_5_sr_nn rw no mo dd q fi cn en e to po yo i
      | .tn rw no mo dd q fi cn en tb e to po yo i => nx_5_sr_tn rw no mo dd q fi cn en tb e to po yo i
      | .nr rw no mo dd q fi cn en n m d e to po yo i => nx_5_sr_nr rw no mo dd q fi cn en n m d e to po yo i
      | .tr rw no mo dd q fi cn en tb n m d e to po yo i => nx_5_sr_tr rw no mo dd q fi cn en tb n m d e to po yo i
  }
theorem hs_5_sr : HSnd Try.prog Try.f5.ntmps (.block 0 (.loop LC_5_sr)) (llH 5 [0, 3, 4, 5, 6, 7] srDec 0 srCps) :=
  LL.handler_snd LL_5_sr (C_31_snd) (drawA_sound (C_31_snd)) (laws_nil) 0 (cps := srCps) srCps_ok

/- ravelin/ravelinlaw14.SerialRuns -/
noncomputable def F5 : Cfg := { F := 400, roots := [0, 1, 2, 3, 4, 5, 6, 7, 8, 9, 10, 11, 12, 13, 14, 15, 16, 17], fl := ⟨false, false⟩, laws := [(0, llH 5 [0, 3, 4, 5, 6, 7] srDec 0 srCps)] }
def F5n : Cfg := { F := 400, roots := [0, 1, 2, 3, 4, 5, 6, 7, 8, 9, 10, 11, 12, 13, 14, 15, 16, 17], fl := ⟨false, false⟩ }
theorem run_5_r : ∀ (n : Nat) (d : List (List AV)), runS Try.prog (C_31) F5 Try.f5 [.slice ⟨0, 0, 0, 4, 0⟩ 4 n] [(0, ⟨false, [.arr [.int .i64, .int .i64, .int .i64, .int .u64] n d]⟩)] 1 = t_SerialRuns_r n d := fun _ _ => by kernel_rfl
theorem run_5_n : runS Try.prog (C_31) F5n Try.f5 [.nilslice] [] 1 = t_SerialRuns_n  :=  by kernel_rfl
theorem snd_5 : Snd Try.prog (C_31) := C_31_snd
theorem fok_5 : FOK Try.prog Try.f5 F5 := fok_of (laws_cons (subs_one (b := .block 0 (.loop LC_5_sr)) (by kernel_rfl) hs_5_sr) (laws_nil))

end Go.Proofs.Ytenimiinkhjdbaa

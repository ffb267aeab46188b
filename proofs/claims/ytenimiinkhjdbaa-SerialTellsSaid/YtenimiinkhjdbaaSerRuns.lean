import Derived.Test.YtenimiinkhjdbaaSxW
import Derived.Test.YtenimiinkhjdbaaSxY
import Derived.Test.YtenimiinkhjdbaaSxLen2
import Derived.Test.YtenimiinkhjdbaaSxX
import Derived.Test.YtenimiinkhjdbaaSxSR
import Derived.Test.YtenimiinkhjdbaaVa03
import Derived.Test.YtenimiinkhjdbaaVa14
import Derived.Test.YtenimiinkhjdbaaVl14
import Derived.Test.YtenimiinkhjdbaaPlSer
import Derived.Test.YtenimiinkhjdbaaPlSer2
import Derived.Test.YtenimiinkhjdbaaVm14
import Derived.KernelRfl
import Derived.Test.YtenimiinkhjdbaaProg
set_option linter.unusedSimpArgs false
set_option linter.unusedVariables false
set_option linter.unnecessarySimpa false
/- What the functions of the seat answer. -/
namespace Go.Proofs.Ytenimiinkhjdbaa
open Go Go.Sx Go.Proofs
set_option maxRecDepth 100000
set_option maxHeartbeats 4000000

/- ravelin/serial.NewPower -/
def F18 : Cfg := { F := 400, roots := [0], fl := ⟨false, false⟩ }
noncomputable def C_18 : Oracle := inlS Try.prog 18 Try.f18 F18 nothing (nothing)
theorem C_18_snd : Snd Try.prog C_18 := inlS_snd Try.func18 (by kernel_rfl) nothing_snd nothing_snd

/- (*ravelin/serial.Power).Store -/
def F27 : Cfg := { F := 400, roots := [0, 1, 2, 3, 4], fl := ⟨false, false⟩ }
noncomputable def C_27 : Oracle := inlS Try.prog 27 Try.f27 F27 C_18 (C_18)
theorem C_27_snd : Snd Try.prog C_27 := inlS_snd Try.func27 (by kernel_rfl) C_18_snd C_18_snd

/- (*ravelin/serial.Power).Load -/
def F25 : Cfg := { F := 400, roots := [0, 1, 2, 3, 4], fl := ⟨false, false⟩ }
noncomputable def C_25 : Oracle := inlS Try.prog 25 Try.f25 F25 C_27 (C_27)
theorem C_25_snd : Snd Try.prog C_25 := inlS_snd Try.func25 (by kernel_rfl) C_27_snd C_27_snd

/- (*ravelin/serial.Power).Off -/
def F30 : Cfg := { F := 400, roots := [0, 1], fl := ⟨false, false⟩ }
noncomputable def C_30 : Oracle := inlS Try.prog 30 Try.f30 F30 C_25 (C_25)
theorem C_30_snd : Snd Try.prog C_30 := inlS_snd Try.func30 (by kernel_rfl) C_25_snd C_25_snd

/- ravelin/serial.New -/
def F8 : Cfg := { F := 400, roots := [0], fl := ⟨false, false⟩ }
noncomputable def C_8 : Oracle := inlS Try.prog 8 Try.f8 F8 C_30 (C_30)
theorem C_8_snd : Snd Try.prog C_8 := inlS_snd Try.func8 (by kernel_rfl) C_30_snd C_30_snd

/- (*ravelin/serial.queue).Input -/
def F9 : Cfg := { F := 400, roots := [0, 1, 2], fl := ⟨false, false⟩ }
noncomputable def C_9 : Oracle := inlS Try.prog 9 Try.f9 F9 C_8 (C_8)
theorem C_9_snd : Snd Try.prog C_9 := inlS_snd Try.func9 (by kernel_rfl) C_8_snd C_8_snd

/- ravelin/serial.there -/
def F33 : Cfg := { F := 400, roots := [0, 1, 2], fl := ⟨true, false⟩ }
theorem run_33 : ∀ (off : BitVec 64) (size : BitVec 64), pureRun Try.prog C_9 F33 Try.f33 [.int .i64 off, .int .i64 size] = some (.bool (v_serial_there off size)) := fun off size =>
 (show pureRun Try.prog C_9 F33 Try.f33 [.int .i64 off, .int .i64 size] = (cond (size == 1#64)
 (cond ((0#64).sle off)
 (some (AV.bool (off.sle 7#64)))
 (some (AV.bool (false))))
 (some (AV.bool (false)))) by kernel_rfl).trans (by
    delta v_serial_there
    refine (mer _ (fun p => .bool p) (mer _ (fun p => .bool p) ?_ ?_) ?_)
    all_goals first | with_reducible rfl | rfl)
noncomputable def C_33 : Oracle := pureE 33 (pure2 dI64 dI64 (fun off size => .bool (v_serial_there off size))) (C_9)
theorem C_33_snd : Snd Try.prog C_33 := pureE_snd (pure2_ok (F := F33) (C_9_snd) Try.func33 (by kernel_rfl) run_33 (fun _ _ => rfl)) (C_9_snd)

/- (*ravelin/serial.queue).next -/
def F34 : Cfg := { F := 400, roots := [0, 1, 2], fl := ⟨false, false⟩ }
noncomputable def C_34 : Oracle := inlS Try.prog 34 Try.f34 F34 C_33 (C_33)
theorem C_34_snd : Snd Try.prog C_34 := inlS_snd Try.func34 (by kernel_rfl) C_33_snd C_33_snd

/- ravelin/serial.one -/
def F35 : Cfg := { F := 400, roots := [0, 1], fl := ⟨true, false⟩ }
theorem run_35 : ∀ (xis : Bool), pureRun Try.prog C_34 F35 Try.f35 [.bool xis] = some (.int .u64 (v_serial_one xis)) := fun xis =>
 (show pureRun Try.prog C_34 F35 Try.f35 [.bool xis] = (cond (xis)
 (some (AV.int (IntKind.u64) (1#64)))
 (some (AV.int (IntKind.u64) (0#64)))) by kernel_rfl).trans (by
    delta v_serial_one
    refine (mer _ (fun p => .int .u64 p) ?_ ?_)
    all_goals first | with_reducible rfl | rfl)
noncomputable def C_35 : Oracle := pureE 35 (pure1 dBool (fun xis => .int .u64 (v_serial_one xis))) (C_34)
theorem C_35_snd : Snd Try.prog C_35 := pureE_snd (pure1_ok (F := F35) (C_34_snd) Try.func35 (by kernel_rfl) run_35 (fun _ => rfl)) (C_34_snd)

/- (*ravelin/serial.queue).Waits -/
def F12 : Cfg := { F := 400, roots := [0, 1], fl := ⟨false, false⟩ }
noncomputable def C_12 : Oracle := inlS Try.prog 12 Try.f12 F12 C_35 (C_35)
theorem C_12_snd : Snd Try.prog C_12 := inlS_snd Try.func12 (by kernel_rfl) C_35_snd C_35_snd

/- (*ravelin/serial.Uart).Load -/
def F22 : Cfg := { F := 400, roots := [0, 1, 2, 3, 4], fl := ⟨false, false⟩ }
noncomputable def C_22 : Oracle := inlS Try.prog 22 Try.f22 F22 C_12 (C_12)
theorem C_22_snd : Snd Try.prog C_22 := inlS_snd Try.func22 (by kernel_rfl) C_12_snd C_12_snd

/- ravelin/ravelinlaw14.of -/
def F11 : Cfg := { F := 400, roots := [0, 1, 2, 3, 4], fl := ⟨false, false⟩ }
noncomputable def C_11 : Oracle := inlS Try.prog 11 Try.f11 F11 C_22 (C_22)
theorem C_11_snd : Snd Try.prog C_11 := inlS_snd Try.func11 (by kernel_rfl) C_22_snd C_22_snd

/- (*ravelin/serial.Uart).Output -/
def F16 : Cfg := { F := 400, roots := [0, 1, 2], fl := ⟨false, false⟩ }
noncomputable def C_16 : Oracle := inlS Try.prog 16 Try.f16 F16 C_11 (C_11)
theorem C_16_snd : Snd Try.prog C_16 := inlS_snd Try.func16 (by kernel_rfl) C_11_snd C_11_snd

/- (*ravelin/serial.Uart).Store -/
def F15 : Cfg := { F := 400, roots := [0, 1, 2, 3, 4], fl := ⟨false, false⟩ }
noncomputable def C_15 : Oracle := inlS Try.prog 15 Try.f15 F15 C_16 (C_16)
theorem C_15_snd : Snd Try.prog C_15 := inlS_snd Try.func15 (by kernel_rfl) C_16_snd C_16_snd

/- ravelin/ravelinlaw14.works -/
def F14 : Cfg := { F := 400, roots := [0, 1, 2, 3, 4, 5, 6, 7, 8], fl := ⟨true, false⟩ }
theorem run_14 : pureRun Try.prog C_15 F14 Try.f14 [] = some (.bool v_l14_works) := (show pureRun Try.prog C_15 F14 Try.f14 [] = (some (AV.bool (true))) by kernel_rfl).trans (rfl)
noncomputable def C_14 : Oracle := pureE 14 (pure0  (.bool v_l14_works)) (C_15)
theorem C_14_snd : Snd Try.prog C_14 := pureE_snd (pure0_ok (F := F14) (C_15_snd) Try.func14 (by kernel_rfl) run_14 rfl) (C_15_snd)

/- a loop of ravelin/ravelinlaw14.SerialPower -/
noncomputable def FL_6_pw : Cfg := { F := 400, roots := [3, 9, 14, 15], fl := ⟨false, false⟩, laws := [] }
noncomputable def LC_6_pw : Code := loopIn 0 Try.f6
theorem nx_6_pw_r : ∀ (n : Nat) (m : Nat) (d : List (List AV)) (was : Bool) (poff : Bool) (i : BitVec 64), codeA Try.prog (C_14) (drawA Try.prog FL_6_pw.fl Try.f6.ntmps (C_14)) FL_6_pw Try.f6.ntmps LC_6_pw (tmOf [3, 9, 14, 15] (pwT (.r n m d was poff i))) (pwH (.r n m d was poff i)) (pwN (.r n m d was poff i)) (roundK 5 [3, 9, 14, 15] [3, 9, 14, 15] [8] pwDec pwDecE) = pwStep (.r n m d was poff i) := fun _ _ _ _ _ _ => by kernel_rfl
theorem nx_6_pw_o : ∀ (was : Bool) (poff : Bool) (i : BitVec 64), codeA Try.prog (C_14) (drawA Try.prog FL_6_pw.fl Try.f6.ntmps (C_14)) FL_6_pw Try.f6.ntmps LC_6_pw (tmOf [3, 9, 14, 15] (pwT (.o was poff i))) (pwH (.o was poff i)) (pwN (.o was poff i)) (roundK 5 [3, 9, 14, 15] [3, 9, 14, 15] [8] pwDec pwDecE) = pwStep (.o was poff i) := fun _ _ _ => by kernel_rfl
noncomputable def LL_6_pw : LL Try.prog (C_14) Try.f6.ntmps (drawA Try.prog FL_6_pw.fl Try.f6.ntmps (C_14)) FL_6_pw LC_6_pw PwS PwE :=
  { N0 := 5, rts := [3, 9, 14, 15], kT := [3, 9, 14, 15], vT := pwT, hT := pwH, nT := pwN, dec := pwDec, dec_ok := pwDec_ok, kE := [8], oE := pwO, vE := pwV, hE := pwG, nE := pwM, decE := pwDecE, decE_ok := pwDecE_ok, step := pwStep,
    hstep := fun x => match x with
      | .r n m d was poff i => nx_6_pw_r n m d was poff i
      | .o was poff i => nx_6_pw_o was poff i
  }
theorem hs_6_pw : HSnd Try.prog Try.f6.ntmps (.block 0 (.loop LC_6_pw)) (llH 5 [3, 9, 14, 15] pwDec 0 pwCps) :=
  LL.handler_snd LL_6_pw (C_14_snd) (drawA_sound (C_14_snd)) (laws_nil) 0 (cps := pwCps) pwCps_ok

/- ravelin/ravelinlaw14.SerialPower -/
noncomputable def F6 : Cfg := { F := 400, roots := [0, 1, 2, 3, 4, 5, 6, 7, 8, 9, 10, 11, 12, 13, 14, 15], fl := ⟨false, false⟩, laws := [(0, llH 5 [3, 9, 14, 15] pwDec 0 pwCps)] }
theorem run_6_r : ∀ (off : BitVec 64) (size : BitVec 64) (v : BitVec 64) (n : Nat) (d : List (List AV)), runS Try.prog (C_14) F6 Try.f6 [.int .i64 off, .int .i64 size, .int .u64 v, .slice ⟨3, 0, 0, 1, 0⟩ 1 n] [(3, ⟨false, [.arr [.int .u64] n d]⟩)] 4 = t_SerialPower_r off size v n d := fun _ _ _ _ _ => by kernel_rfl
theorem run_6_n : ∀ (off : BitVec 64) (size : BitVec 64) (v : BitVec 64), runS Try.prog (C_14) F6 Try.f6 [.int .i64 off, .int .i64 size, .int .u64 v, .nilslice] [] 4 = t_SerialPower_n off size v := fun _ _ _ => by kernel_rfl
theorem snd_6 : Snd Try.prog (C_14) := C_14_snd
theorem fok_6 : FOK Try.prog Try.f6 F6 := fok_of (laws_cons (subs_one (b := .block 0 (.loop LC_6_pw)) (by kernel_rfl) hs_6_pw) (laws_nil))

/- a loop of ravelin/ravelinlaw14.SerialTells -/
noncomputable def FL_4_tl : Cfg := { F := 400, roots := [0, 1, 2, 3, 9, 10, 11], fl := ⟨false, false⟩, laws := [] }
noncomputable def LC_4_tl : Code := loopIn 0 Try.f4
theorem nx_4_tl_a : ∀ (n0 : Nat) (m0 : Nat) (d0 : List (List AV)) (n1 : Nat) (m1 : Nat) (d1 : List (List AV)) (n2 : Nat) (m2 : Nat) (d2 : List (List AV)) (came : BitVec 8) (q : List (List AV)) (fi : BitVec 64) (cn : BitVec 64) (en : Bool) (want : BitVec 64) (i : BitVec 64), codeA Try.prog (C_14) (drawA Try.prog FL_4_tl.fl Try.f4.ntmps (C_14)) FL_4_tl Try.f4.ntmps LC_4_tl (tmOf [0, 1, 2, 3, 9, 10, 11] (tlT (.a n0 m0 d0 n1 m1 d1 n2 m2 d2 came q fi cn en want i))) (tlH (.a n0 m0 d0 n1 m1 d1 n2 m2 d2 came q fi cn en want i)) (tlN (.a n0 m0 d0 n1 m1 d1 n2 m2 d2 came q fi cn en want i)) (roundK 5 [0, 1, 2, 3, 9, 10, 11] [0, 1, 2, 3, 9, 10, 11] [3, 8, 9, 10] tlDec tlDecE) = tlStep (.a n0 m0 d0 n1 m1 d1 n2 m2 d2 came q fi cn en want i) := fun _ _ _ _ _ _ _ _ _ _ _ _ _ _ _ _ => by kernel_rfl
theorem nx_4_tl_b : ∀ (n0 : Nat) (m0 : Nat) (d0 : List (List AV)) (n1 : Nat) (m1 : Nat) (d1 : List (List AV)) (n2 : Nat) (m2 : Nat) (d2 : List (List AV)) (came : BitVec 8) (q : List (List AV)) (fi : BitVec 64) (cn : BitVec 64) (en : Bool) (tb : BitVec 8) (want : BitVec 64) (i : BitVec 64), codeA Try.prog (C_14) (drawA Try.prog FL_4_tl.fl Try.f4.ntmps (C_14)) FL_4_tl Try.f4.ntmps LC_4_tl (tmOf [0, 1, 2, 3, 9, 10, 11] (tlT (.b n0 m0 d0 n1 m1 d1 n2 m2 d2 came q fi cn en tb want i))) (tlH (.b n0 m0 d0 n1 m1 d1 n2 m2 d2 came q fi cn en tb want i)) (tlN (.b n0 m0 d0 n1 m1 d1 n2 m2 d2 came q fi cn en tb want i)) (roundK 5 [0, 1, 2, 3, 9, 10, 11] [0, 1, 2, 3, 9, 10, 11] [3, 8, 9, 10] tlDec tlDecE) = tlStep (.b n0 m0 d0 n1 m1 d1 n2 m2 d2 came q fi cn en tb want i) := fun _ _ _ _ _ _ _ _ _ _ _ _ _ _ _ _ _ => by kernel_rfl
noncomputable def LL_4_tl : LL Try.prog (C_14) Try.f4.ntmps (drawA Try.prog FL_4_tl.fl Try.f4.ntmps (C_14)) FL_4_tl LC_4_tl TlS TlE :=
  { N0 := 5, rts := [0, 1, 2, 3, 9, 10, 11], kT := [0, 1, 2, 3, 9, 10, 11], vT := tlT, hT := tlH, nT := tlN, dec := tlDec, dec_ok := tlDec_ok, kE := [3, 8, 9, 10], oE := tlO, vE := tlV, hE := tlG, nE := tlM, decE := tlDecE, decE_ok := tlDecE_ok, step := tlStep,
    hstep := fun x => match x with
      | .a n0 m0 d0 n1 m1 d1 n2 m2 d2 came q fi cn en want i => nx_4_tl_a n0 m0 d0 n1 m1 d1 n2 m2 d2 came q fi cn en want i
      | .b n0 m0 d0 n1 m1 d1 n2 m2 d2 came q fi cn en tb want i => nx_4_tl_b n0 m0 d0 n1 m1 d1 n2 m2 d2 came q fi cn en tb want i
  }
theorem hs_4_tl : HSnd Try.prog Try.f4.ntmps (.block 0 (.loop LC_4_tl)) (llH 5 [0, 1, 2, 3, 9, 10, 11] tlDec 0 tlCps) :=
  LL.handler_snd LL_4_tl (C_14_snd) (drawA_sound (C_14_snd)) (laws_nil) 0 (cps := tlCps) tlCps_ok

/- ravelin/ravelinlaw14.SerialTells -/
noncomputable def F4 : Cfg := { F := 400, roots := [0, 1, 2, 3, 4, 5, 6, 7, 8, 9, 10, 11, 12, 13], fl := ⟨false, false⟩, laws := [(0, llH 5 [0, 1, 2, 3, 9, 10, 11] tlDec 0 tlCps)] }
def F4n : Cfg := { F := 400, roots := [0, 1, 2, 3, 4, 5, 6, 7, 8, 9, 10, 11, 12, 13], fl := ⟨false, false⟩ }
theorem run_4_rrr : ∀ (n0 : Nat) (d0 : List (List AV)) (n1 : Nat) (d1 : List (List AV)) (n2 : Nat) (d2 : List (List AV)) (came : BitVec 8), runS Try.prog (C_14) F4 Try.f4 [.slice ⟨0, 0, 0, 1, 0⟩ 1 n0, .slice ⟨1, 0, 0, 1, 0⟩ 1 n1, .slice ⟨2, 0, 0, 1, 0⟩ 1 n2, .int .u8 came] [(0, ⟨false, [.arr [.int .i64] n0 d0]⟩), (1, ⟨false, [.arr [.int .i64] n1 d1]⟩), (2, ⟨false, [.arr [.int .u64] n2 d2]⟩)] 4 = t_SerialTells_rrr n0 d0 n1 d1 n2 d2 came := fun _ _ _ _ _ _ _ => by kernel_rfl
theorem run_4_rrn : ∀ (n0 : Nat) (d0 : List (List AV)) (n1 : Nat) (d1 : List (List AV)) (came : BitVec 8), runS Try.prog (C_14) F4n Try.f4 [.slice ⟨0, 0, 0, 1, 0⟩ 1 n0, .slice ⟨1, 0, 0, 1, 0⟩ 1 n1, .nilslice, .int .u8 came] [(0, ⟨false, [.arr [.int .i64] n0 d0]⟩), (1, ⟨false, [.arr [.int .i64] n1 d1]⟩)] 4 = t_SerialTells_rrn n0 d0 n1 d1 came := fun _ _ _ _ _ => by kernel_rfl
theorem run_4_rnr : ∀ (n0 : Nat) (d0 : List (List AV)) (n2 : Nat) (d2 : List (List AV)) (came : BitVec 8), runS Try.prog (C_14) F4n Try.f4 [.slice ⟨0, 0, 0, 1, 0⟩ 1 n0, .nilslice, .slice ⟨2, 0, 0, 1, 0⟩ 1 n2, .int .u8 came] [(0, ⟨false, [.arr [.int .i64] n0 d0]⟩), (2, ⟨false, [.arr [.int .u64] n2 d2]⟩)] 4 = t_SerialTells_rnr n0 d0 n2 d2 came := fun _ _ _ _ _ => by kernel_rfl
theorem run_4_rnn : ∀ (n0 : Nat) (d0 : List (List AV)) (came : BitVec 8), runS Try.prog (C_14) F4n Try.f4 [.slice ⟨0, 0, 0, 1, 0⟩ 1 n0, .nilslice, .nilslice, .int .u8 came] [(0, ⟨false, [.arr [.int .i64] n0 d0]⟩)] 4 = t_SerialTells_rnn n0 d0 came := fun _ _ _ => by kernel_rfl
theorem run_4_nrr : ∀ (n1 : Nat) (d1 : List (List AV)) (n2 : Nat) (d2 : List (List AV)) (came : BitVec 8), runS Try.prog (C_14) F4n Try.f4 [.nilslice, .slice ⟨1, 0, 0, 1, 0⟩ 1 n1, .slice ⟨2, 0, 0, 1, 0⟩ 1 n2, .int .u8 came] [(1, ⟨false, [.arr [.int .i64] n1 d1]⟩), (2, ⟨false, [.arr [.int .u64] n2 d2]⟩)] 4 = t_SerialTells_nrr n1 d1 n2 d2 came := fun _ _ _ _ _ => by kernel_rfl
theorem run_4_nrn : ∀ (n1 : Nat) (d1 : List (List AV)) (came : BitVec 8), runS Try.prog (C_14) F4n Try.f4 [.nilslice, .slice ⟨1, 0, 0, 1, 0⟩ 1 n1, .nilslice, .int .u8 came] [(1, ⟨false, [.arr [.int .i64] n1 d1]⟩)] 4 = t_SerialTells_nrn n1 d1 came := fun _ _ _ => by kernel_rfl
theorem run_4_nnr : ∀ (n2 : Nat) (d2 : List (List AV)) (came : BitVec 8), runS Try.prog (C_14) F4n Try.f4 [.nilslice, .nilslice, .slice ⟨2, 0, 0, 1, 0⟩ 1 n2, .int .u8 came] [(2, ⟨false, [.arr [.int .u64] n2 d2]⟩)] 4 = t_SerialTells_nnr n2 d2 came := fun _ _ _ => by kernel_rfl
theorem run_4_nnn : ∀ (came : BitVec 8), runS Try.prog (C_14) F4n Try.f4 [.nilslice, .nilslice, .nilslice, .int .u8 came] [] 4 = t_SerialTells_nnn came := fun _ => by kernel_rfl
theorem snd_4 : Snd Try.prog (C_14) := C_14_snd
theorem fok_4 : FOK Try.prog Try.f4 F4 := fok_of (laws_cons (subs_one (b := .block 0 (.loop LC_4_tl)) (by kernel_rfl) hs_4_tl) (laws_nil))

end Go.Proofs.Ytenimiinkhjdbaa

import Derived.Test.YtaieimjeffedhaaSxW
import Derived.Test.YtaieimjeffedhaaSxY
import Derived.Test.YtaieimjeffedhaaSxLen2
import Derived.Test.YtaieimjeffedhaaSxEC
import Derived.Test.YtaieimjeffedhaaSxX
import Derived.Test.YtaieimjeffedhaaSxSR
import Derived.Test.YtaieimjeffedhaaSxAt
import Derived.Test.YtaieimjeffedhaaVa12
import Derived.Test.YtaieimjeffedhaaVl12
import Derived.Test.YtaieimjeffedhaaPlPlc
import Derived.Test.YtaieimjeffedhaaVl12x
import Derived.Test.YtaieimjeffedhaaPlPlr
import Derived.Test.YtaieimjeffedhaaVl12e
import Derived.Test.YtaieimjeffedhaaPlPlc7
import Derived.Test.YtaieimjeffedhaaVl12y
import Derived.Test.YtaieimjeffedhaaPlPlr2
import Derived.Test.YtaieimjeffedhaaVl12v
import Derived.Test.YtaieimjeffedhaaPlPlr4
import Derived.Test.YtaieimjeffedhaaVl12z
import Derived.Test.YtaieimjeffedhaaPlPlr3
import Derived.Test.YtaieimjeffedhaaVm12r
import Derived.KernelRfl
import Derived.Test.YtaieimjeffedhaaProg
set_option linter.unusedSimpArgs false
set_option linter.unusedVariables false
set_option linter.unnecessarySimpa false
/- What the functions of the seat answer. -/
namespace Go.Proofs.Ytaieimjeffedhaa
open Go Go.Sx Go.Proofs
set_option maxRecDepth 100000
set_option maxHeartbeats 4000000

/- ravelin/plic.New -/
def F9 : Cfg := { F := 400, roots := [0], fl := ⟨false, false⟩ }
noncomputable def C_9 : Oracle := inlS Try.prog 9 Try.f9 F9 nothing (nothing)
theorem C_9_snd : Snd Try.prog C_9 := inlS_snd Try.func9 (by kernel_rfl) nothing_snd nothing_snd

/- ravelin/plic.which -/
def F23 : Cfg := { F := 400, roots := [0, 1, 2, 3, 4], fl := ⟨true, false⟩ }
theorem run_23 : ∀ (off : BitVec 64) (size : BitVec 64), pureRun Try.prog C_9 F23 Try.f23 [.int .i64 off, .int .i64 size] = some ((fun (p : BitVec 64 × BitVec 64) => .tup [.int .i64 (p.1), .int .i64 (p.2)]) (v_plic_which off size)) := fun off size =>
 (show pureRun Try.prog C_9 F23 Try.f23 [.int .i64 off, .int .i64 size] = (cond (!size == 4#64)
 (some (AV.tup [(AV.int (IntKind.i64) (0#64)), (AV.int (IntKind.i64) (0#64))]))
 (cond (off.slt 0#64)
 (some (AV.tup [(AV.int (IntKind.i64) (0#64)), (AV.int (IntKind.i64) (0#64))]))
 (cond (off.slt 128#64)
 (cond (off.srem 4#64 == 0#64)
 (some (AV.tup [(AV.int (IntKind.i64) (1#64)), (AV.int (IntKind.i64) (off.sdiv 4#64))]))
 (cond (off == 4096#64)
 (some (AV.tup [(AV.int (IntKind.i64) (2#64)), (AV.int (IntKind.i64) (0#64))]))
 (cond (off == 8192#64)
 (some (AV.tup [(AV.int (IntKind.i64) (3#64)), (AV.int (IntKind.i64) (0#64))]))
 (cond (off == 2097152#64)
 (some (AV.tup [(AV.int (IntKind.i64) (4#64)), (AV.int (IntKind.i64) (0#64))]))
 (cond (off == 2097156#64)
 (some (AV.tup [(AV.int (IntKind.i64) (5#64)), (AV.int (IntKind.i64) (0#64))]))
 (cond (off == 8320#64)
 (some (AV.tup [(AV.int (IntKind.i64) (3#64)), (AV.int (IntKind.i64) (1#64))]))
 (cond (off == 2101248#64)
 (some (AV.tup [(AV.int (IntKind.i64) (4#64)), (AV.int (IntKind.i64) (1#64))]))
 (cond (off == 2101252#64)
 (some (AV.tup [(AV.int (IntKind.i64) (5#64)), (AV.int (IntKind.i64) (1#64))]))
 (some (AV.tup [(AV.int (IntKind.i64) (0#64)), (AV.int (IntKind.i64) (0#64))]))))))))))
 (cond (off == 4096#64)
 (some (AV.tup [(AV.int (IntKind.i64) (2#64)), (AV.int (IntKind.i64) (0#64))]))
 (cond (off == 8192#64)
 (some (AV.tup [(AV.int (IntKind.i64) (3#64)), (AV.int (IntKind.i64) (0#64))]))
 (cond (off == 2097152#64)
 (some (AV.tup [(AV.int (IntKind.i64) (4#64)), (AV.int (IntKind.i64) (0#64))]))
 (cond (off == 2097156#64)
 (some (AV.tup [(AV.int (IntKind.i64) (5#64)), (AV.int (IntKind.i64) (0#64))]))
 (cond (off == 8320#64)
 (some (AV.tup [(AV.int (IntKind.i64) (3#64)), (AV.int (IntKind.i64) (1#64))]))
 (cond (off == 2101248#64)
 (some (AV.tup [(AV.int (IntKind.i64) (4#64)), (AV.int (IntKind.i64) (1#64))]))
 (cond (off == 2101252#64)
 (some (AV.tup [(AV.int (IntKind.i64) (5#64)), (AV.int (IntKind.i64) (1#64))]))
 (some (AV.tup [(AV.int (IntKind.i64) (0#64)), (AV.int (IntKind.i64) (0#64))])))))))))))) by kernel_rfl).trans (by
    delta v_plic_which
    refine (mer _ (fun (p : BitVec 64 × BitVec 64) => .tup [.int .i64 (p.1), .int .i64 (p.2)]) ?_ (mer _ (fun (p : BitVec 64 × BitVec 64) => .tup [.int .i64 (p.1), .int .i64 (p.2)]) ?_ (mer _ (fun (p : BitVec 64 × BitVec 64) => .tup [.int .i64 (p.1), .int .i64 (p.2)]) (mer _ (fun (p : BitVec 64 × BitVec 64) => .tup [.int .i64 (p.1), .int .i64 (p.2)]) ?_ (mer _ (fun (p : BitVec 64 × BitVec 64) => .tup [.int .i64 (p.1), .int .i64 (p.2)]) ?_ (mer _ (fun (p : BitVec 64 × BitVec 64) => .tup [.int .i64 (p.1), .int .i64 (p.2)]) ?_ (mer _ (fun (p : BitVec 64 × BitVec 64) => .tup [.int .i64 (p.1), .int .i64 (p.2)]) ?_ (mer _ (fun (p : BitVec 64 × BitVec 64) => .tup [.int .i64 (p.1), .int .i64 (p.2)]) ?_ (mer _ (fun (p : BitVec 64 × BitVec 64) => .tup [.int .i64 (p.1), .int .i64 (p.2)]) ?_ (mer _ (fun (p : BitVec 64 × BitVec 64) => .tup [.int .i64 (p.1), .int .i64 (p.2)]) ?_ (mer _ (fun (p : BitVec 64 × BitVec 64) => .tup [.int .i64 (p.1), .int .i64 (p.2)]) ?_ ?_)))))))) (mer _ (fun (p : BitVec 64 × BitVec 64) => .tup [.int .i64 (p.1), .int .i64 (p.2)]) ?_ (mer _ (fun (p : BitVec 64 × BitVec 64) => .tup [.int .i64 (p.1), .int .i64 (p.2)]) ?_ (mer _ (fun (p : BitVec 64 × BitVec 64) => .tup [.int .i64 (p.1), .int .i64 (p.2)]) ?_ (mer _ (fun (p : BitVec 64 × BitVec 64) => .tup [.int .i64 (p.1), .int .i64 (p.2)]) ?_ (mer _ (fun (p : BitVec 64 × BitVec 64) => .tup [.int .i64 (p.1), .int .i64 (p.2)]) ?_ (mer _ (fun (p : BitVec 64 × BitVec 64) => .tup [.int .i64 (p.1), .int .i64 (p.2)]) ?_ (mer _ (fun (p : BitVec 64 × BitVec 64) => .tup [.int .i64 (p.1), .int .i64 (p.2)]) ?_ ?_))))))))))
    all_goals first | with_reducible rfl | rfl)
noncomputable def C_23 : Oracle := pureE 23 (pure2 dI64 dI64 (fun off size => (fun (p : BitVec 64 × BitVec 64) => .tup [.int .i64 (p.1), .int .i64 (p.2)]) (v_plic_which off size))) (C_9)
theorem C_23_snd : Snd Try.prog C_23 := pureE_snd (pure2_ok (F := F23) (C_9_snd) Try.func23 (by kernel_rfl) run_23 (fun _ _ => rfl)) (C_9_snd)

/- sync/atomic.AndUint32 -/
noncomputable def C_35 : Oracle := atUpdE 35 opAnd (C_23)
theorem C_35_snd : Snd Try.prog C_35 := atUpdE_snd (o := Op.intBits .and) Try.func35 (by kernel_rfl) (by kernel_rfl) (by kernel_rfl) (by kernel_rfl) opAnd_ok (C_23_snd)

/- (*sync/atomic.Uint32).And -/
def F27 : Cfg := { F := 400, roots := [0, 1, 2], fl := ⟨false, false⟩ }
noncomputable def C_27 : Oracle := inlS Try.prog 27 Try.f27 F27 C_35 (C_35)
theorem C_27_snd : Snd Try.prog C_27 := inlS_snd Try.func27 (by kernel_rfl) C_35_snd C_35_snd

/- (*ravelin/plic.Plic).Store -/
def F15 : Cfg := { F := 400, roots := [0, 1, 2, 3, 4, 5, 6, 7], fl := ⟨false, false⟩ }
noncomputable def C_15 : Oracle := inlS Try.prog 15 Try.f15 F15 C_27 (C_27)
theorem C_15_snd : Snd Try.prog C_15 := inlS_snd Try.func15 (by kernel_rfl) C_27_snd C_27_snd

/- an entry: a store -/
def FE_15_stq : Cfg := { F := 400, roots := [0, 1, 2, 3, 4, 5, 6, 7, 8, 9, 10, 11], fl := ⟨false, false⟩, laws := [] }
noncomputable def C_15_stq : Oracle := elE 15 stqDec g_stq stqF stqU (C_15)
theorem nx_15_stq : ∀ (pr : List (List AV)) (pe : BitVec 32) (se : BitVec 32) (en : List (List AV)) (th : List (List AV)) (off : BitVec 64) (size : BitVec 64) (v : BitVec 64), inlineA Try.prog (C_27) (drawA Try.prog) FE_15_stq Try.f15 (stqA (.a pr pe se en th off size v)) (stqH (.a pr pe se en th off size v)) (stqH (.a pr pe se en th off size v)).length stqDecR = stqStep (.a pr pe se en th off size v) := fun _ _ _ _ _ _ _ _ => by kernel_rfl
noncomputable def EL_15_stq : EL Try.prog (C_27) FE_15_stq Try.f15 StqS StqR :=
  { eA := stqA, eH := stqH, dec := stqDec, dec_ok := stqDec_ok, enc := stqU, decR := stqDecR, decR_ok := stqDecR_ok, step := stqStep, hstep := fun x => match x with
      | .a pr pe se en th off size v => nx_15_stq pr pe se en th off size v }
theorem C_15_stq_snd : Snd Try.prog C_15_stq := elE_snd EL_15_stq (C_27_snd) Try.func15 (by kernel_rfl) (ok := g_stq) (f := stqF) stq_out (C_15_snd)

/- sync/atomic.StoreUint32 -/
noncomputable def C_31 : Oracle := atStoreE 31 (C_15_stq)
theorem C_31_snd : Snd Try.prog C_31 := atStoreE_snd Try.func31 (by kernel_rfl) (by kernel_rfl) (by kernel_rfl) (by kernel_rfl) (C_15_stq_snd)

/- (*sync/atomic.Uint32).Store -/
def F21 : Cfg := { F := 400, roots := [0, 1], fl := ⟨false, false⟩ }
noncomputable def C_21 : Oracle := inlS Try.prog 21 Try.f21 F21 C_31 (C_31)
theorem C_21_snd : Snd Try.prog C_21 := inlS_snd Try.func21 (by kernel_rfl) C_31_snd C_31_snd

/- sync/atomic.LoadUint32 -/
noncomputable def C_32 : Oracle := atLoadE 32 (C_21)
theorem C_32_snd : Snd Try.prog C_32 := atLoadE_snd Try.func32 (by kernel_rfl) (by kernel_rfl) (by kernel_rfl) (by kernel_rfl) (C_21_snd)

/- (*sync/atomic.Uint32).Load -/
def F22 : Cfg := { F := 400, roots := [0, 1], fl := ⟨false, false⟩ }
noncomputable def C_22 : Oracle := quiS Try.prog 22 Try.f22 F22 C_32 (C_32)
theorem C_22_snd : Snd Try.prog C_22 := quiS_snd Try.func22 (by kernel_rfl) C_32_snd C_32_snd

/- (*ravelin/plic.Plic).Lines -/
def F11 : Cfg := { F := 400, roots := [0, 1], fl := ⟨false, false⟩ }
noncomputable def C_11 : Oracle := inlS Try.prog 11 Try.f11 F11 C_22 (C_22)
theorem C_11_snd : Snd Try.prog C_11 := inlS_snd Try.func11 (by kernel_rfl) C_22_snd C_22_snd

/- an entry: lines -/
def FE_11_lnq : Cfg := { F := 400, roots := [0, 1, 2, 3, 4, 5, 6, 7, 8, 9, 10, 11], fl := ⟨false, false⟩, laws := [] }
noncomputable def C_11_lnq : Oracle := elE 11 lnqDec g_lnq lnqF lnqU (C_11)
theorem nx_11_lnq : ∀ (pr : List (List AV)) (pe : BitVec 32) (se : BitVec 32) (en : List (List AV)) (th : List (List AV)) (m : BitVec 32), inlineA Try.prog (C_22) (drawA Try.prog) FE_11_lnq Try.f11 (lnqA (.a pr pe se en th m)) (lnqH (.a pr pe se en th m)) (lnqH (.a pr pe se en th m)).length lnqDecR = lnqStep (.a pr pe se en th m) := fun _ _ _ _ _ _ => by kernel_rfl
noncomputable def EL_11_lnq : EL Try.prog (C_22) FE_11_lnq Try.f11 LnqS LnqR :=
  { eA := lnqA, eH := lnqH, dec := lnqDec, dec_ok := lnqDec_ok, enc := lnqU, decR := lnqDecR, decR_ok := lnqDecR_ok, step := lnqStep, hstep := fun x => match x with
      | .a pr pe se en th m => nx_11_lnq pr pe se en th m }
theorem C_11_lnq_snd : Snd Try.prog C_11_lnq := elE_snd EL_11_lnq (C_22_snd) Try.func11 (by kernel_rfl) (ok := g_lnq) (f := lnqF) lnq_out (C_11_snd)

/- a loop of (*ravelin/plic.Plic).best -/
noncomputable def FL_30_bt : Cfg := { F := 400, roots := [0, 1, 2, 7, 8], fl := ⟨false, false⟩, laws := [] }
noncomputable def LC_30_bt : Code := loopIn 0 Try.f30
theorem nx_30_bt_a : ∀ (rw : Bool) (pr : List (List AV)) (pe : BitVec 32) (se : BitVec 32) (en : List (List AV)) (th : List (List AV)) (of : BitVec 32) (ab : BitVec 32) (be : BitVec 32) (s : BitVec 32), codeA Try.prog (C_11_lnq) (drawA Try.prog FL_30_bt.fl Try.f30.ntmps (C_11_lnq)) FL_30_bt Try.f30.ntmps LC_30_bt (tmOf [0, 1, 2, 7, 8] (btT (.a rw pr pe se en th of ab be s))) (btH (.a rw pr pe se en th of ab be s)) (btN (.a rw pr pe se en th of ab be s)) (roundK 1 [0, 1, 2, 7, 8] [0, 1, 2, 7, 8] [7] btDec btDecE) = btStep (.a rw pr pe se en th of ab be s) := fun _ _ _ _ _ _ _ _ _ _ => by kernel_rfl
noncomputable def LL_30_bt : LL Try.prog (C_11_lnq) Try.f30.ntmps (drawA Try.prog FL_30_bt.fl Try.f30.ntmps (C_11_lnq)) FL_30_bt LC_30_bt BtS BtE :=
  { N0 := 1, rts := [0, 1, 2, 7, 8], kT := [0, 1, 2, 7, 8], vT := btT, hT := btH, nT := btN, dec := btDec, dec_ok := btDec_ok, kE := [7], oE := btO, vE := btV, hE := btG, nE := btM, decE := btDecE, decE_ok := btDecE_ok, step := btStep,
    hstep := fun x => match x with
      | .a rw pr pe se en th of ab be s => nx_30_bt_a rw pr pe se en th of ab be s
  }
theorem hs_30_bt : HSnd Try.prog Try.f30.ntmps (.block 0 (.loop LC_30_bt)) (llH 1 [0, 1, 2, 7, 8] btDec 0 btCps) :=
  LL.handler_snd LL_30_bt (C_11_lnq_snd) (drawA_sound (C_11_lnq_snd)) (laws_nil) 0 (cps := btCps) btCps_ok

/- (*ravelin/plic.Plic).best -/
noncomputable def F30 : Cfg := { F := 400, roots := [0, 1, 2, 3, 4, 5, 6, 7, 8], fl := ⟨false, false⟩, laws := [(0, llH 1 [0, 1, 2, 7, 8] btDec 0 btCps)] }
theorem fok_30 : FOK Try.prog Try.f30 F30 := fok_of (laws_cons (subs_one (b := .block 0 (.loop LC_30_bt)) (by kernel_rfl) hs_30_bt) (laws_nil))
noncomputable def C_30 : Oracle := quiS Try.prog 30 Try.f30 F30 C_11_lnq (C_11_lnq)
theorem C_30_snd : Snd Try.prog C_30 := quiS_snd Try.func30 (by kernel_rfl) C_11_lnq_snd C_11_lnq_snd (hF := fok_30)

/- sync/atomic.OrUint32 -/
noncomputable def C_36 : Oracle := atUpdE 36 opOr (C_30)
theorem C_36_snd : Snd Try.prog C_36 := atUpdE_snd (o := Op.intBits .or) Try.func36 (by kernel_rfl) (by kernel_rfl) (by kernel_rfl) (by kernel_rfl) opOr_ok (C_30_snd)

/- (*sync/atomic.Uint32).Or -/
def F33 : Cfg := { F := 400, roots := [0, 1, 2], fl := ⟨false, false⟩ }
noncomputable def C_33 : Oracle := inlS Try.prog 33 Try.f33 F33 C_36 (C_36)
theorem C_33_snd : Snd Try.prog C_33 := inlS_snd Try.func33 (by kernel_rfl) C_36_snd C_36_snd

/- (*ravelin/plic.Plic).claim -/
def F24 : Cfg := { F := 400, roots := [0, 1, 2, 3], fl := ⟨false, false⟩ }
noncomputable def C_24 : Oracle := inlS Try.prog 24 Try.f24 F24 C_33 (C_33)
theorem C_24_snd : Snd Try.prog C_24 := inlS_snd Try.func24 (by kernel_rfl) C_33_snd C_33_snd

/- (*ravelin/plic.Plic).Load -/
def F13 : Cfg := { F := 400, roots := [0, 1, 2, 3, 4, 5, 6, 7], fl := ⟨false, false⟩ }
noncomputable def C_13 : Oracle := inlS Try.prog 13 Try.f13 F13 C_24 (C_24)
theorem C_13_snd : Snd Try.prog C_13 := inlS_snd Try.func13 (by kernel_rfl) C_24_snd C_24_snd

/- an entry: a load -/
def FE_13_ldq : Cfg := { F := 400, roots := [0, 1, 2, 3, 4, 5, 6, 7, 8, 9, 10, 11], fl := ⟨false, false⟩, laws := [] }
noncomputable def C_13_ldq : Oracle := elE 13 ldqDec g_ldq ldqF ldqU (C_13)
theorem nx_13_ldq : ∀ (pr : List (List AV)) (pe : BitVec 32) (se : BitVec 32) (en : List (List AV)) (th : List (List AV)) (off : BitVec 64) (size : BitVec 64), inlineA Try.prog (C_24) (drawA Try.prog) FE_13_ldq Try.f13 (ldqA (.a pr pe se en th off size)) (ldqH (.a pr pe se en th off size)) (ldqH (.a pr pe se en th off size)).length ldqDecR = ldqStep (.a pr pe se en th off size) := fun _ _ _ _ _ _ _ => by kernel_rfl
noncomputable def EL_13_ldq : EL Try.prog (C_24) FE_13_ldq Try.f13 LdqS LdqR :=
  { eA := ldqA, eH := ldqH, dec := ldqDec, dec_ok := ldqDec_ok, enc := ldqU, decR := ldqDecR, decR_ok := ldqDecR_ok, step := ldqStep, hstep := fun x => match x with
      | .a pr pe se en th off size => nx_13_ldq pr pe se en th off size }
theorem C_13_ldq_snd : Snd Try.prog C_13_ldq := elE_snd EL_13_ldq (C_24_snd) Try.func13 (by kernel_rfl) (ok := g_ldq) (f := ldqF) ldq_out (C_13_snd)

/- ravelin/ravelinlaw12.of -/
def F20 : Cfg := { F := 400, roots := [0, 1, 2, 3, 4], fl := ⟨false, false⟩ }
noncomputable def C_20 : Oracle := inlS Try.prog 20 Try.f20 F20 C_13_ldq (C_13_ldq)
theorem C_20_snd : Snd Try.prog C_20 := inlS_snd Try.func20 (by kernel_rfl) C_13_ldq_snd C_13_ldq_snd

/- (*ravelin/plic.Plic).Pending -/
def F17 : Cfg := { F := 400, roots := [0, 1, 2], fl := ⟨false, false⟩ }
noncomputable def C_17 : Oracle := quiS Try.prog 17 Try.f17 F17 C_20 (C_20)
theorem C_17_snd : Snd Try.prog C_17 := quiS_snd Try.func17 (by kernel_rfl) C_20_snd C_20_snd

/- an entry: interrupted? -/
def FE_17_pdq : Cfg := { F := 400, roots := [0, 1, 2, 3, 4, 5, 6, 7, 8, 9, 10, 11], fl := ⟨false, false⟩, laws := [] }
noncomputable def C_17_pdq : Oracle := elE 17 pdqDec g_pdq pdqF pdqU (C_17)
theorem nx_17_pdq : ∀ (pr : List (List AV)) (pe : BitVec 32) (se : BitVec 32) (en : List (List AV)) (th : List (List AV)) (cx : BitVec 64), inlineA Try.prog (C_20) (drawA Try.prog) FE_17_pdq Try.f17 (pdqA (.a pr pe se en th cx)) (pdqH (.a pr pe se en th cx)) (pdqH (.a pr pe se en th cx)).length pdqDecR = pdqStep (.a pr pe se en th cx) := fun _ _ _ _ _ _ => by kernel_rfl
noncomputable def EL_17_pdq : EL Try.prog (C_20) FE_17_pdq Try.f17 PdqS PdqR :=
  { eA := pdqA, eH := pdqH, dec := pdqDec, dec_ok := pdqDec_ok, enc := pdqU, decR := pdqDecR, decR_ok := pdqDecR_ok, step := pdqStep, hstep := fun x => match x with
      | .a pr pe se en th cx => nx_17_pdq pr pe se en th cx }
theorem C_17_pdq_snd : Snd Try.prog C_17_pdq := elE_snd EL_17_pdq (C_20_snd) Try.func17 (by kernel_rfl) (ok := g_pdq) (f := pdqF) pdq_out (C_17_snd)

/- ravelin/ravelinlaw12.works -/
def F8 : Cfg := { F := 400, roots := [0, 1, 2, 3, 4], fl := ⟨true, false⟩ }
theorem run_8 : pureRun Try.prog C_17_pdq F8 Try.f8 [] = some (.bool v_l12_works) := (show pureRun Try.prog C_17_pdq F8 Try.f8 [] = (some (AV.bool (true))) by kernel_rfl).trans (rfl)
noncomputable def C_8 : Oracle := pureE 8 (pure0  (.bool v_l12_works)) (C_17_pdq)
theorem C_8_snd : Snd Try.prog C_8 := pureE_snd (pure0_ok (F := F8) (C_17_pdq_snd) Try.func8 (by kernel_rfl) run_8 rfl) (C_17_pdq_snd)

/- ravelin/ravelinref12.New -/
def F10 : Cfg := { F := 400, roots := [0], fl := ⟨false, false⟩ }
noncomputable def C_10 : Oracle := inlS Try.prog 10 Try.f10 F10 C_8 (C_8)
theorem C_10_snd : Snd Try.prog C_10 := inlS_snd Try.func10 (by kernel_rfl) C_8_snd C_8_snd

/- a loop of (*ravelin/ravelinref12.Plic).Lines -/
noncomputable def FL_12_xl : Cfg := { F := 400, roots := [0, 1, 4], fl := ⟨false, false⟩, laws := [] }
noncomputable def LC_12_xl : Code := loopIn 0 Try.f12
theorem nx_12_xl_a : ∀ (L : List (List AV)) (T : List (List AV)) (m : BitVec 32) (s : BitVec 64), codeA Try.prog (C_10) (drawA Try.prog FL_12_xl.fl Try.f12.ntmps (C_10)) FL_12_xl Try.f12.ntmps LC_12_xl (tmOf [0, 1, 4] (xlT (.a L T m s))) (xlH (.a L T m s)) (xlN (.a L T m s)) (roundK 1 [0, 1, 4] [0, 1, 4] [] xlDec xlDecE) = xlStep (.a L T m s) := fun _ _ _ _ => by kernel_rfl
noncomputable def LL_12_xl : LL Try.prog (C_10) Try.f12.ntmps (drawA Try.prog FL_12_xl.fl Try.f12.ntmps (C_10)) FL_12_xl LC_12_xl XlS XlE :=
  { N0 := 1, rts := [0, 1, 4], kT := [0, 1, 4], vT := xlT, hT := xlH, nT := xlN, dec := xlDec, dec_ok := xlDec_ok, kE := [], oE := xlO, vE := xlV, hE := xlG, nE := xlM, decE := xlDecE, decE_ok := xlDecE_ok, step := xlStep,
    hstep := fun x => match x with
      | .a L T m s => nx_12_xl_a L T m s
  }
theorem hs_12_xl : HSnd Try.prog Try.f12.ntmps (.block 0 (.loop LC_12_xl)) (llH 1 [0, 1, 4] xlDec 0 xlCps) :=
  LL.handler_snd LL_12_xl (C_10_snd) (drawA_sound (C_10_snd)) (laws_nil) 0 (cps := xlCps) xlCps_ok

/- (*ravelin/ravelinref12.Plic).Lines -/
noncomputable def F12 : Cfg := { F := 400, roots := [0, 1, 2, 3, 4, 5], fl := ⟨false, false⟩, laws := [(0, llH 1 [0, 1, 4] xlDec 0 xlCps)] }
theorem fok_12 : FOK Try.prog Try.f12 F12 := fok_of (laws_cons (subs_one (b := .block 0 (.loop LC_12_xl)) (by kernel_rfl) hs_12_xl) (laws_nil))
noncomputable def C_12 : Oracle := inlS Try.prog 12 Try.f12 F12 C_10 (C_10)
theorem C_12_snd : Snd Try.prog C_12 := inlS_snd Try.func12 (by kernel_rfl) C_10_snd C_10_snd (hF := fok_12)

/- an entry: the document: lines -/
noncomputable def FE_12_xln : Cfg := { F := 400, roots := [0, 1, 2, 3, 4, 5, 6, 7, 8, 9, 10, 11], fl := ⟨false, false⟩, laws := [(0, llH 1 [0, 1, 4] xlDec 0 xlCps)] }
noncomputable def C_12_xln : Oracle := elE 12 xlnDec g_xln xlnF xlnU (C_12)
theorem nx_12_xln : ∀ (L : List (List AV)) (T : List (List AV)) (m : BitVec 32), inlineA Try.prog (C_10) (drawA Try.prog) FE_12_xln Try.f12 (xlnA (.a L T m)) (xlnH (.a L T m)) (xlnH (.a L T m)).length xlnDecR = xlnStep (.a L T m) := fun _ _ _ => by kernel_rfl
noncomputable def EL_12_xln : EL Try.prog (C_10) FE_12_xln Try.f12 XlnS XlnR :=
  { eA := xlnA, eH := xlnH, dec := xlnDec, dec_ok := xlnDec_ok, enc := xlnU, decR := xlnDecR, decR_ok := xlnDecR_ok, step := xlnStep, hstep := fun x => match x with
      | .a L T m => nx_12_xln L T m }
theorem foke_12_xln : FOK Try.prog Try.f12 FE_12_xln := fok_of (laws_cons (subs_one (b := .block 0 (.loop LC_12_xl)) (by kernel_rfl) hs_12_xl) (laws_nil))
theorem C_12_xln_snd : Snd Try.prog C_12_xln := elE_snd EL_12_xln (C_10_snd) Try.func12 (by kernel_rfl) (ok := g_xln) (f := xlnF) xln_out (C_12_snd) (hF := foke_12_xln)

/- a loop of (*ravelin/ravelinref12.Plic).bits -/
noncomputable def FL_25_xi : Cfg := { F := 400, roots := [0, 1, 5, 6], fl := ⟨false, false⟩, laws := [] }
noncomputable def LC_25_xi : Code := loopIn 0 Try.f25
theorem nx_25_xi_c0 : ∀ (rw : Bool) (L : List (List AV)) (T : List (List AV)) (v : BitVec 64) (s : BitVec 64), codeA Try.prog (C_12_xln) (drawA Try.prog FL_25_xi.fl Try.f25.ntmps (C_12_xln)) FL_25_xi Try.f25.ntmps LC_25_xi (tmOf [0, 1, 5, 6] (xiT (.c0 rw L T v s))) (xiH (.c0 rw L T v s)) (xiN (.c0 rw L T v s)) (roundK 1 [0, 1, 5, 6] [0, 1, 5, 6] [5] xiDec xiDecE) = xiStep (.c0 rw L T v s) := fun _ _ _ _ _ => by kernel_rfl
theorem nx_25_xi_c1 : ∀ (rw : Bool) (L : List (List AV)) (T : List (List AV)) (v : BitVec 64) (s : BitVec 64), codeA Try.prog (C_12_xln) (drawA Try.prog FL_25_xi.fl Try.f25.ntmps (C_12_xln)) FL_25_xi Try.f25.ntmps LC_25_xi (tmOf [0, 1, 5, 6] (xiT (.c1 rw L T v s))) (xiH (.c1 rw L T v s)) (xiN (.c1 rw L T v s)) (roundK 1 [0, 1, 5, 6] [0, 1, 5, 6] [5] xiDec xiDecE) = xiStep (.c1 rw L T v s) := fun _ _ _ _ _ => by kernel_rfl
theorem nx_25_xi_c2 : ∀ (rw : Bool) (L : List (List AV)) (T : List (List AV)) (v : BitVec 64) (s : BitVec 64), codeA Try.prog (C_12_xln) (drawA Try.prog FL_25_xi.fl Try.f25.ntmps (C_12_xln)) FL_25_xi Try.f25.ntmps LC_25_xi (tmOf [0, 1, 5, 6] (xiT (.c2 rw L T v s))) (xiH (.c2 rw L T v s)) (xiN (.c2 rw L T v s)) (roundK 1 [0, 1, 5, 6] [0, 1, 5, 6] [5] xiDec xiDecE) = xiStep (.c2 rw L T v s) := fun _ _ _ _ _ => by kernel_rfl
noncomputable def LL_25_xi : LL Try.prog (C_12_xln) Try.f25.ntmps (drawA Try.prog FL_25_xi.fl Try.f25.ntmps (C_12_xln)) FL_25_xi LC_25_xi XiS XiE :=
  { N0 := 1, rts := [0, 1, 5, 6], kT := [0, 1, 5, 6], vT := xiT, hT := xiH, nT := xiN, dec := xiDec, dec_ok := xiDec_ok, kE := [5], oE := xiO, vE := xiV, hE := xiG, nE := xiM, decE := xiDecE, decE_ok := xiDecE_ok, step := xiStep,
    hstep := fun x => match x with
      | .c0 rw L T v s => nx_25_xi_c0 rw L T v s
      | .c1 rw L T v s => nx_25_xi_c1 rw L T v s
      | .c2 rw L T v s => nx_25_xi_c2 rw L T v s
  }
theorem hs_25_xi : HSnd Try.prog Try.f25.ntmps (.block 0 (.loop LC_25_xi)) (llH 1 [0, 1, 5, 6] xiDec 0 xiCps) :=
  LL.handler_snd LL_25_xi (C_12_xln_snd) (drawA_sound (C_12_xln_snd)) (laws_nil) 0 (cps := xiCps) xiCps_ok

/- (*ravelin/ravelinref12.Plic).bits -/
noncomputable def F25 : Cfg := { F := 400, roots := [0, 1, 2, 3, 4, 5, 6], fl := ⟨false, false⟩, laws := [(0, llH 1 [0, 1, 5, 6] xiDec 0 xiCps)] }
theorem fok_25 : FOK Try.prog Try.f25 F25 := fok_of (laws_cons (subs_one (b := .block 0 (.loop LC_25_xi)) (by kernel_rfl) hs_25_xi) (laws_nil))
noncomputable def C_25 : Oracle := quiS Try.prog 25 Try.f25 F25 C_12_xln (C_12_xln)
theorem C_25_snd : Snd Try.prog C_25 := quiS_snd Try.func25 (by kernel_rfl) C_12_xln_snd C_12_xln_snd (hF := fok_25)

/- a loop of (*ravelin/ravelinref12.Plic).best -/
noncomputable def FL_34_xb : Cfg := { F := 400, roots := [0, 1, 5, 6], fl := ⟨false, false⟩, laws := [] }
noncomputable def LC_34_xb : Code := loopIn 0 Try.f34
theorem nx_34_xb_c0 : ∀ (rw : Bool) (L : List (List AV)) (T : List (List AV)) (be : BitVec 64) (s : BitVec 64), codeA Try.prog (C_25) (drawA Try.prog FL_34_xb.fl Try.f34.ntmps (C_25)) FL_34_xb Try.f34.ntmps LC_34_xb (tmOf [0, 1, 5, 6] (xbT (.c0 rw L T be s))) (xbH (.c0 rw L T be s)) (xbN (.c0 rw L T be s)) (roundK 1 [0, 1, 5, 6] [0, 1, 5, 6] [5] xbDec xbDecE) = xbStep (.c0 rw L T be s) := fun _ _ _ _ _ => by kernel_rfl
theorem nx_34_xb_c1 : ∀ (rw : Bool) (L : List (List AV)) (T : List (List AV)) (be : BitVec 64) (s : BitVec 64), codeA Try.prog (C_25) (drawA Try.prog FL_34_xb.fl Try.f34.ntmps (C_25)) FL_34_xb Try.f34.ntmps LC_34_xb (tmOf [0, 1, 5, 6] (xbT (.c1 rw L T be s))) (xbH (.c1 rw L T be s)) (xbN (.c1 rw L T be s)) (roundK 1 [0, 1, 5, 6] [0, 1, 5, 6] [5] xbDec xbDecE) = xbStep (.c1 rw L T be s) := fun _ _ _ _ _ => by kernel_rfl
noncomputable def LL_34_xb : LL Try.prog (C_25) Try.f34.ntmps (drawA Try.prog FL_34_xb.fl Try.f34.ntmps (C_25)) FL_34_xb LC_34_xb XbS XbE :=
  { N0 := 1, rts := [0, 1, 5, 6], kT := [0, 1, 5, 6], vT := xbT, hT := xbH, nT := xbN, dec := xbDec, dec_ok := xbDec_ok, kE := [5], oE := xbO, vE := xbV, hE := xbG, nE := xbM, decE := xbDecE, decE_ok := xbDecE_ok, step := xbStep,
    hstep := fun x => match x with
      | .c0 rw L T be s => nx_34_xb_c0 rw L T be s
      | .c1 rw L T be s => nx_34_xb_c1 rw L T be s
  }
theorem hs_34_xb : HSnd Try.prog Try.f34.ntmps (.block 0 (.loop LC_34_xb)) (llH 1 [0, 1, 5, 6] xbDec 0 xbCps) :=
  LL.handler_snd LL_34_xb (C_25_snd) (drawA_sound (C_25_snd)) (laws_nil) 0 (cps := xbCps) xbCps_ok

/- (*ravelin/ravelinref12.Plic).best -/
noncomputable def F34 : Cfg := { F := 400, roots := [0, 1, 2, 3, 4, 5, 6, 7], fl := ⟨false, false⟩, laws := [(0, llH 1 [0, 1, 5, 6] xbDec 0 xbCps)] }
theorem fok_34 : FOK Try.prog Try.f34 F34 := fok_of (laws_cons (subs_one (b := .block 0 (.loop LC_34_xb)) (by kernel_rfl) hs_34_xb) (laws_nil))
noncomputable def C_34 : Oracle := quiS Try.prog 34 Try.f34 F34 C_25 (C_25)
theorem C_34_snd : Snd Try.prog C_34 := quiS_snd Try.func34 (by kernel_rfl) C_25_snd C_25_snd (hF := fok_34)

/- (*ravelin/ravelinref12.Plic).claim -/
def F26 : Cfg := { F := 400, roots := [0, 1, 2, 3], fl := ⟨false, false⟩ }
noncomputable def C_26 : Oracle := inlS Try.prog 26 Try.f26 F26 C_34 (C_34)
theorem C_26_snd : Snd Try.prog C_26 := inlS_snd Try.func26 (by kernel_rfl) C_34_snd C_34_snd

/- (*ravelin/ravelinref12.Plic).Load -/
def F14 : Cfg := { F := 400, roots := [0, 1, 2, 3, 4], fl := ⟨false, false⟩ }
noncomputable def C_14 : Oracle := inlS Try.prog 14 Try.f14 F14 C_26 (C_26)
theorem C_14_snd : Snd Try.prog C_14 := inlS_snd Try.func14 (by kernel_rfl) C_26_snd C_26_snd

/- an entry: the document: a load -/
def FE_14_xld : Cfg := { F := 400, roots := [0, 1, 2, 3, 4, 5, 6, 7, 8, 9, 10, 11], fl := ⟨false, false⟩, laws := [] }
noncomputable def C_14_xld : Oracle := elE 14 xldDec g_xld xldF xldU (C_14)
theorem nx_14_xld : ∀ (L : List (List AV)) (T : List (List AV)) (off : BitVec 64) (size : BitVec 64), inlineA Try.prog (C_26) (drawA Try.prog) FE_14_xld Try.f14 (xldA (.a L T off size)) (xldH (.a L T off size)) (xldH (.a L T off size)).length xldDecR = xldStep (.a L T off size) := fun _ _ _ _ => by kernel_rfl
noncomputable def EL_14_xld : EL Try.prog (C_26) FE_14_xld Try.f14 XldS XldR :=
  { eA := xldA, eH := xldH, dec := xldDec, dec_ok := xldDec_ok, enc := xldU, decR := xldDecR, decR_ok := xldDecR_ok, step := xldStep, hstep := fun x => match x with
      | .a L T off size => nx_14_xld L T off size }
theorem C_14_xld_snd : Snd Try.prog C_14_xld := elE_snd EL_14_xld (C_26_snd) Try.func14 (by kernel_rfl) (ok := g_xld) (f := xldF) xld_out (C_14_snd)

/- a loop of (*ravelin/ravelinref12.Plic).enable -/
noncomputable def FL_28_xe : Cfg := { F := 400, roots := [0, 1, 2, 6], fl := ⟨false, false⟩, laws := [] }
noncomputable def LC_28_xe : Code := loopIn 0 Try.f28
theorem nx_28_xe_c0 : ∀ (L : List (List AV)) (T : List (List AV)) (v : BitVec 64) (s : BitVec 64), codeA Try.prog (C_14_xld) (drawA Try.prog FL_28_xe.fl Try.f28.ntmps (C_14_xld)) FL_28_xe Try.f28.ntmps LC_28_xe (tmOf [0, 1, 2, 6] (xeT (.c0 L T v s))) (xeH (.c0 L T v s)) (xeN (.c0 L T v s)) (roundK 1 [0, 1, 2, 6] [0, 1, 2, 6] [] xeDec xeDecE) = xeStep (.c0 L T v s) := fun _ _ _ _ => by kernel_rfl
theorem nx_28_xe_c1 : ∀ (L : List (List AV)) (T : List (List AV)) (v : BitVec 64) (s : BitVec 64), codeA Try.prog (C_14_xld) (drawA Try.prog FL_28_xe.fl Try.f28.ntmps (C_14_xld)) FL_28_xe Try.f28.ntmps LC_28_xe (tmOf [0, 1, 2, 6] (xeT (.c1 L T v s))) (xeH (.c1 L T v s)) (xeN (.c1 L T v s)) (roundK 1 [0, 1, 2, 6] [0, 1, 2, 6] [] xeDec xeDecE) = xeStep (.c1 L T v s) := fun _ _ _ _ => by kernel_rfl
noncomputable def LL_28_xe : LL Try.prog (C_14_xld) Try.f28.ntmps (drawA Try.prog FL_28_xe.fl Try.f28.ntmps (C_14_xld)) FL_28_xe LC_28_xe XeS XeE :=
  { N0 := 1, rts := [0, 1, 2, 6], kT := [0, 1, 2, 6], vT := xeT, hT := xeH, nT := xeN, dec := xeDec, dec_ok := xeDec_ok, kE := [], oE := xeO, vE := xeV, hE := xeG, nE := xeM, decE := xeDecE, decE_ok := xeDecE_ok, step := xeStep,
    hstep := fun x => match x with
      | .c0 L T v s => nx_28_xe_c0 L T v s
      | .c1 L T v s => nx_28_xe_c1 L T v s
  }
theorem hs_28_xe : HSnd Try.prog Try.f28.ntmps (.block 0 (.loop LC_28_xe)) (llH 1 [0, 1, 2, 6] xeDec 0 xeCps) :=
  LL.handler_snd LL_28_xe (C_14_xld_snd) (drawA_sound (C_14_xld_snd)) (laws_nil) 0 (cps := xeCps) xeCps_ok

/- (*ravelin/ravelinref12.Plic).enable -/
noncomputable def F28 : Cfg := { F := 400, roots := [0, 1, 2, 3, 4, 5, 6], fl := ⟨false, false⟩, laws := [(0, llH 1 [0, 1, 2, 6] xeDec 0 xeCps)] }
theorem fok_28 : FOK Try.prog Try.f28 F28 := fok_of (laws_cons (subs_one (b := .block 0 (.loop LC_28_xe)) (by kernel_rfl) hs_28_xe) (laws_nil))
noncomputable def C_28 : Oracle := inlS Try.prog 28 Try.f28 F28 C_14_xld (C_14_xld)
theorem C_28_snd : Snd Try.prog C_28 := inlS_snd Try.func28 (by kernel_rfl) C_14_xld_snd C_14_xld_snd (hF := fok_28)

/- (*ravelin/ravelinref12.Plic).complete -/
def F29 : Cfg := { F := 400, roots := [0, 1, 2], fl := ⟨false, false⟩ }
noncomputable def C_29 : Oracle := inlS Try.prog 29 Try.f29 F29 C_28 (C_28)
theorem C_29_snd : Snd Try.prog C_29 := inlS_snd Try.func29 (by kernel_rfl) C_28_snd C_28_snd

/- (*ravelin/ravelinref12.Plic).Store -/
def F16 : Cfg := { F := 400, roots := [0, 1, 2, 3, 4], fl := ⟨false, false⟩ }
noncomputable def C_16 : Oracle := inlS Try.prog 16 Try.f16 F16 C_29 (C_29)
theorem C_16_snd : Snd Try.prog C_16 := inlS_snd Try.func16 (by kernel_rfl) C_29_snd C_29_snd

/- an entry: the document: a store -/
def FE_16_xst : Cfg := { F := 400, roots := [0, 1, 2, 3, 4, 5, 6, 7, 8, 9, 10, 11], fl := ⟨false, false⟩, laws := [] }
noncomputable def C_16_xst : Oracle := elE 16 xstDec g_xst xstF xstU (C_16)
theorem nx_16_xst : ∀ (L : List (List AV)) (T : List (List AV)) (off : BitVec 64) (size : BitVec 64) (v : BitVec 64), inlineA Try.prog (C_29) (drawA Try.prog) FE_16_xst Try.f16 (xstA (.a L T off size v)) (xstH (.a L T off size v)) (xstH (.a L T off size v)).length xstDecR = xstStep (.a L T off size v) := fun _ _ _ _ _ => by kernel_rfl
noncomputable def EL_16_xst : EL Try.prog (C_29) FE_16_xst Try.f16 XstS XstR :=
  { eA := xstA, eH := xstH, dec := xstDec, dec_ok := xstDec_ok, enc := xstU, decR := xstDecR, decR_ok := xstDecR_ok, step := xstStep, hstep := fun x => match x with
      | .a L T off size v => nx_16_xst L T off size v }
theorem C_16_xst_snd : Snd Try.prog C_16_xst := elE_snd EL_16_xst (C_29_snd) Try.func16 (by kernel_rfl) (ok := g_xst) (f := xstF) xst_out (C_16_snd)

/- a loop of (*ravelin/ravelinref12.Plic).Pending -/
noncomputable def FL_18_xp : Cfg := { F := 400, roots := [0, 1, 5], fl := ⟨false, false⟩, laws := [] }
noncomputable def LC_18_xp : Code := loopIn 0 Try.f18
theorem nx_18_xp_c0 : ∀ (rw : Bool) (L : List (List AV)) (T : List (List AV)) (s : BitVec 64), codeA Try.prog (C_16_xst) (drawA Try.prog FL_18_xp.fl Try.f18.ntmps (C_16_xst)) FL_18_xp Try.f18.ntmps LC_18_xp (tmOf [0, 1, 5] (xpT (.c0 rw L T s))) (xpH (.c0 rw L T s)) (xpN (.c0 rw L T s)) (roundK 1 [0, 1, 5] [0, 1, 5] [4] xpDec xpDecE) = xpStep (.c0 rw L T s) := fun _ _ _ _ => by kernel_rfl
theorem nx_18_xp_c1 : ∀ (rw : Bool) (L : List (List AV)) (T : List (List AV)) (s : BitVec 64), codeA Try.prog (C_16_xst) (drawA Try.prog FL_18_xp.fl Try.f18.ntmps (C_16_xst)) FL_18_xp Try.f18.ntmps LC_18_xp (tmOf [0, 1, 5] (xpT (.c1 rw L T s))) (xpH (.c1 rw L T s)) (xpN (.c1 rw L T s)) (roundK 1 [0, 1, 5] [0, 1, 5] [4] xpDec xpDecE) = xpStep (.c1 rw L T s) := fun _ _ _ _ => by kernel_rfl
noncomputable def LL_18_xp : LL Try.prog (C_16_xst) Try.f18.ntmps (drawA Try.prog FL_18_xp.fl Try.f18.ntmps (C_16_xst)) FL_18_xp LC_18_xp XpS XpE :=
  { N0 := 1, rts := [0, 1, 5], kT := [0, 1, 5], vT := xpT, hT := xpH, nT := xpN, dec := xpDec, dec_ok := xpDec_ok, kE := [4], oE := xpO, vE := xpV, hE := xpG, nE := xpM, decE := xpDecE, decE_ok := xpDecE_ok, step := xpStep,
    hstep := fun x => match x with
      | .c0 rw L T s => nx_18_xp_c0 rw L T s
      | .c1 rw L T s => nx_18_xp_c1 rw L T s
  }
theorem hs_18_xp : HSnd Try.prog Try.f18.ntmps (.block 0 (.loop LC_18_xp)) (llH 1 [0, 1, 5] xpDec 0 xpCps) :=
  LL.handler_snd LL_18_xp (C_16_xst_snd) (drawA_sound (C_16_xst_snd)) (laws_nil) 0 (cps := xpCps) xpCps_ok

/- (*ravelin/ravelinref12.Plic).Pending -/
noncomputable def F18 : Cfg := { F := 400, roots := [0, 1, 2, 3, 4, 5, 6], fl := ⟨false, false⟩, laws := [(0, llH 1 [0, 1, 5] xpDec 0 xpCps)] }
theorem fok_18 : FOK Try.prog Try.f18 F18 := fok_of (laws_cons (subs_one (b := .block 0 (.loop LC_18_xp)) (by kernel_rfl) hs_18_xp) (laws_nil))
noncomputable def C_18 : Oracle := quiS Try.prog 18 Try.f18 F18 C_16_xst (C_16_xst)
theorem C_18_snd : Snd Try.prog C_18 := quiS_snd Try.func18 (by kernel_rfl) C_16_xst_snd C_16_xst_snd (hF := fok_18)

/- an entry: the document: is 0 interrupted? -/
noncomputable def FE_18_xq0 : Cfg := { F := 400, roots := [0, 1, 2, 3, 4, 5, 6, 7, 8, 9, 10, 11], fl := ⟨false, false⟩, laws := [(0, llH 1 [0, 1, 5] xpDec 0 xpCps)] }
noncomputable def C_18_xq0 : Oracle := elE 18 xq0Dec g_xq0 xq0F xq0U (C_18)
theorem nx_18_xq0 : ∀ (L : List (List AV)) (T : List (List AV)), inlineA Try.prog (C_16_xst) (drawA Try.prog) FE_18_xq0 Try.f18 (xq0A (.a L T)) (xq0H (.a L T)) (xq0H (.a L T)).length xq0DecR = xq0Step (.a L T) := fun _ _ => by kernel_rfl
noncomputable def EL_18_xq0 : EL Try.prog (C_16_xst) FE_18_xq0 Try.f18 Xq0S Xq0R :=
  { eA := xq0A, eH := xq0H, dec := xq0Dec, dec_ok := xq0Dec_ok, enc := xq0U, decR := xq0DecR, decR_ok := xq0DecR_ok, step := xq0Step, hstep := fun x => match x with
      | .a L T => nx_18_xq0 L T }
theorem foke_18_xq0 : FOK Try.prog Try.f18 FE_18_xq0 := fok_of (laws_cons (subs_one (b := .block 0 (.loop LC_18_xp)) (by kernel_rfl) hs_18_xp) (laws_nil))
theorem C_18_xq0_snd : Snd Try.prog C_18_xq0 := elE_snd EL_18_xq0 (C_16_xst_snd) Try.func18 (by kernel_rfl) (ok := g_xq0) (f := xq0F) xq0_out (C_18_snd) (hF := foke_18_xq0)

/- an entry: the document: is 1 interrupted? -/
noncomputable def FE_18_xq1 : Cfg := { F := 400, roots := [0, 1, 2, 3, 4, 5, 6, 7, 8, 9, 10, 11], fl := ⟨false, false⟩, laws := [(0, llH 1 [0, 1, 5] xpDec 0 xpCps)] }
noncomputable def C_18_xq1 : Oracle := elE 18 xq1Dec g_xq1 xq1F xq1U (C_18_xq0)
theorem nx_18_xq1 : ∀ (L : List (List AV)) (T : List (List AV)), inlineA Try.prog (C_16_xst) (drawA Try.prog) FE_18_xq1 Try.f18 (xq1A (.a L T)) (xq1H (.a L T)) (xq1H (.a L T)).length xq1DecR = xq1Step (.a L T) := fun _ _ => by kernel_rfl
noncomputable def EL_18_xq1 : EL Try.prog (C_16_xst) FE_18_xq1 Try.f18 Xq1S Xq1R :=
  { eA := xq1A, eH := xq1H, dec := xq1Dec, dec_ok := xq1Dec_ok, enc := xq1U, decR := xq1DecR, decR_ok := xq1DecR_ok, step := xq1Step, hstep := fun x => match x with
      | .a L T => nx_18_xq1 L T }
theorem foke_18_xq1 : FOK Try.prog Try.f18 FE_18_xq1 := fok_of (laws_cons (subs_one (b := .block 0 (.loop LC_18_xp)) (by kernel_rfl) hs_18_xp) (laws_nil))
theorem C_18_xq1_snd : Snd Try.prog C_18_xq1 := elE_snd EL_18_xq1 (C_16_xst_snd) Try.func18 (by kernel_rfl) (ok := g_xq1) (f := xq1F) xq1_out (C_18_xq0_snd) (hF := foke_18_xq1)

/- an entry: the document: another context -/
noncomputable def FE_18_xqo : Cfg := { F := 400, roots := [0, 1, 2, 3, 4, 5, 6, 7, 8, 9, 10, 11], fl := ⟨false, false⟩, laws := [(0, noneH)] }
noncomputable def C_18x_xqo : Oracle := elE 18 xqoDec g_xqo xqoF xqoU (C_18_xq1)
theorem nx_18_xqo : ∀ (L : List (List AV)) (T : List (List AV)) (cx : BitVec 64), inlineA Try.prog (C_16_xst) (drawA Try.prog) FE_18_xqo Try.f18 (xqoA (.a L T cx)) (xqoH (.a L T cx)) (xqoH (.a L T cx)).length xqoDecR = xqoStep (.a L T cx) := fun _ _ _ => by kernel_rfl
noncomputable def EL_18_xqo : EL Try.prog (C_16_xst) FE_18_xqo Try.f18 XqoS XqoR :=
  { eA := xqoA, eH := xqoH, dec := xqoDec, dec_ok := xqoDec_ok, enc := xqoU, decR := xqoDecR, decR_ok := xqoDecR_ok, step := xqoStep, hstep := fun x => match x with
      | .a L T cx => nx_18_xqo L T cx }
theorem foke_18x_xqo : FOK Try.prog Try.f18 FE_18_xqo := fok_of (laws_cons (fun _ _ => noneH_snd) laws_nil)
theorem C_18x_xqo_snd : Snd Try.prog C_18x_xqo := elE_snd EL_18_xqo (C_16_xst_snd) Try.func18 (by kernel_rfl) (ok := g_xqo) (f := xqoF) xqo_out (C_18_xq1_snd) (hF := foke_18x_xqo)
noncomputable def C_18f : Oracle := splitF 18 1 [0#64, 1#64] (C_18_xq1) (C_18x_xqo)
theorem C_18f_snd : Snd Try.prog C_18f := splitF_snd (C_18_xq1_snd) (C_18x_xqo_snd)

/- a loop of ravelin/ravelinlaw12.PlicRuns -/
noncomputable def FL_3_pl : Cfg := { F := 400, roots := [0, 3, 4, 5], fl := ⟨false, false⟩, laws := [] }
noncomputable def LC_3_pl : Code := loopIn 0 Try.f3
theorem nx_3_pl_a : ∀ (n : Nat) (m : Nat) (d : List (List AV)) (pr : List (List AV)) (pe : BitVec 32) (se : BitVec 32) (en : List (List AV)) (th : List (List AV)) (L : List (List AV)) (T : List (List AV)) (i : BitVec 64), codeA Try.prog (C_18f) (drawA Try.prog FL_3_pl.fl Try.f3.ntmps (C_18f)) FL_3_pl Try.f3.ntmps LC_3_pl (tmOf [0, 3, 4, 5] (plT (.a n m d pr pe se en th L T i))) (plH (.a n m d pr pe se en th L T i)) (plN (.a n m d pr pe se en th L T i)) (roundK 3 [0, 3, 4, 5] [0, 3, 4, 5] [2] plDec plDecE) = plStep (.a n m d pr pe se en th L T i) := fun _ _ _ _ _ _ _ _ _ _ _ => by kernel_rfl
noncomputable def LL_3_pl : LL Try.prog (C_18f) Try.f3.ntmps (drawA Try.prog FL_3_pl.fl Try.f3.ntmps (C_18f)) FL_3_pl LC_3_pl PlS PlE :=
  { N0 := 3, rts := [0, 3, 4, 5], kT := [0, 3, 4, 5], vT := plT, hT := plH, nT := plN, dec := plDec, dec_ok := plDec_ok, kE := [2], oE := plO, vE := plV, hE := plG, nE := plM, decE := plDecE, decE_ok := plDecE_ok, step := plStep,
    hstep := fun x => match x with
      | .a n m d pr pe se en th L T i => nx_3_pl_a n m d pr pe se en th L T i
  }
theorem hs_3_pl : HSnd Try.prog Try.f3.ntmps (.block 0 (.loop LC_3_pl)) (llH 3 [0, 3, 4, 5] plDec 0 plCps) :=
  LL.handler_snd LL_3_pl (C_18f_snd) (drawA_sound (C_18f_snd)) (laws_nil) 0 (cps := plCps) plCps_ok

/- ravelin/ravelinlaw12.PlicRuns -/
noncomputable def F3 : Cfg := { F := 400, roots := [0, 1, 2, 3, 4, 5, 6, 7, 8, 9, 10, 11, 12, 13, 14, 15], fl := ⟨false, false⟩, laws := [(0, llH 3 [0, 3, 4, 5] plDec 0 plCps)] }
def F3n : Cfg := { F := 400, roots := [0, 1, 2, 3, 4, 5, 6, 7, 8, 9, 10, 11, 12, 13, 14, 15], fl := ⟨false, false⟩ }
theorem run_3_r : ∀ (n : Nat) (d : List (List AV)), runS Try.prog (C_18f) F3 Try.f3 [.slice ⟨0, 0, 0, 5, 0⟩ 5 n] [(0, ⟨false, [.arr [.int .i64, .int .i64, .int .i64, .int .u64, .int .u32] n d]⟩)] 1 = t_PlicRuns_r n d := fun _ _ => by kernel_rfl
theorem run_3_n : runS Try.prog (C_18f) F3n Try.f3 [.nilslice] [] 1 = t_PlicRuns_n  :=  by kernel_rfl
theorem snd_3 : Snd Try.prog (C_18f) := C_18f_snd
theorem fok_3 : FOK Try.prog Try.f3 F3 := fok_of (laws_cons (subs_one (b := .block 0 (.loop LC_3_pl)) (by kernel_rfl) hs_3_pl) (laws_nil))

end Go.Proofs.Ytaieimjeffedhaa

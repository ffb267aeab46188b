import Derived.Test.YtaieimjeffedhaaSxW
import Derived.Test.YtaieimjeffedhaaSxY
import Derived.Test.YtaieimjeffedhaaSxLen2
import Derived.Test.YtaieimjeffedhaaSxX
import Derived.Test.YtaieimjeffedhaaSxSR
import Derived.Test.YtaieimjeffedhaaSxAt
import Derived.Test.YtaieimjeffedhaaVa12
import Derived.Test.YtaieimjeffedhaaVl12
import Derived.Test.YtaieimjeffedhaaPlPlc
import Derived.Test.YtaieimjeffedhaaPlPlc2
import Derived.Test.YtaieimjeffedhaaVl12b
import Derived.Test.YtaieimjeffedhaaPlPlc3
import Derived.Test.YtaieimjeffedhaaVl12c
import Derived.Test.YtaieimjeffedhaaPlPlc4
import Derived.Test.YtaieimjeffedhaaVl12d
import Derived.Test.YtaieimjeffedhaaPlPlc6
import Derived.Test.YtaieimjeffedhaaVl12e
import Derived.Test.YtaieimjeffedhaaPlPlc7
import Derived.Test.YtaieimjeffedhaaVl12f
import Derived.Test.YtaieimjeffedhaaPlPlc9
import Derived.Test.YtaieimjeffedhaaVm12
import Derived.KernelRfl
import Derived.Test.YtaieimjeffedhaaProg
set_option linter.unusedSimpArgs false
set_option linter.unusedVariables false
set_option linter.unnecessarySimpa false
/- What the functions of the seat answer. -/
namespace Go.Proofs.Ytaieimjeffedhaa
open Go Go.Sx Go.Proofs
set_option maxRecDepth 100000
set_option maxHeartbeats 4000000

/- ravelin/plic.New -/
def F9 : Cfg := { F := 400, roots := [0], fl := ⟨false, false⟩ }
noncomputable def C_9 : Oracle := inlS Try.prog 9 Try.f9 F9 nothing (nothing)
theorem C_9_snd : Snd Try.prog C_9 := inlS_snd Try.func9 (by kernel_rfl) nothing_snd nothing_snd

/- ravelin/plic.which -/
def F23 : Cfg := { F := 400, roots := [0, 1, 2, 3, 4], fl := ⟨true, false⟩ }
theorem run_23 : ∀ (off : BitVec 64) (size : BitVec 64), pureRun Try.prog C_9 F23 Try.f23 [.int .i64 off, .int .i64 size] = some ((fun (p : BitVec 64 × BitVec 64) => .tup [.int .i64 (p.1), .int .i64 (p.2)]) (v_plic_which off size)) := fun off size =>
 (show pureRun Try.prog C_9 F23 Try.f23 [.int .i64 off, .int .i64 size] = (cond (!size == 4#64)
 (some (AV.tup [(AV.int (IntKind.i64) (0#64)), (AV.int (IntKind.i64) (0#64))]))
 (cond (off.slt 0#64)
 (some (AV.tup [(AV.int (IntKind.i64) (0#64)), (AV.int (IntKind.i64) (0#64))]))
 (cond (off.slt 128#64)
 (cond (off.srem 4#64 == 0#64)
 (some (AV.tup [(AV.int (IntKind.i64) (1#64)), (AV.int (IntKind.i64) (off.sdiv 4#64))]))
 (cond (off == 4096#64)
 (some (AV.tup [(AV.int (IntKind.i64) (2#64)), (AV.int (IntKind.i64) (0#64))]))
 (cond (off == 8192#64)
 (some (AV.tup [(AV.int (IntKind.i64) (3#64)), (AV.int (IntKind.i64) (0#64))]))
 (cond (off == 2097152#64)
 (some (AV.tup [(AV.int (IntKind.i64) (4#64)), (AV.int (IntKind.i64) (0#64))]))
 (cond (off == 2097156#64)
 (some (AV.tup [(AV.int (IntKind.i64) (5#64)), (AV.int (IntKind.i64) (0#64))]))
 (cond (off == 8320#64)
 (some (AV.tup [(AV.int (IntKind.i64) (3#64)), (AV.int (IntKind.i64) (1#64))]))
 (cond (off == 2101248#64)
 (some (AV.tup [(AV.int (IntKind.i64) (4#64)), (AV.int (IntKind.i64) (1#64))]))
 (cond (off == 2101252#64)
 (some (AV.tup [(AV.int (IntKind.i64) (5#64)), (AV.int (IntKind.i64) (1#64))]))
 (some (AV.tup [(AV.int (IntKind.i64) (0#64)), (AV.int (IntKind.i64) (0#64))]))))))))))
 (cond (off == 4096#64)
 (some (AV.tup [(AV.int (IntKind.i64) (2#64)), (AV.int (IntKind.i64) (0#64))]))
 (cond (off == 8192#64)
 (some (AV.tup [(AV.int (IntKind.i64) (3#64)), (AV.int (IntKind.i64) (0#64))]))
 (cond (off == 2097152#64)
 (some (AV.tup [(AV.int (IntKind.i64) (4#64)), (AV.int (IntKind.i64) (0#64))]))
 (cond (off == 2097156#64)
 (some (AV.tup [(AV.int (IntKind.i64) (5#64)), (AV.int (IntKind.i64) (0#64))]))
 (cond (off == 8320#64)
 (some (AV.tup [(AV.int (IntKind.i64) (3#64)), (AV.int (IntKind.i64) (1#64))]))
 (cond (off == 2101248#64)
 (some (AV.tup [(AV.int (IntKind.i64) (4#64)), (AV.int (IntKind.i64) (1#64))]))
 (cond (off == 2101252#64)
 (some (AV.tup [(AV.int (IntKind.i64) (5#64)), (AV.int (IntKind.i64) (1#64))]))
 (some (AV.tup [(AV.int (IntKind.i64) (0#64)), (AV.int (IntKind.i64) (0#64))])))))))))))) by kernel_rfl).trans (by
    delta v_plic_which
    refine (mer _ (fun (p : BitVec 64 × BitVec 64) => .tup [.int .i64 (p.1), .int .i64 (p.2)]) ?_ (mer _ (fun (p : BitVec 64 × BitVec 64) => .tup [.int .i64 (p.1), .int .i64 (p.2)]) ?_ (mer _ (fun (p : BitVec 64 × BitVec 64) => .tup [.int .i64 (p.1), .int .i64 (p.2)]) (mer _ (fun (p : BitVec 64 × BitVec 64) => .tup [.int .i64 (p.1), .int .i64 (p.2)]) ?_ (mer _ (fun (p : BitVec 64 × BitVec 64) => .tup [.int .i64 (p.1), .int .i64 (p.2)]) ?_ (mer _ (fun (p : BitVec 64 × BitVec 64) => .tup [.int .i64 (p.1), .int .i64 (p.2)]) ?_ (mer _ (fun (p : BitVec 64 × BitVec 64) => .tup [.int .i64 (p.1), .int .i64 (p.2)]) ?_ (mer _ (fun (p : BitVec 64 × BitVec 64) => .tup [.int .i64 (p.1), .int .i64 (p.2)]) ?_ (mer _ (fun (p : BitVec 64 × BitVec 64) => .tup [.int .i64 (p.1), .int .i64 (p.2)]) ?_ (mer _ (fun (p : BitVec 64 × BitVec 64) => .tup [.int .i64 (p.1), .int .i64 (p.2)]) ?_ (mer _ (fun (p : BitVec 64 × BitVec 64) => .tup [.int .i64 (p.1), .int .i64 (p.2)]) ?_ ?_)))))))) (mer _ (fun (p : BitVec 64 × BitVec 64) => .tup [.int .i64 (p.1), .int .i64 (p.2)]) ?_ (mer _ (fun (p : BitVec 64 × BitVec 64) => .tup [.int .i64 (p.1), .int .i64 (p.2)]) ?_ (mer _ (fun (p : BitVec 64 × BitVec 64) => .tup [.int .i64 (p.1), .int .i64 (p.2)]) ?_ (mer _ (fun (p : BitVec 64 × BitVec 64) => .tup [.int .i64 (p.1), .int .i64 (p.2)]) ?_ (mer _ (fun (p : BitVec 64 × BitVec 64) => .tup [.int .i64 (p.1), .int .i64 (p.2)]) ?_ (mer _ (fun (p : BitVec 64 × BitVec 64) => .tup [.int .i64 (p.1), .int .i64 (p.2)]) ?_ (mer _ (fun (p : BitVec 64 × BitVec 64) => .tup [.int .i64 (p.1), .int .i64 (p.2)]) ?_ ?_))))))))))
    all_goals first | with_reducible rfl | rfl)
noncomputable def C_23 : Oracle := pureE 23 (pure2 dI64 dI64 (fun off size => (fun (p : BitVec 64 × BitVec 64) => .tup [.int .i64 (p.1), .int .i64 (p.2)]) (v_plic_which off size))) (C_9)
theorem C_23_snd : Snd Try.prog C_23 := pureE_snd (pure2_ok (F := F23) (C_9_snd) Try.func23 (by kernel_rfl) run_23 (fun _ _ => rfl)) (C_9_snd)

/- sync/atomic.AndUint32 -/
noncomputable def C_35 : Oracle := atUpdE 35 opAnd (C_23)
theorem C_35_snd : Snd Try.prog C_35 := atUpdE_snd (o := Op.intBits .and) Try.func35 (by kernel_rfl) (by kernel_rfl) (by kernel_rfl) (by kernel_rfl) opAnd_ok (C_23_snd)

/- (*sync/atomic.Uint32).And -/
def F27 : Cfg := { F := 400, roots := [0, 1, 2], fl := ⟨false, false⟩ }
noncomputable def C_27 : Oracle := inlS Try.prog 27 Try.f27 F27 C_35 (C_35)
theorem C_27_snd : Snd Try.prog C_27 := inlS_snd Try.func27 (by kernel_rfl) C_35_snd C_35_snd

/- (*ravelin/plic.Plic).Store -/
def F15 : Cfg := { F := 400, roots := [0, 1, 2, 3, 4, 5, 6, 7], fl := ⟨false, false⟩ }
noncomputable def C_15 : Oracle := inlS Try.prog 15 Try.f15 F15 C_27 (C_27)
theorem C_15_snd : Snd Try.prog C_15 := inlS_snd Try.func15 (by kernel_rfl) C_27_snd C_27_snd

/- sync/atomic.StoreUint32 -/
noncomputable def C_31 : Oracle := atStoreE 31 (C_15)
theorem C_31_snd : Snd Try.prog C_31 := atStoreE_snd Try.func31 (by kernel_rfl) (by kernel_rfl) (by kernel_rfl) (by kernel_rfl) (C_15_snd)

/- (*sync/atomic.Uint32).Store -/
def F21 : Cfg := { F := 400, roots := [0, 1], fl := ⟨false, false⟩ }
noncomputable def C_21 : Oracle := inlS Try.prog 21 Try.f21 F21 C_31 (C_31)
theorem C_21_snd : Snd Try.prog C_21 := inlS_snd Try.func21 (by kernel_rfl) C_31_snd C_31_snd

/- sync/atomic.LoadUint32 -/
noncomputable def C_32 : Oracle := atLoadE 32 (C_21)
theorem C_32_snd : Snd Try.prog C_32 := atLoadE_snd Try.func32 (by kernel_rfl) (by kernel_rfl) (by kernel_rfl) (by kernel_rfl) (C_21_snd)

/- (*sync/atomic.Uint32).Load -/
def F22 : Cfg := { F := 400, roots := [0, 1], fl := ⟨false, false⟩ }
noncomputable def C_22 : Oracle := quiS Try.prog 22 Try.f22 F22 C_32 (C_32)
theorem C_22_snd : Snd Try.prog C_22 := quiS_snd Try.func22 (by kernel_rfl) C_32_snd C_32_snd

/- (*ravelin/plic.Plic).Lines -/
def F11 : Cfg := { F := 400, roots := [0, 1], fl := ⟨false, false⟩ }
noncomputable def C_11 : Oracle := inlS Try.prog 11 Try.f11 F11 C_22 (C_22)
theorem C_11_snd : Snd Try.prog C_11 := inlS_snd Try.func11 (by kernel_rfl) C_22_snd C_22_snd

/- a loop of (*ravelin/plic.Plic).best -/
noncomputable def FL_30_bt : Cfg := { F := 400, roots := [0, 1, 2, 7, 8], fl := ⟨false, false⟩, laws := [] }
noncomputable def LC_30_bt : Code := loopIn 0 Try.f30
theorem nx_30_bt_a : ∀ (rw : Bool) (pr : List (List AV)) (pe : BitVec 32) (se : BitVec 32) (en : List (List AV)) (th : List (List AV)) (of : BitVec 32) (ab : BitVec 32) (be : BitVec 32) (s : BitVec 32), codeA Try.prog (C_11) (drawA Try.prog FL_30_bt.fl Try.f30.ntmps (C_11)) FL_30_bt Try.f30.ntmps LC_30_bt (tmOf [0, 1, 2, 7, 8] (btT (.a rw pr pe se en th of ab be s))) (btH (.a rw pr pe se en th of ab be s)) (btN (.a rw pr pe se en th of ab be s)) (roundK 1 [0, 1, 2, 7, 8] [0, 1, 2, 7, 8] [7] btDec btDecE) = btStep (.a rw pr pe se en th of ab be s) := fun _ _ _ _ _ _ _ _ _ _ => by kernel_rfl
noncomputable def LL_30_bt : LL Try.prog (C_11) Try.f30.ntmps (drawA Try.prog FL_30_bt.fl Try.f30.ntmps (C_11)) FL_30_bt LC_30_bt BtS BtE :=
  { N0 := 1, rts := [0, 1, 2, 7, 8], kT := [0, 1, 2, 7, 8], vT := btT, hT := btH, nT := btN, dec := btDec, dec_ok := btDec_ok, kE := [7], oE := btO, vE := btV, hE := btG, nE := btM, decE := btDecE, decE_ok := btDecE_ok, step := btStep,
    hstep := fun x => match x with
      | .a rw pr pe se en th of ab be s => nx_30_bt_a rw pr pe se en th of ab be s
  }
theorem hs_30_bt : HSnd Try.prog Try.f30.ntmps (.block 0 (.loop LC_30_bt)) (llH 1 [0, 1, 2, 7, 8] btDec 0 btCps) :=
  LL.handler_snd LL_30_bt (C_11_snd) (drawA_sound (C_11_snd)) (laws_nil) 0 (cps := btCps) btCps_ok

/- (*ravelin/plic.Plic).best -/
noncomputable def F30 : Cfg := { F := 400, roots := [0, 1, 2, 3, 4, 5, 6, 7, 8], fl := ⟨false, false⟩, laws := [(0, llH 1 [0, 1, 2, 7, 8] btDec 0 btCps)] }
theorem fok_30 : FOK Try.prog Try.f30 F30 := fok_of (laws_cons (subs_one (b := .block 0 (.loop LC_30_bt)) (by kernel_rfl) hs_30_bt) (laws_nil))
noncomputable def C_30 : Oracle := quiS Try.prog 30 Try.f30 F30 C_11 (C_11)
theorem C_30_snd : Snd Try.prog C_30 := quiS_snd Try.func30 (by kernel_rfl) C_11_snd C_11_snd (hF := fok_30)

/- sync/atomic.OrUint32 -/
noncomputable def C_36 : Oracle := atUpdE 36 opOr (C_30)
theorem C_36_snd : Snd Try.prog C_36 := atUpdE_snd (o := Op.intBits .or) Try.func36 (by kernel_rfl) (by kernel_rfl) (by kernel_rfl) (by kernel_rfl) opOr_ok (C_30_snd)

/- (*sync/atomic.Uint32).Or -/
def F33 : Cfg := { F := 400, roots := [0, 1, 2], fl := ⟨false, false⟩ }
noncomputable def C_33 : Oracle := inlS Try.prog 33 Try.f33 F33 C_36 (C_36)
theorem C_33_snd : Snd Try.prog C_33 := inlS_snd Try.func33 (by kernel_rfl) C_36_snd C_36_snd

/- (*ravelin/plic.Plic).claim -/
def F24 : Cfg := { F := 400, roots := [0, 1, 2, 3], fl := ⟨false, false⟩ }
noncomputable def C_24 : Oracle := inlS Try.prog 24 Try.f24 F24 C_33 (C_33)
theorem C_24_snd : Snd Try.prog C_24 := inlS_snd Try.func24 (by kernel_rfl) C_33_snd C_33_snd

/- (*ravelin/plic.Plic).Load -/
def F13 : Cfg := { F := 400, roots := [0, 1, 2, 3, 4, 5, 6, 7], fl := ⟨false, false⟩ }
noncomputable def C_13 : Oracle := inlS Try.prog 13 Try.f13 F13 C_24 (C_24)
theorem C_13_snd : Snd Try.prog C_13 := inlS_snd Try.func13 (by kernel_rfl) C_24_snd C_24_snd

/- ravelin/ravelinlaw12.of -/
def F20 : Cfg := { F := 400, roots := [0, 1, 2, 3, 4], fl := ⟨false, false⟩ }
noncomputable def C_20 : Oracle := inlS Try.prog 20 Try.f20 F20 C_13 (C_13)
theorem C_20_snd : Snd Try.prog C_20 := inlS_snd Try.func20 (by kernel_rfl) C_13_snd C_13_snd

/- (*ravelin/plic.Plic).Pending -/
def F17 : Cfg := { F := 400, roots := [0, 1, 2], fl := ⟨false, false⟩ }
noncomputable def C_17 : Oracle := quiS Try.prog 17 Try.f17 F17 C_20 (C_20)
theorem C_17_snd : Snd Try.prog C_17 := quiS_snd Try.func17 (by kernel_rfl) C_20_snd C_20_snd

/- ravelin/ravelinlaw12.works -/
def F8 : Cfg := { F := 400, roots := [0, 1, 2, 3, 4], fl := ⟨true, false⟩ }
theorem run_8 : pureRun Try.prog C_17 F8 Try.f8 [] = some (.bool v_l12_works) := (show pureRun Try.prog C_17 F8 Try.f8 [] = (some (AV.bool (true))) by kernel_rfl).trans (rfl)
noncomputable def C_8 : Oracle := pureE 8 (pure0  (.bool v_l12_works)) (C_17)
theorem C_8_snd : Snd Try.prog C_8 := pureE_snd (pure0_ok (F := F8) (C_17_snd) Try.func8 (by kernel_rfl) run_8 rfl) (C_17_snd)

/- a loop of ravelin/ravelinlaw12.done -/
noncomputable def FL_19_dn : Cfg := { F := 400, roots := [0, 3, 4], fl := ⟨false, false⟩, laws := [] }
noncomputable def LC_19_dn : Code := loopIn 0 Try.f19
theorem nx_19_dn_a : ∀ (n : Nat) (m : Nat) (d : List (List AV)) (pr : List (List AV)) (pe : BitVec 32) (se : BitVec 32) (en : List (List AV)) (th : List (List AV)) (i : BitVec 64), codeA Try.prog (C_8) (drawA Try.prog FL_19_dn.fl Try.f19.ntmps (C_8)) FL_19_dn Try.f19.ntmps LC_19_dn (tmOf [0, 3, 4] (dnT (.a n m d pr pe se en th i))) (dnH (.a n m d pr pe se en th i)) (dnN (.a n m d pr pe se en th i)) (roundK 2 [0, 3, 4] [0, 3, 4] [3] dnDec dnDecE) = dnStep (.a n m d pr pe se en th i) := fun _ _ _ _ _ _ _ _ _ => by kernel_rfl
noncomputable def LL_19_dn : LL Try.prog (C_8) Try.f19.ntmps (drawA Try.prog FL_19_dn.fl Try.f19.ntmps (C_8)) FL_19_dn LC_19_dn DnS DnE :=
  { N0 := 2, rts := [0, 3, 4], kT := [0, 3, 4], vT := dnT, hT := dnH, nT := dnN, dec := dnDec, dec_ok := dnDec_ok, kE := [3], oE := dnO, vE := dnV, hE := dnG, nE := dnM, decE := dnDecE, decE_ok := dnDecE_ok, step := dnStep,
    hstep := fun x => match x with
      | .a n m d pr pe se en th i => nx_19_dn_a n m d pr pe se en th i
  }
theorem hs_19_dn : HSnd Try.prog Try.f19.ntmps (.block 0 (.loop LC_19_dn)) (orH 2 (llH 2 [0, 3, 4] dnDec 0 dnCps) (selfH Try.prog (C_8) (drawA Try.prog FL_19_dn.fl Try.f19.ntmps (C_8)) FL_19_dn Try.f19.ntmps (.block 0 (.loop LC_19_dn)))) :=
  orH_snd (LL.handler_snd LL_19_dn (C_8_snd) (drawA_sound (C_8_snd)) (laws_nil) 0 (cps := dnCps) dnCps_ok) (selfH_snd (C_8_snd) (drawA_sound (C_8_snd)) (laws_nil))

/- ravelin/ravelinlaw12.done -/
noncomputable def F19 : Cfg := { F := 400, roots := [0, 1, 2, 3, 4], fl := ⟨false, false⟩, laws := [(0, orH 2 (llH 2 [0, 3, 4] dnDec 0 dnCps) (selfH Try.prog (C_8) (drawA Try.prog FL_19_dn.fl Try.f19.ntmps (C_8)) FL_19_dn Try.f19.ntmps (.block 0 (.loop LC_19_dn))))] }
theorem fok_19 : FOK Try.prog Try.f19 F19 := fok_of (laws_cons (subs_one (b := .block 0 (.loop LC_19_dn)) (by kernel_rfl) hs_19_dn) (laws_nil))
noncomputable def C_19 : Oracle := inlS Try.prog 19 Try.f19 F19 C_8 (C_8)
theorem C_19_snd : Snd Try.prog C_19 := inlS_snd Try.func19 (by kernel_rfl) C_8_snd C_8_snd (hF := fok_19)

/- a loop of ravelin/ravelinlaw12.PlicClaims -/
noncomputable def FL_4_cl : Cfg := { F := 400, roots := [5, 6, 7, 8, 9, 10, 11, 12], fl := ⟨false, false⟩, laws := [] }
noncomputable def LC_4_cl : Code := loopIn 0 Try.f4
theorem nx_4_cl_a : ∀ (pr : List (List AV)) (pe : BitVec 32) (se : BitVec 32) (en : List (List AV)) (th : List (List AV)) (ctx : BitVec 64) (bits : BitVec 64) (may : BitVec 64) (lim : BitVec 64) (be : BitVec 64) (mo : BitVec 64) (s : BitVec 64), codeA Try.prog (C_19) (drawA Try.prog FL_4_cl.fl Try.f4.ntmps (C_19)) FL_4_cl Try.f4.ntmps LC_4_cl (tmOf [5, 6, 7, 8, 9, 10, 11, 12] (clT (.a pr pe se en th ctx bits may lim be mo s))) (clH (.a pr pe se en th ctx bits may lim be mo s)) (clN (.a pr pe se en th ctx bits may lim be mo s)) (roundK 3 [5, 6, 7, 8, 9, 10, 11, 12] [5, 6, 7, 8, 9, 10, 11, 12] [5, 6, 7, 9, 10, 11] clDec clDecE) = clStep (.a pr pe se en th ctx bits may lim be mo s) := fun _ _ _ _ _ _ _ _ _ _ _ _ => by kernel_rfl
noncomputable def LL_4_cl : LL Try.prog (C_19) Try.f4.ntmps (drawA Try.prog FL_4_cl.fl Try.f4.ntmps (C_19)) FL_4_cl LC_4_cl ClS ClE :=
  { N0 := 3, rts := [5, 6, 7, 8, 9, 10, 11, 12], kT := [5, 6, 7, 8, 9, 10, 11, 12], vT := clT, hT := clH, nT := clN, dec := clDec, dec_ok := clDec_ok, kE := [5, 6, 7, 9, 10, 11], oE := clO, vE := clV, hE := clG, nE := clM, decE := clDecE, decE_ok := clDecE_ok, step := clStep,
    hstep := fun x => match x with
      | .a pr pe se en th ctx bits may lim be mo s => nx_4_cl_a pr pe se en th ctx bits may lim be mo s
  }
theorem hs_4_cl : HSnd Try.prog Try.f4.ntmps (.block 0 (.loop LC_4_cl)) (llH 3 [5, 6, 7, 8, 9, 10, 11, 12] clDec 0 clCps) :=
  LL.handler_snd LL_4_cl (C_19_snd) (drawA_sound (C_19_snd)) (laws_nil) 0 (cps := clCps) clCps_ok

/- ravelin/ravelinlaw12.PlicClaims -/
noncomputable def F4 : Cfg := { F := 400, roots := [0, 1, 2, 3, 4, 5, 6, 7, 8, 9, 10, 11, 12, 13, 14, 15, 16], fl := ⟨false, false⟩, laws := [(0, llH 3 [5, 6, 7, 8, 9, 10, 11, 12] clDec 0 clCps)] }
theorem run_4_r : ∀ (n : Nat) (d : List (List AV)) (second : Bool), runS Try.prog (C_19) F4 Try.f4 [.slice ⟨0, 0, 0, 5, 0⟩ 5 n, .bool second] [(0, ⟨false, [.arr [.int .i64, .int .i64, .int .i64, .int .u64, .int .u32] n d]⟩)] 2 = t_PlicClaims_r n d second := fun _ _ _ => by kernel_rfl
theorem run_4_n : ∀ (second : Bool), runS Try.prog (C_19) F4 Try.f4 [.nilslice, .bool second] [] 2 = t_PlicClaims_n second := fun _ => by kernel_rfl
theorem snd_4 : Snd Try.prog (C_19) := C_19_snd
theorem fok_4 : FOK Try.prog Try.f4 F4 := fok_of (laws_cons (subs_one (b := .block 0 (.loop LC_4_cl)) (by kernel_rfl) hs_4_cl) (laws_nil))

/- an entry: a store -/
def FE_15_stq : Cfg := { F := 400, roots := [0, 1, 2, 3, 4, 5, 6, 7, 8, 9, 10, 11], fl := ⟨false, false⟩, laws := [] }
noncomputable def C_5_stq : Oracle := elE 15 stqDec g_stq stqF stqU (C_19)
theorem nx_15_stq : ∀ (pr : List (List AV)) (pe : BitVec 32) (se : BitVec 32) (en : List (List AV)) (th : List (List AV)) (off : BitVec 64) (size : BitVec 64) (v : BitVec 64), inlineA Try.prog (C_19) (drawA Try.prog) FE_15_stq Try.f15 (stqA (.a pr pe se en th off size v)) (stqH (.a pr pe se en th off size v)) (stqH (.a pr pe se en th off size v)).length stqDecR = stqStep (.a pr pe se en th off size v) := fun _ _ _ _ _ _ _ _ => by kernel_rfl
noncomputable def EL_15_stq : EL Try.prog (C_19) FE_15_stq Try.f15 StqS StqR :=
  { eA := stqA, eH := stqH, dec := stqDec, dec_ok := stqDec_ok, enc := stqU, decR := stqDecR, decR_ok := stqDecR_ok, step := stqStep, hstep := fun x => match x with
      | .a pr pe se en th off size v => nx_15_stq pr pe se en th off size v }
theorem C_5_stq_snd : Snd Try.prog C_5_stq := elE_snd EL_15_stq (C_19_snd) Try.func15 (by kernel_rfl) (ok := g_stq) (f := stqF) stq_out (C_19_snd)

/- a loop of ravelin/ravelinlaw12.PlicOnce -/
noncomputable def FL_5_oc : Cfg := { F := 400, roots := [2, 7, 8, 9, 10], fl := ⟨false, false⟩, laws := [] }
noncomputable def LC_5_oc : Code := loopIn 0 Try.f5
theorem nx_5_oc_a : ∀ (n : Nat) (m : Nat) (d : List (List AV)) (pr : List (List AV)) (pe : BitVec 32) (se : BitVec 32) (en : List (List AV)) (th : List (List AV)) (ctx : BitVec 64) (s : BitVec 64) (i : BitVec 64), codeA Try.prog (C_5_stq) (drawA Try.prog FL_5_oc.fl Try.f5.ntmps (C_5_stq)) FL_5_oc Try.f5.ntmps LC_5_oc (tmOf [2, 7, 8, 9, 10] (ocT (.a n m d pr pe se en th ctx s i))) (ocH (.a n m d pr pe se en th ctx s i)) (ocN (.a n m d pr pe se en th ctx s i)) (roundK 4 [2, 7, 8, 9, 10] [2, 7, 8, 9, 10] [6, 7, 8, 9] ocDec ocDecE) = ocStep (.a n m d pr pe se en th ctx s i) := fun _ _ _ _ _ _ _ _ _ _ _ => by kernel_rfl
noncomputable def LL_5_oc : LL Try.prog (C_5_stq) Try.f5.ntmps (drawA Try.prog FL_5_oc.fl Try.f5.ntmps (C_5_stq)) FL_5_oc LC_5_oc OcS OcE :=
  { N0 := 4, rts := [2, 7, 8, 9, 10], kT := [2, 7, 8, 9, 10], vT := ocT, hT := ocH, nT := ocN, dec := ocDec, dec_ok := ocDec_ok, kE := [6, 7, 8, 9], oE := ocO, vE := ocV, hE := ocG, nE := ocM, decE := ocDecE, decE_ok := ocDecE_ok, step := ocStep,
    hstep := fun x => match x with
      | .a n m d pr pe se en th ctx s i => nx_5_oc_a n m d pr pe se en th ctx s i
  }
theorem hs_5_oc : HSnd Try.prog Try.f5.ntmps (.block 0 (.loop LC_5_oc)) (llH 4 [2, 7, 8, 9, 10] ocDec 0 ocCps) :=
  LL.handler_snd LL_5_oc (C_5_stq_snd) (drawA_sound (C_5_stq_snd)) (laws_nil) 0 (cps := ocCps) ocCps_ok

/- ravelin/ravelinlaw12.PlicOnce -/
noncomputable def F5 : Cfg := { F := 400, roots := [0, 1, 2, 3, 4, 5, 6, 7, 8, 9, 10], fl := ⟨false, false⟩, laws := [(0, llH 4 [2, 7, 8, 9, 10] ocDec 0 ocCps)] }
def F5n : Cfg := { F := 400, roots := [0, 1, 2, 3, 4, 5, 6, 7, 8, 9, 10], fl := ⟨false, false⟩ }
theorem run_5_rr : ∀ (n : Nat) (d : List (List AV)) (second : Bool) (k : Nat) (e : List (List AV)), runS Try.prog (C_5_stq) F5 Try.f5 [.slice ⟨0, 0, 0, 5, 0⟩ 5 n, .bool second, .slice ⟨2, 0, 0, 1, 0⟩ 1 k] [(0, ⟨false, [.arr [.int .i64, .int .i64, .int .i64, .int .u64, .int .u32] n d]⟩), (2, ⟨false, [.arr [.int .u32] k e]⟩)] 3 = t_PlicOnce_rr n d second k e := fun _ _ _ _ _ => by kernel_rfl
theorem run_5_rn : ∀ (n : Nat) (d : List (List AV)) (second : Bool), runS Try.prog (C_5_stq) F5n Try.f5 [.slice ⟨0, 0, 0, 5, 0⟩ 5 n, .bool second, .nilslice] [(0, ⟨false, [.arr [.int .i64, .int .i64, .int .i64, .int .u64, .int .u32] n d]⟩)] 3 = t_PlicOnce_rn n d second := fun _ _ _ => by kernel_rfl
theorem run_5_nr : ∀ (second : Bool) (k : Nat) (e : List (List AV)), runS Try.prog (C_5_stq) F5 Try.f5 [.nilslice, .bool second, .slice ⟨2, 0, 0, 1, 0⟩ 1 k] [(2, ⟨false, [.arr [.int .u32] k e]⟩)] 3 = t_PlicOnce_nr second k e := fun _ _ _ => by kernel_rfl
theorem run_5_nn : ∀ (second : Bool), runS Try.prog (C_5_stq) F5n Try.f5 [.nilslice, .bool second, .nilslice] [] 3 = t_PlicOnce_nn second := fun _ => by kernel_rfl
theorem snd_5 : Snd Try.prog (C_5_stq) := C_5_stq_snd
theorem fok_5 : FOK Try.prog Try.f5 F5 := fok_of (laws_cons (subs_one (b := .block 0 (.loop LC_5_oc)) (by kernel_rfl) hs_5_oc) (laws_nil))

/- an entry: a store -/
noncomputable def C_6_stq : Oracle := elE 15 stqDec g_stq stqF stqU (C_19)
theorem C_6_stq_snd : Snd Try.prog C_6_stq := elE_snd EL_15_stq (C_19_snd) Try.func15 (by kernel_rfl) (ok := g_stq) (f := stqF) stq_out (C_19_snd)

/- a loop of ravelin/ravelinlaw12.PlicRegisters -/
noncomputable def FL_6_rg : Cfg := { F := 400, roots := [1, 2, 3, 9, 10, 11, 14, 15, 16], fl := ⟨false, false⟩, laws := [] }
noncomputable def LC_6_rg : Code := loopIn 4 Try.f6
theorem nx_6_rg_a : ∀ (pr : List (List AV)) (pe : BitVec 32) (se : BitVec 32) (en : List (List AV)) (th : List (List AV)) (off : BitVec 64) (size : BitVec 64) (v : BitVec 64) (nw : Nat) (mw : Nat) (w : List (List AV)) (nr : Nat) (mr : Nat) (r : List (List AV)) (stored : Bool) (there : Bool) (i : BitVec 64), codeA Try.prog (C_6_stq) (drawA Try.prog FL_6_rg.fl Try.f6.ntmps (C_6_stq)) FL_6_rg Try.f6.ntmps LC_6_rg (tmOf [1, 2, 3, 9, 10, 11, 14, 15, 16] (rgT (.a pr pe se en th off size v nw mw w nr mr r stored there i))) (rgH (.a pr pe se en th off size v nw mw w nr mr r stored there i)) (rgN (.a pr pe se en th off size v nw mw w nr mr r stored there i)) (roundK 8 [1, 2, 3, 9, 10, 11, 14, 15, 16] [1, 2, 3, 9, 10, 11, 14, 15, 16] [2, 8, 14, 15] rgDec rgDecE) = rgStep (.a pr pe se en th off size v nw mw w nr mr r stored there i) := fun _ _ _ _ _ _ _ _ _ _ _ _ _ _ _ _ _ => by kernel_rfl
noncomputable def LL_6_rg : LL Try.prog (C_6_stq) Try.f6.ntmps (drawA Try.prog FL_6_rg.fl Try.f6.ntmps (C_6_stq)) FL_6_rg LC_6_rg RgS RgE :=
  { N0 := 8, rts := [1, 2, 3, 9, 10, 11, 14, 15, 16], kT := [1, 2, 3, 9, 10, 11, 14, 15, 16], vT := rgT, hT := rgH, nT := rgN, dec := rgDec, dec_ok := rgDec_ok, kE := [2, 8, 14, 15], oE := rgO, vE := rgV, hE := rgG, nE := rgM, decE := rgDecE, decE_ok := rgDecE_ok, step := rgStep,
    hstep := fun x => match x with
      | .a pr pe se en th off size v nw mw w nr mr r stored there i => nx_6_rg_a pr pe se en th off size v nw mw w nr mr r stored there i
  }
theorem hs_6_rg : HSnd Try.prog Try.f6.ntmps (.block 4 (.loop LC_6_rg)) (llH 8 [1, 2, 3, 9, 10, 11, 14, 15, 16] rgDec 4 rgCps) :=
  LL.handler_snd LL_6_rg (C_6_stq_snd) (drawA_sound (C_6_stq_snd)) (laws_nil) 4 (cps := rgCps) rgCps_ok

/- ravelin/ravelinlaw12.PlicRegisters -/
noncomputable def F6 : Cfg := { F := 400, roots := [0, 1, 2, 3, 4, 5, 6, 7, 8, 9, 10, 11, 12, 13, 14, 15, 16, 17], fl := ⟨false, false⟩, laws := [(4, llH 8 [1, 2, 3, 9, 10, 11, 14, 15, 16] rgDec 4 rgCps)] }
theorem run_6_r : ∀ (n : Nat) (d : List (List AV)) (off : BitVec 64) (size : BitVec 64) (v : BitVec 64), runS Try.prog (C_6_stq) F6 Try.f6 [.slice ⟨0, 0, 0, 5, 0⟩ 5 n, .int .i64 off, .int .i64 size, .int .u64 v] [(0, ⟨false, [.arr [.int .i64, .int .i64, .int .i64, .int .u64, .int .u32] n d]⟩)] 4 = t_PlicRegisters_r n d off size v := fun _ _ _ _ _ => by kernel_rfl
theorem run_6_n : ∀ (off : BitVec 64) (size : BitVec 64) (v : BitVec 64), runS Try.prog (C_6_stq) F6 Try.f6 [.nilslice, .int .i64 off, .int .i64 size, .int .u64 v] [] 4 = t_PlicRegisters_n off size v := fun _ _ _ => by kernel_rfl
theorem snd_6 : Snd Try.prog (C_6_stq) := C_6_stq_snd
theorem fok_6 : FOK Try.prog Try.f6 F6 := fok_of (laws_cons (subs_one (b := .block 4 (.loop LC_6_rg)) (by kernel_rfl) hs_6_rg) (laws_nil))

end Go.Proofs.Ytaieimjeffedhaa

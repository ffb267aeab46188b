import Derived.Test.YtaieimjeffedhaaSxW
import Derived.Test.YtaieimjeffedhaaSxY
import Derived.Test.YtaieimjeffedhaaSxLen2
import Derived.Test.YtaieimjeffedhaaSxX
import Derived.Test.YtaieimjeffedhaaSxSR
import Derived.Test.YtaieimjeffedhaaSxAt
import Derived.Test.YtaieimjeffedhaaVa12
import Derived.Test.YtaieimjeffedhaaVl12
import Derived.Test.YtaieimjeffedhaaPlPlc
import Derived.Test.YtaieimjeffedhaaPlPlc2
import Derived.Test.YtaieimjeffedhaaVl12b
import Derived.Test.YtaieimjeffedhaaPlPlc3
import Derived.Test.YtaieimjeffedhaaVl12c
import Derived.Test.YtaieimjeffedhaaPlPlc4
import Derived.Test.YtaieimjeffedhaaVm12
import Derived.KernelRfl
import Derived.Test.YtaieimjeffedhaaProg
set_option linter.unusedSimpArgs false
set_option linter.unusedVariables false
set_option linter.unnecessarySimpa false
/- What the functions of the seat answer. -/
namespace Go.Proofs.Ytaieimjeffedhaa
open Go Go.Sx Go.Proofs
set_option maxRecDepth 100000
set_option maxHeartbeats 4000000

/- ravelin/plic.New -/
def F9 : Cfg := { F := 400, roots := [0], fl := ⟨false, false⟩ }
noncomputable def C_9 : Oracle := inlS Try.prog 9 Try.f9 F9 nothing (nothing)
theorem C_9_snd : Snd Try.prog C_9 := inlS_snd Try.func9 (by kernel_rfl) nothing_snd nothing_snd

/- ravelin/plic.which -/
def F23 : Cfg := { F := 400, roots := [0, 1, 2, 3, 4], fl := ⟨true, false⟩ }
theorem run_23 : ∀ (off : BitVec 64) (size : BitVec 64), pureRun Try.prog C_9 F23 Try.f23 [.int .i64 off, .int .i64 size] = some ((fun (p : BitVec 64 × BitVec 64) => .tup [.int .i64 (p.1), .int .i64 (p.2)]) (v_plic_which off size)) := fun off size =>
 (show pureRun Try.prog C_9 F23 Try.f23 [.int .i64 off, .int .i64 size] = (cond (!size == 4#64)
 (some (AV.tup [(AV.int (IntKind.i64) (0#64)), (AV.int (IntKind.i64) (0#64))]))
 (cond (off.slt 0#64)
 (some (AV.tup [(AV.int (IntKind.i64) (0#64)), (AV.int (IntKind.i64) (0#64))]))
 (cond (off.slt 128#64)
 (cond (off.srem 4#64 == 0#64)
 (some (AV.tup [(AV.int (IntKind.i64) (1#64)), (AV.int (IntKind.i64) (off.sdiv 4#64))]))
 (cond (off == 4096#64)
 (some (AV.tup [(AV.int (IntKind.i64) (2#64)), (AV.int (IntKind.i64) (0#64))]))
 (cond (off == 8192#64)
 (some (AV.tup [(AV.int (IntKind.i64) (3#64)), (AV.int (IntKind.i64) (0#64))]))
 (cond (off == 2097152#64)
 (some (AV.tup [(AV.int (IntKind.i64) (4#64)), (AV.int (IntKind.i64) (0#64))]))
 (cond (off == 2097156#64)
 (some (AV.tup [(AV.int (IntKind.i64) (5#64)), (AV.int (IntKind.i64) (0#64))]))
 (cond (off == 8320#64)
 (some (AV.tup [(AV.int (IntKind.i64) (3#64)), (AV.int (IntKind.i64) (1#64))]))
 (cond (off == 2101248#64)
 (some (AV.tup [(AV.int (IntKind.i64) (4#64)), (AV.int (IntKind.i64) (1#64))]))
 (cond (off == 2101252#64)
 (some (AV.tup [(AV.int (IntKind.i64) (5#64)), (AV.int (IntKind.i64) (1#64))]))
 (some (AV.tup [(AV.int (IntKind.i64) (0#64)), (AV.int (IntKind.i64) (0#64))]))))))))))
 (cond (off == 4096#64)
 (some (AV.tup [(AV.int (IntKind.i64) (2#64)), (AV.int (IntKind.i64) (0#64))]))
 (cond (off == 8192#64)
 (some (AV.tup [(AV.int (IntKind.i64) (3#64)), (AV.int (IntKind.i64) (0#64))]))
 (cond (off == 2097152#64)
 (some (AV.tup [(AV.int (IntKind.i64) (4#64)), (AV.int (IntKind.i64) (0#64))]))
 (cond (off == 2097156#64)
 (some (AV.tup [(AV.int (IntKind.i64) (5#64)), (AV.int (IntKind.i64) (0#64))]))
 (cond (off == 8320#64)
 (some (AV.tup [(AV.int (IntKind.i64) (3#64)), (AV.int (IntKind.i64) (1#64))]))
 (cond (off == 2101248#64)
 (some (AV.tup [(AV.int (IntKind.i64) (4#64)), (AV.int (IntKind.i64) (1#64))]))
 (cond (off == 2101252#64)
 (some (AV.tup [(AV.int (IntKind.i64) (5#64)), (AV.int (IntKind.i64) (1#64))]))
 (some (AV.tup [(AV.int (IntKind.i64) (0#64)), (AV.int (IntKind.i64) (0#64))])))))))))))) by kernel_rfl).trans (by
    delta v_plic_which
    refine (mer _ (fun (p : BitVec 64 × BitVec 64) => .tup [.int .i64 (p.1), .int .i64 (p.2)]) ?_ (mer _ (fun (p : BitVec 64 × BitVec 64) => .tup [.int .i64 (p.1), .int .i64 (p.2)]) ?_ (mer _ (fun (p : BitVec 64 × BitVec 64) => .tup [.int .i64 (p.1), .int .i64 (p.2)]) (mer _ (fun (p : BitVec 64 × BitVec 64) => .tup [.int .i64 (p.1), .int .i64 (p.2)]) ?_ (mer _ (fun (p : BitVec 64 × BitVec 64) => .tup [.int .i64 (p.1), .int .i64 (p.2)]) ?_ (mer _ (fun (p : BitVec 64 × BitVec 64) => .tup [.int .i64 (p.1), .int .i64 (p.2)]) ?_ (mer _ (fun (p : BitVec 64 × BitVec 64) => .tup [.int .i64 (p.1), .int .i64 (p.2)]) ?_ (mer _ (fun (p : BitVec 64 × BitVec 64) => .tup [.int .i64 (p.1), .int .i64 (p.2)]) ?_ (mer _ (fun (p : BitVec 64 × BitVec 64) => .tup [.int .i64 (p.1), .int .i64 (p.2)]) ?_ (mer _ (fun (p : BitVec 64 × BitVec 64) => .tup [.int .i64 (p.1), .int .i64 (p.2)]) ?_ (mer _ (fun (p : BitVec 64 × BitVec 64) => .tup [.int .i64 (p.1), .int .i64 (p.2)]) ?_ ?_)))))))) (mer _ (fun (p : BitVec 64 × BitVec 64) => .tup [.int .i64 (p.1), .int .i64 (p.2)]) ?_ (mer _ (fun (p : BitVec 64 × BitVec 64) => .tup [.int .i64 (p.1), .int .i64 (p.2)]) ?_ (mer _ (fun (p : BitVec 64 × BitVec 64) => .tup [.int .i64 (p.1), .int .i64 (p.2)]) ?_ (mer _ (fun (p : BitVec 64 × BitVec 64) => .tup [.int .i64 (p.1), .int .i64 (p.2)]) ?_ (mer _ (fun (p : BitVec 64 × BitVec 64) => .tup [.int .i64 (p.1), .int .i64 (p.2)]) ?_ (mer _ (fun (p : BitVec 64 × BitVec 64) => .tup [.int .i64 (p.1), .int .i64 (p.2)]) ?_ (mer _ (fun (p : BitVec 64 × BitVec 64) => .tup [.int .i64 (p.1), .int .i64 (p.2)]) ?_ ?_))))))))))
    all_goals first | with_reducible rfl | rfl)
noncomputable def C_23 : Oracle := pureE 23 (pure2 dI64 dI64 (fun off size => (fun (p : BitVec 64 × BitVec 64) => .tup [.int .i64 (p.1), .int .i64 (p.2)]) (v_plic_which off size))) (C_9)
theorem C_23_snd : Snd Try.prog C_23 := pureE_snd (pure2_ok (F := F23) (C_9_snd) Try.func23 (by kernel_rfl) run_23 (fun _ _ => rfl)) (C_9_snd)

/- sync/atomic.AndUint32 -/
noncomputable def C_35 : Oracle := atUpdE 35 opAnd (C_23)
theorem C_35_snd : Snd Try.prog C_35 := atUpdE_snd (o := Op.intBits .and) Try.func35 (by kernel_rfl) (by kernel_rfl) (by kernel_rfl) (by kernel_rfl) opAnd_ok (C_23_snd)

/- (*sync/atomic.Uint32).And -/
def F27 : Cfg := { F := 400, roots := [0, 1, 2], fl := ⟨false, false⟩ }
noncomputable def C_27 : Oracle := inlS Try.prog 27 Try.f27 F27 C_35 (C_35)
theorem C_27_snd : Snd Try.prog C_27 := inlS_snd Try.func27 (by kernel_rfl) C_35_snd C_35_snd

/- (*ravelin/plic.Plic).Store -/
def F15 : Cfg := { F := 400, roots := [0, 1, 2, 3, 4, 5, 6, 7], fl := ⟨false, false⟩ }
noncomputable def C_15 : Oracle := inlS Try.prog 15 Try.f15 F15 C_27 (C_27)
theorem C_15_snd : Snd Try.prog C_15 := inlS_snd Try.func15 (by kernel_rfl) C_27_snd C_27_snd

/- sync/atomic.StoreUint32 -/
noncomputable def C_31 : Oracle := atStoreE 31 (C_15)
theorem C_31_snd : Snd Try.prog C_31 := atStoreE_snd Try.func31 (by kernel_rfl) (by kernel_rfl) (by kernel_rfl) (by kernel_rfl) (C_15_snd)

/- (*sync/atomic.Uint32).Store -/
def F21 : Cfg := { F := 400, roots := [0, 1], fl := ⟨false, false⟩ }
noncomputable def C_21 : Oracle := inlS Try.prog 21 Try.f21 F21 C_31 (C_31)
theorem C_21_snd : Snd Try.prog C_21 := inlS_snd Try.func21 (by kernel_rfl) C_31_snd C_31_snd

/- sync/atomic.LoadUint32 -/
noncomputable def C_32 : Oracle := atLoadE 32 (C_21)
theorem C_32_snd : Snd Try.prog C_32 := atLoadE_snd Try.func32 (by kernel_rfl) (by kernel_rfl) (by kernel_rfl) (by kernel_rfl) (C_21_snd)

/- (*sync/atomic.Uint32).Load -/
def F22 : Cfg := { F := 400, roots := [0, 1], fl := ⟨false, false⟩ }
noncomputable def C_22 : Oracle := quiS Try.prog 22 Try.f22 F22 C_32 (C_32)
theorem C_22_snd : Snd Try.prog C_22 := quiS_snd Try.func22 (by kernel_rfl) C_32_snd C_32_snd

/- (*ravelin/plic.Plic).Lines -/
def F11 : Cfg := { F := 400, roots := [0, 1], fl := ⟨false, false⟩ }
noncomputable def C_11 : Oracle := inlS Try.prog 11 Try.f11 F11 C_22 (C_22)
theorem C_11_snd : Snd Try.prog C_11 := inlS_snd Try.func11 (by kernel_rfl) C_22_snd C_22_snd

/- a loop of (*ravelin/plic.Plic).best -/
noncomputable def FL_30_bt : Cfg := { F := 400, roots := [0, 1, 2, 7, 8], fl := ⟨false, false⟩, laws := [] }
noncomputable def LC_30_bt : Code := loopIn 0 Try.f30
theorem nx_30_bt_a : ∀ (rw : Bool) (pr : List (List AV)) (pe : BitVec 32) (se : BitVec 32) (en : List (List AV)) (th : List (List AV)) (of : BitVec 32) (ab : BitVec 32) (be : BitVec 32) (s : BitVec 32), codeA Try.prog (C_11) (drawA Try.prog FL_30_bt.fl Try.f30.ntmps (C_11)) FL_30_bt Try.f30.ntmps LC_30_bt (tmOf [0, 1, 2, 7, 8] (btT (.a rw pr pe se en th of ab be s))) (btH (.a rw pr pe se en th of ab be s)) (btN (.a rw pr pe se en th of ab be s)) (roundK 1 [0, 1, 2, 7, 8] [0, 1, 2, 7, 8] [7] btDec btDecE) = btStep (.a rw pr pe se en th of ab be s) := fun _ _ _ _ _ _ _ _ _ _ => by kernel_rfl
noncomputable def LL_30_bt : LL Try.prog (C_11) Try.f30.ntmps (drawA Try.prog FL_30_bt.fl Try.f30.ntmps (C_11)) FL_30_bt LC_30_bt BtS BtE :=
  { N0 := 1, rts := [0, 1, 2, 7, 8], kT := [0, 1, 2, 7, 8], vT := btT, hT := btH, nT := btN, dec := btDec, dec_ok := btDec_ok, kE := [7], oE := btO, vE := btV, hE := btG, nE := btM, decE := btDecE, decE_ok := btDecE_ok, step := btStep,
    hstep := fun x => match x with
      | .a rw pr pe se en th of ab be s => nx_30_bt_a rw pr pe se en th of ab be s
  }
theorem hs_30_bt : HSnd Try.prog Try.f30.ntmps (.block 0 (.loop LC_30_bt)) (llH 1 [0, 1, 2, 7, 8] btDec 0 btCps) :=
  LL.handler_snd LL_30_bt (C_11_snd) (drawA_sound (C_11_snd)) (laws_nil) 0 (cps := btCps) btCps_ok

/- (*ravelin/plic.Plic).best -/
noncomputable def F30 : Cfg := { F := 400, roots := [0, 1, 2, 3, 4, 5, 6, 7, 8], fl := ⟨false, false⟩, laws := [(0, llH 1 [0, 1, 2, 7, 8] btDec 0 btCps)] }
theorem fok_30 : FOK Try.prog Try.f30 F30 := fok_of (laws_cons (subs_one (b := .block 0 (.loop LC_30_bt)) (by kernel_rfl) hs_30_bt) (laws_nil))
noncomputable def C_30 : Oracle := quiS Try.prog 30 Try.f30 F30 C_11 (C_11)
theorem C_30_snd : Snd Try.prog C_30 := quiS_snd Try.func30 (by kernel_rfl) C_11_snd C_11_snd (hF := fok_30)

/- sync/atomic.OrUint32 -/
noncomputable def C_36 : Oracle := atUpdE 36 opOr (C_30)
theorem C_36_snd : Snd Try.prog C_36 := atUpdE_snd (o := Op.intBits .or) Try.func36 (by kernel_rfl) (by kernel_rfl) (by kernel_rfl) (by kernel_rfl) opOr_ok (C_30_snd)

/- (*sync/atomic.Uint32).Or -/
def F33 : Cfg := { F := 400, roots := [0, 1, 2], fl := ⟨false, false⟩ }
noncomputable def C_33 : Oracle := inlS Try.prog 33 Try.f33 F33 C_36 (C_36)
theorem C_33_snd : Snd Try.prog C_33 := inlS_snd Try.func33 (by kernel_rfl) C_36_snd C_36_snd

/- (*ravelin/plic.Plic).claim -/
def F24 : Cfg := { F := 400, roots := [0, 1, 2, 3], fl := ⟨false, false⟩ }
noncomputable def C_24 : Oracle := inlS Try.prog 24 Try.f24 F24 C_33 (C_33)
theorem C_24_snd : Snd Try.prog C_24 := inlS_snd Try.func24 (by kernel_rfl) C_33_snd C_33_snd

/- (*ravelin/plic.Plic).Load -/
def F13 : Cfg := { F := 400, roots := [0, 1, 2, 3, 4, 5, 6, 7], fl := ⟨false, false⟩ }
noncomputable def C_13 : Oracle := inlS Try.prog 13 Try.f13 F13 C_24 (C_24)
theorem C_13_snd : Snd Try.prog C_13 := inlS_snd Try.func13 (by kernel_rfl) C_24_snd C_24_snd

/- ravelin/ravelinlaw12.of -/
def F20 : Cfg := { F := 400, roots := [0, 1, 2, 3, 4], fl := ⟨false, false⟩ }
noncomputable def C_20 : Oracle := inlS Try.prog 20 Try.f20 F20 C_13 (C_13)
theorem C_20_snd : Snd Try.prog C_20 := inlS_snd Try.func20 (by kernel_rfl) C_13_snd C_13_snd

/- (*ravelin/plic.Plic).Pending -/
def F17 : Cfg := { F := 400, roots := [0, 1, 2], fl := ⟨false, false⟩ }
noncomputable def C_17 : Oracle := quiS Try.prog 17 Try.f17 F17 C_20 (C_20)
theorem C_17_snd : Snd Try.prog C_17 := quiS_snd Try.func17 (by kernel_rfl) C_20_snd C_20_snd

/- ravelin/ravelinlaw12.works -/
def F8 : Cfg := { F := 400, roots := [0, 1, 2, 3, 4], fl := ⟨true, false⟩ }
theorem run_8 : pureRun Try.prog C_17 F8 Try.f8 [] = some (.bool v_l12_works) := (show pureRun Try.prog C_17 F8 Try.f8 [] = (some (AV.bool (true))) by kernel_rfl).trans (rfl)
noncomputable def C_8 : Oracle := pureE 8 (pure0  (.bool v_l12_works)) (C_17)
theorem C_8_snd : Snd Try.prog C_8 := pureE_snd (pure0_ok (F := F8) (C_17_snd) Try.func8 (by kernel_rfl) run_8 rfl) (C_17_snd)

/- a loop of ravelin/ravelinlaw12.done -/
noncomputable def FL_19_dn : Cfg := { F := 400, roots := [0, 3, 4], fl := ⟨false, false⟩, laws := [] }
noncomputable def LC_19_dn : Code := loopIn 0 Try.f19
theorem nx_19_dn_a : ∀ (n : Nat) (m : Nat) (d : List (List AV)) (pr : List (List AV)) (pe : BitVec 32) (se : BitVec 32) (en : List (List AV)) (th : List (List AV)) (i : BitVec 64), codeA Try.prog (C_8) (drawA Try.prog FL_19_dn.fl Try.f19.ntmps (C_8)) FL_19_dn Try.f19.ntmps LC_19_dn (tmOf [0, 3, 4] (dnT (.a n m d pr pe se en th i))) (dnH (.a n m d pr pe se en th i)) (dnN (.a n m d pr pe se en th i)) (roundK 2 [0, 3, 4] [0, 3, 4] [3] dnDec dnDecE) = dnStep (.a n m d pr pe se en th i) := fun _ _ _ _ _ _ _ _ _ => by kernel_rfl
noncomputable def LL_19_dn : LL Try.prog (C_8) Try.f19.ntmps (drawA Try.prog FL_19_dn.fl Try.f19.ntmps (C_8)) FL_19_dn LC_19_dn DnS DnE :=
  { N0 := 2, rts := [0, 3, 4], kT := [0, 3, 4], vT := dnT, hT := dnH, nT := dnN, dec := dnDec, dec_ok := dnDec_ok, kE := [3], oE := dnO, vE := dnV, hE := dnG, nE := dnM, decE := dnDecE, decE_ok := dnDecE_ok, step := dnStep,
    hstep := fun x => match x with
      | .a n m d pr pe se en th i => nx_19_dn_a n m d pr pe se en th i
  }
theorem hs_19_dn : HSnd Try.prog Try.f19.ntmps (.block 0 (.loop LC_19_dn)) (orH 2 (llH 2 [0, 3, 4] dnDec 0 dnCps) (selfH Try.prog (C_8) (drawA Try.prog FL_19_dn.fl Try.f19.ntmps (C_8)) FL_19_dn Try.f19.ntmps (.block 0 (.loop LC_19_dn)))) :=
  orH_snd (LL.handler_snd LL_19_dn (C_8_snd) (drawA_sound (C_8_snd)) (laws_nil) 0 (cps := dnCps) dnCps_ok) (selfH_snd (C_8_snd) (drawA_sound (C_8_snd)) (laws_nil))

/- ravelin/ravelinlaw12.done -/
noncomputable def F19 : Cfg := { F := 400, roots := [0, 1, 2, 3, 4], fl := ⟨false, false⟩, laws := [(0, orH 2 (llH 2 [0, 3, 4] dnDec 0 dnCps) (selfH Try.prog (C_8) (drawA Try.prog FL_19_dn.fl Try.f19.ntmps (C_8)) FL_19_dn Try.f19.ntmps (.block 0 (.loop LC_19_dn))))] }
theorem fok_19 : FOK Try.prog Try.f19 F19 := fok_of (laws_cons (subs_one (b := .block 0 (.loop LC_19_dn)) (by kernel_rfl) hs_19_dn) (laws_nil))
noncomputable def C_19 : Oracle := inlS Try.prog 19 Try.f19 F19 C_8 (C_8)
theorem C_19_snd : Snd Try.prog C_19 := inlS_snd Try.func19 (by kernel_rfl) C_8_snd C_8_snd (hF := fok_19)

/- a loop of ravelin/ravelinlaw12.PlicClaims -/
noncomputable def FL_4_cl : Cfg := { F := 400, roots := [5, 6, 7, 8, 9, 10, 11, 12], fl := ⟨false, false⟩, laws := [] }
noncomputable def LC_4_cl : Code := loopIn 0 Try.f4
theorem nx_4_cl_a : ∀ (pr : List (List AV)) (pe : BitVec 32) (se : BitVec 32) (en : List (List AV)) (th : List (List AV)) (ctx : BitVec 64) (bits : BitVec 64) (may : BitVec 64) (lim : BitVec 64) (be : BitVec 64) (mo : BitVec 64) (s : BitVec 64), codeA Try.prog (C_19) (drawA Try.prog FL_4_cl.fl Try.f4.ntmps (C_19)) FL_4_cl Try.f4.ntmps LC_4_cl (tmOf [5, 6, 7, 8, 9, 10, 11, 12] (clT (.a pr pe se en th ctx bits may lim be mo s))) (clH (.a pr pe se en th ctx bits may lim be mo s)) (clN (.a pr pe se en th ctx bits may lim be mo s)) (roundK 3 [5, 6, 7, 8, 9, 10, 11, 12] [5, 6, 7, 8, 9, 10, 11, 12] [5, 6, 7, 9, 10, 11] clDec clDecE) = clStep (.a pr pe se en th ctx bits may lim be mo s) := fun _ _ _ _ _ _ _ _ _ _ _ _ => by kernel_rfl
noncomputable def LL_4_cl : LL Try.prog (C_19) Try.f4.ntmps (drawA Try.prog FL_4_cl.fl Try.f4.ntmps (C_19)) FL_4_cl LC_4_cl ClS ClE :=
  { N0 := 3, rts := [5, 6, 7, 8, 9, 10, 11, 12], kT := [5, 6, 7, 8, 9, 10, 11, 12], vT := clT, hT := clH, nT := clN, dec := clDec, dec_ok := clDec_ok, kE := [5, 6, 7, 9, 10, 11], oE := clO, vE := clV, hE := clG, nE := clM, decE := clDecE, decE_ok := clDecE_ok, step := clStep,
    hstep := fun x => match x with
      | .a pr pe se en th ctx bits may lim be mo s => nx_4_cl_a pr pe se en th ctx bits may lim be mo s
  }
theorem hs_4_cl : HSnd Try.prog Try.f4.ntmps (.block 0 (.loop LC_4_cl)) (llH 3 [5, 6, 7, 8, 9, 10, 11, 12] clDec 0 clCps) :=
  LL.handler_snd LL_4_cl (C_19_snd) (drawA_sound (C_19_snd)) (laws_nil) 0 (cps := clCps) clCps_ok

/- ravelin/ravelinlaw12.PlicClaims -/
noncomputable def F4 : Cfg := { F := 400, roots := [0, 1, 2, 3, 4, 5, 6, 7, 8, 9, 10, 11, 12, 13, 14, 15, 16], fl := ⟨false, false⟩, laws := [(0, llH 3 [5, 6, 7, 8, 9, 10, 11, 12] clDec 0 clCps)] }
theorem run_4_r : ∀ (n : Nat) (d : List (List AV)) (second : Bool), runS Try.prog (C_19) F4 Try.f4 [.slice ⟨0, 0, 0, 5, 0⟩ 5 n, .bool second] [(0, ⟨false, [.arr [.int .i64, .int .i64, .int .i64, .int .u64, .int .u32] n d]⟩)] 2 = t_PlicClaims_r n d second := fun _ _ _ => by kernel_rfl
theorem run_4_n : ∀ (second : Bool), runS Try.prog (C_19) F4 Try.f4 [.nilslice, .bool second] [] 2 = t_PlicClaims_n second := fun _ => by kernel_rfl
theorem snd_4 : Snd Try.prog (C_19) := C_19_snd
theorem fok_4 : FOK Try.prog Try.f4 F4 := fok_of (laws_cons (subs_one (b := .block 0 (.loop LC_4_cl)) (by kernel_rfl) hs_4_cl) (laws_nil))

end Go.Proofs.Ytaieimjeffedhaa

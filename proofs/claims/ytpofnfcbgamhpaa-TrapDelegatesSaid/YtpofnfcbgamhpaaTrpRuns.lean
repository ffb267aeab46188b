import Derived.Test.YtpofnfcbgamhpaaSxW
import Derived.Test.YtpofnfcbgamhpaaSxY
import Derived.Test.YtpofnfcbgamhpaaSxLen2
import Derived.Test.YtpofnfcbgamhpaaSxAE
import Derived.Test.YtpofnfcbgamhpaaPlHart
import Derived.Test.YtpofnfcbgamhpaaVa03
import Derived.Test.YtpofnfcbgamhpaaVa05
import Derived.Test.YtpofnfcbgamhpaaVa19
import Derived.Test.YtpofnfcbgamhpaaPlTrap0
import Derived.Test.YtpofnfcbgamhpaaVa19b
import Derived.KernelRfl
import Derived.Test.YtpofnfcbgamhpaaProg
set_option linter.unusedSimpArgs false
set_option linter.unusedVariables false
set_option linter.unnecessarySimpa false
/- What the functions of the seat answer. -/
namespace Go.Proofs.Ytpofnfcbgamhpaa
open Go Go.Sx Go.Proofs
set_option maxRecDepth 100000
set_option maxHeartbeats 4000000

/- ravelin/ravelinkit.Pick -/
def F10 : Cfg := { F := 400, roots := [0, 1, 2], fl := ⟨true, false⟩ }
theorem run_10 : ∀ (k : BitVec 64) (n : BitVec 64), pureRun Try.prog nothing F10 Try.f10 [.int .i64 k, .int .i64 n] = some (.int .i64 (v_kit_Pick k n)) := fun k n =>
 (show pureRun Try.prog nothing F10 Try.f10 [.int .i64 k, .int .i64 n] = t_kit_Pick k n by kernel_rfl).trans (t_kit_Pick_eq k n)
noncomputable def C_10 : Oracle := pureE 10 (pure2 dI64 dI64 (fun k n => .int .i64 (v_kit_Pick k n))) (nothing)
theorem C_10_snd : Snd Try.prog C_10 := pureE_snd (pure2_ok (F := F10) (nothing_snd) Try.func10 (by kernel_rfl) run_10 (fun _ _ => rfl)) (nothing_snd)

/- ravelin/ravelinlaw03.May -/
def F36 : Cfg := { F := 400, roots := [0, 1], fl := ⟨true, false⟩ }
theorem run_36 : ∀ (c : Cp), pureRun Try.prog C_10 F36 Try.f36 [c.av] = some ((v_l03_May c).av) := fun c =>
 (show pureRun Try.prog C_10 F36 Try.f36 [c.av] = (cond (!c.big)
 (some (AV.agg [(AV.bool (c.tag)), (AV.int (IntKind.i64) (c.per)), (AV.int (IntKind.i64) (c.ty)), (AV.int (IntKind.i64) (c.mo)), (AV.int (IntKind.i64) (0#64)), (AV.int (IntKind.i64) (v_kit_Pick c.b 16384#64)), (AV.int (IntKind.i64) (v_kit_Pick c.t 4096#64)), (AV.bool (c.big)), (AV.int (IntKind.u64) (c.ad))]))
 (some (AV.agg [(AV.bool (c.tag)), (AV.int (IntKind.i64) (c.per)), (AV.int (IntKind.i64) (c.ty)), (AV.int (IntKind.i64) (c.mo)), (AV.int (IntKind.i64) (v_kit_Pick c.e 53#64)), (AV.int (IntKind.i64) (v_kit_Pick c.b 16384#64)), (AV.int (IntKind.i64) (v_kit_Pick c.t 4096#64)), (AV.bool (c.big)), (AV.int (IntKind.u64) (c.ad))]))) by kernel_rfl).trans (by
    delta v_l03_May
    refine (mer _ (Cp.av) ?_ ?_)
    all_goals (try delta Cp.av)
    all_goals (try delta Rg.av)
    all_goals (try delta W2.av)
    all_goals (try delta Tr.av)
    all_goals (try delta Qu.av)
    all_goals first | with_reducible rfl | rfl)
noncomputable def C_36 : Oracle := pureE 36 (pure1 dCp (fun c => (v_l03_May c).av)) (C_10)
theorem C_36_snd : Snd Try.prog C_36 := pureE_snd (pure1_ok (F := F36) (C_10_snd) Try.func36 (by kernel_rfl) run_36 (fun _ => rfl)) (C_10_snd)

/- ravelin/ravelinlaw05.Right -/
def F20 : Cfg := { F := 400, roots := [0, 1], fl := ⟨true, false⟩ }
theorem run_20 : ∀ (c : Cp), pureRun Try.prog C_36 F20 Try.f20 [c.av] = some ((v_l05_Right c).av) := fun c =>
 (show pureRun Try.prog C_36 F20 Try.f20 [c.av] = (cond ((v_l03_May c).big)
 (some (AV.agg [(AV.bool ((v_l03_May c).tag)), (AV.int (IntKind.i64) (v_kit_Pick (v_l03_May c).per 65536#64)), (AV.int (IntKind.i64) (v_kit_Pick (v_l03_May c).ty 262144#64)), (AV.int (IntKind.i64) (v_kit_Pick (v_l03_May c).mo 2#64)), (AV.int (IntKind.i64) ((v_l03_May c).e)), (AV.int (IntKind.i64) ((v_l03_May c).b &&& 18446744073709551608#64)), (AV.int (IntKind.i64) ((v_l03_May c).t &&& 18446744073709551608#64)), (AV.bool ((v_l03_May c).big)), (AV.int (IntKind.u64) ((v_l03_May c).ad))]))
 (some (AV.agg [(AV.bool ((v_l03_May c).tag)), (AV.int (IntKind.i64) (v_kit_Pick (v_l03_May c).per 65536#64)), (AV.int (IntKind.i64) (v_kit_Pick (v_l03_May c).ty 262144#64)), (AV.int (IntKind.i64) (v_kit_Pick (v_l03_May c).mo 2#64)), (AV.int (IntKind.i64) ((v_l03_May c).e)), (AV.int (IntKind.i64) ((v_l03_May c).b)), (AV.int (IntKind.i64) ((v_l03_May c).t)), (AV.bool ((v_l03_May c).big)), (AV.int (IntKind.u64) ((v_l03_May c).ad))]))) by kernel_rfl).trans (by
    delta v_l05_Right
    refine (mer _ (Cp.av) ?_ ?_)
    all_goals (try delta Cp.av)
    all_goals (try delta Rg.av)
    all_goals (try delta W2.av)
    all_goals (try delta Tr.av)
    all_goals (try delta Qu.av)
    all_goals first | with_reducible rfl | rfl)
noncomputable def C_20 : Oracle := pureE 20 (pure1 dCp (fun c => (v_l05_Right c).av)) (C_36)
theorem C_20_snd : Snd Try.prog C_20 := pureE_snd (pure1_ok (F := F20) (C_36_snd) Try.func20 (by kernel_rfl) run_20 (fun _ => rfl)) (C_36_snd)

/- ravelin/ravelinref04.Number -/
def F21 : Cfg := { F := 400, roots := [0, 1], fl := ⟨true, false⟩ }
theorem run_21 : ∀ (n : BitVec 64), pureRun Try.prog C_20 F21 Try.f21 [.int .u64 n] = some ((v_r04_Number n).av) := fun n =>
 (show pureRun Try.prog C_20 F21 Try.f21 [.int .u64 n] = (some (AV.agg [(AV.bool (false)), (AV.int (IntKind.i64) (0#64)), (AV.int (IntKind.i64) (262143#64)), (AV.int (IntKind.i64) (0#64)), (AV.int (IntKind.i64) (52#64)), (AV.int (IntKind.i64) (0#64)), (AV.int (IntKind.i64) (0#64)), (AV.bool (true)), (AV.int (IntKind.u64) (n))])) by kernel_rfl).trans (rfl)
noncomputable def C_21 : Oracle := pureE 21 (pure1 dU64 (fun n => (v_r04_Number n).av)) (C_20)
theorem C_21_snd : Snd Try.prog C_21 := pureE_snd (pure1_ok (F := F21) (C_20_snd) Try.func21 (by kernel_rfl) run_21 (fun _ => rfl)) (C_20_snd)

/- ravelin/ravelinlaw19.Right -/
def F9 : Cfg := { F := 400, roots := [0, 1, 2], fl := ⟨false, false⟩ }
noncomputable def C_9 : Oracle := pureE 9 (pure1 dHt (fun h => (v_l19_Right h).av)) (C_21)
theorem run_9 (h : Ht) : pureRun Try.prog C_21 F9 Try.f9 [h.av] = some (v_l19_Right h).av :=
 (show pureRun Try.prog C_21 F9 Try.f9 [h.av] = (cond (!h.e 0 == 0#64)
 (cond (!h.e 0 == 1#64)
 (cond (h.e 1 >>> 11 % 4#64 == 2#64) (some (rwHt h 3#64 (h.e 1 &&& 18446744073709545471#64)).av) (some (rwHt h 3#64 (h.e 1)).av))
 (cond (h.e 1 >>> 11 % 4#64 == 2#64) (some (rwHt h (h.e 0) (h.e 1 &&& 18446744073709545471#64)).av) (some (rwHt h (h.e 0) (h.e 1)).av)))
 (cond (h.e 1 >>> 11 % 4#64 == 2#64) (some (rwHt h (h.e 0) (h.e 1 &&& 18446744073709545471#64)).av) (some (rwHt h (h.e 0) (h.e 1)).av))) by kernel_rfl).trans (rightHt_eq h)
theorem C_9_snd : Snd Try.prog C_9 := pureE_snd (pure1_ok (F := F9) (C_21_snd) Try.func9 (by kernel_rfl) run_9 (fun h => (v_l19_Right h).names)) (C_21_snd)

/- ravelin/trap.machine -/
def F22 : Cfg := { F := 400, roots := [0, 1], fl := ⟨true, false⟩ }
noncomputable def C_22 : Oracle := inlE Try.prog 22 Try.f22 F22 C_9 (C_9)
theorem C_22_snd : Snd Try.prog C_22 := inlE_snd Try.func22 (by kernel_rfl) C_9_snd C_9_snd

/- ravelin/trap.super -/
def F23 : Cfg := { F := 400, roots := [0, 1], fl := ⟨true, false⟩ }
noncomputable def C_23 : Oracle := inlE Try.prog 23 Try.f23 F23 C_22 (C_22)
theorem C_23_snd : Snd Try.prog C_23 := inlE_snd Try.func23 (by kernel_rfl) C_22_snd C_22_snd

/- ravelin/trap.lay -/
def F24 : Cfg := { F := 400, roots := [0, 1, 2, 3, 4, 5], fl := ⟨true, false⟩ }
theorem run_24 : ∀ (v : BitVec 64) (xat : BitVec 64) (width : BitVec 64) (bits : BitVec 64), pureRun Try.prog C_23 F24 Try.f24 [.int .u64 v, .int .u64 xat, .int .u64 width, .int .u64 bits] = some (.int .u64 (v_trap_lay v xat width bits)) := fun v xat width bits =>
 (show pureRun Try.prog C_23 F24 Try.f24 [.int .u64 v, .int .u64 xat, .int .u64 width, .int .u64 bits] = (some (AV.int (IntKind.u64) (v &&& ~~~((1#64 <<< min width.toNat 64 - 1#64) <<< min xat.toNat 64) ||| (bits &&& 1#64 <<< min width.toNat 64 - 1#64) <<< min xat.toNat 64))) by kernel_rfl).trans (rfl)
noncomputable def C_24 : Oracle := pureE 24 (pure4 dU64 dU64 dU64 dU64 (fun v xat width bits => .int .u64 (v_trap_lay v xat width bits))) (C_23)
theorem C_24_snd : Snd Try.prog C_24 := pureE_snd (pure4_ok (F := F24) (C_23_snd) Try.func24 (by kernel_rfl) run_24 (fun _ _ _ _ => rfl)) (C_23_snd)

/- ravelin/capops.Sealed -/
def F37 : Cfg := { F := 400, roots := [0, 1], fl := ⟨true, false⟩ }
theorem run_37 : ∀ (c : Cp), pureRun Try.prog C_24 F37 Try.f37 [c.av] = some (.bool (v_capops_Sealed c)) := fun c =>
 (show pureRun Try.prog C_24 F37 Try.f37 [c.av] = (some (AV.bool (!c.ty == 262143#64))) by kernel_rfl).trans (rfl)
noncomputable def C_37 : Oracle := pureE 37 (pure1 dCp (fun c => .bool (v_capops_Sealed c))) (C_24)
theorem C_37_snd : Snd Try.prog C_37 := pureE_snd (pure1_ok (F := F37) (C_24_snd) Try.func37 (by kernel_rfl) run_37 (fun _ => rfl)) (C_24_snd)

/- ravelin/bounds.truth -/
def F40 : Cfg := { F := 400, roots := [0, 1], fl := ⟨true, false⟩ }
theorem run_40 : ∀ (xis : Bool), pureRun Try.prog C_37 F40 Try.f40 [.bool xis] = some (.int .i64 (v_bounds_truth xis)) := fun xis =>
 (show pureRun Try.prog C_37 F40 Try.f40 [.bool xis] = (cond (xis)
 (some (AV.int (IntKind.i64) (1#64)))
 (some (AV.int (IntKind.i64) (0#64)))) by kernel_rfl).trans (by
    delta v_bounds_truth
    refine (mer _ (fun p => .int .i64 p) ?_ ?_)
    all_goals first | with_reducible rfl | rfl)
noncomputable def C_40 : Oracle := pureE 40 (pure1 dBool (fun xis => .int .i64 (v_bounds_truth xis))) (C_37)
theorem C_40_snd : Snd Try.prog C_40 := pureE_snd (pure1_ok (F := F40) (C_37_snd) Try.func40 (by kernel_rfl) run_40 (fun _ => rfl)) (C_37_snd)

/- ravelin/bounds.signed -/
def F42 : Cfg := { F := 400, roots := [0, 1], fl := ⟨true, false⟩ }
theorem run_42 : ∀ (v : BitVec 64), pureRun Try.prog C_40 F42 Try.f42 [.int .i64 v] = some ((v_bounds_signed v).av) := fun v =>
 (show pureRun Try.prog C_40 F42 Try.f42 [.int .i64 v] = (some (AV.agg [(AV.int (IntKind.u64) (BitVec.signExtend 64 v >>> 63)), (AV.int (IntKind.u64) (BitVec.signExtend 64 v))])) by kernel_rfl).trans (rfl)
noncomputable def C_42 : Oracle := pureE 42 (pure1 dI64 (fun v => (v_bounds_signed v).av)) (C_40)
theorem C_42_snd : Snd Try.prog C_42 := pureE_snd (pure1_ok (F := F42) (C_40_snd) Try.func42 (by kernel_rfl) run_42 (fun _ => rfl)) (C_40_snd)

/- (ravelin/bounds.number).up -/
def F43 : Cfg := { F := 400, roots := [0, 1, 2], fl := ⟨true, false⟩ }
theorem run_43 : ∀ (a : W2) (n : BitVec 64), pureRun Try.prog C_42 F43 Try.f43 [a.av, .int .i64 n] = cond (g_bounds_number_up a n) (some ((v_bounds_number_up a n).av)) none := fun a n =>
 (show pureRun Try.prog C_42 F43 Try.f43 [a.av, .int .i64 n] = (cond (n == 0#64)
 (some (AV.agg [(AV.int (IntKind.u64) (a.hi)), (AV.int (IntKind.u64) (a.lo))]))
 (cond ((65#64).sle n)
 (some (AV.agg [(AV.int (IntKind.u64) (0#64)), (AV.int (IntKind.u64) (0#64))]))
 (cond (n == 64#64)
 (some (AV.agg [(AV.int (IntKind.u64) (a.lo &&& 1#64)), (AV.int (IntKind.u64) (0#64))]))
 (cond (nonneg IntKind.i64 (64#64 - n))
 (cond (nonneg IntKind.i64 n)
 (some (AV.agg [(AV.int (IntKind.u64) (a.lo >>> min (64#64 - n).toNat 64 &&& 1#64)), (AV.int (IntKind.u64) (a.lo <<< min n.toNat 64))]))
     none)
    none)))) by kernel_rfl).trans ((merG _ (W2.av) rfl (merG _ (W2.av) rfl (merG _ (W2.av) rfl (merR _ (W2.av) (merR _ (W2.av) rfl))))))
noncomputable def C_43 : Oracle := pureGE 43 (pure2 dW2 dI64 (fun a n => .tup [.bool (g_bounds_number_up a n), (v_bounds_number_up a n).av])) (C_42)
theorem C_43_snd : Snd Try.prog C_43 := pureGE_snd (pure2_gok (F := F43) (C_42_snd) Try.func43 (by kernel_rfl) run_43 (fun _ _ => rfl)) (C_42_snd)
noncomputable def C_48 : Oracle := pureE 48 add64S (C_43)
theorem C_48_snd : Snd Try.prog C_48 := pureE_snd (add64_ok Try.func48 (by kernel_rfl) (by kernel_rfl) (by kernel_rfl) (by kernel_rfl)) (C_43_snd)

/- (ravelin/bounds.number).plus -/
def F44 : Cfg := { F := 400, roots := [0, 1, 2, 3, 4], fl := ⟨true, false⟩ }
theorem run_44 : ∀ (a : W2) (xb : W2), pureRun Try.prog C_48 F44 Try.f44 [a.av, xb.av] = some ((v_bounds_number_plus a xb).av) := fun a xb =>
 (show pureRun Try.prog C_48 F44 Try.f44 [a.av, xb.av] = (some (AV.agg [(AV.int (IntKind.u64) ((a.hi + xb.hi + bif (a.lo + xb.lo).ult a.lo then 1#64 else 0#64) &&& 1#64)), (AV.int (IntKind.u64) (a.lo + xb.lo))])) by kernel_rfl).trans (rfl)
noncomputable def C_44 : Oracle := pureE 44 (pure2 dW2 dW2 (fun a xb => (v_bounds_number_plus a xb).av)) (C_48)
theorem C_44_snd : Snd Try.prog C_44 := pureE_snd (pure2_ok (F := F44) (C_48_snd) Try.func44 (by kernel_rfl) run_44 (fun _ _ => rfl)) (C_48_snd)

/- ravelin/bounds.Of$1 -/
def F41 : Cfg := { F := 400, roots := [0, 1, 2], fl := ⟨true, false⟩ }
noncomputable def C_41 : Oracle := quietE Try.prog 41 Try.f41 F41 C_44 (C_44)
theorem C_41_snd : Snd Try.prog C_41 := quietE_snd Try.func41 (by kernel_rfl) C_44_snd C_44_snd

/- ravelin/bounds.Of -/
def F28 : Cfg := { F := 400, roots := [0, 1, 2, 3, 4, 5, 6, 7, 8], fl := ⟨true, false⟩ }
theorem run_28 : ∀ (c : Cp), pureRun Try.prog C_41 F28 Try.f28 [c.av] = cond (g_bounds_Of c) (some ((v_bounds_Of c).av)) none := fun c =>
 (show pureRun Try.prog C_41 F28 Try.f28 [c.av] = (cond (nonneg IntKind.i64 c.e)
 (cond ((c.e + 14#64).slt 64#64)
 (cond (nonneg IntKind.i64 (c.e + 14#64))
 (cond (g_bounds_number_up (v_bounds_signed (BitVec.setWidth 64 (c.ad >>> min (c.e + 14#64).toNat 64) + (v_bounds_truth (c.b.slt ((c.b.sshiftRight 11 - 1#64 &&& 7#64) <<< 11)) - v_bounds_truth ((BitVec.setWidth 64 (c.ad >>> min c.e.toNat 64) &&& 16383#64).slt ((c.b.sshiftRight 11 - 1#64 &&& 7#64) <<< 11))))) (c.e + 14#64))
 (cond (g_bounds_number_up { hi := 0#64, lo := BitVec.signExtend 64 c.b } c.e)
 (cond (g_bounds_number_up (v_bounds_signed (BitVec.setWidth 64 (c.ad >>> min (c.e + 14#64).toNat 64) + (v_bounds_truth ((c.t ||| (c.b.sshiftRight 12 + v_bounds_truth (c.t.slt (c.b &&& 4095#64)) + v_bounds_truth c.big &&& 3#64) <<< 12).slt ((c.b.sshiftRight 11 - 1#64 &&& 7#64) <<< 11)) - v_bounds_truth ((BitVec.setWidth 64 (c.ad >>> min c.e.toNat 64) &&& 16383#64).slt ((c.b.sshiftRight 11 - 1#64 &&& 7#64) <<< 11))))) (c.e + 14#64))
 (cond (g_bounds_number_up { hi := 0#64, lo := BitVec.signExtend 64 (c.t ||| (c.b.sshiftRight 12 + v_bounds_truth (c.t.slt (c.b &&& 4095#64)) + v_bounds_truth c.big &&& 3#64) <<< 12) } c.e)
 (cond (c.e.slt 51#64)
 (cond ((1#64).ult ((v_bounds_number_plus (v_bounds_number_up (v_bounds_signed (BitVec.setWidth 64 (c.ad >>> min (c.e + 14#64).toNat 64) + (v_bounds_truth ((c.t ||| (c.b.sshiftRight 12 + v_bounds_truth (c.t.slt (c.b &&& 4095#64)) + v_bounds_truth c.big &&& 3#64) <<< 12).slt ((c.b.sshiftRight 11 - 1#64 &&& 7#64) <<< 11)) - v_bounds_truth ((BitVec.setWidth 64 (c.ad >>> min c.e.toNat 64) &&& 16383#64).slt ((c.b.sshiftRight 11 - 1#64 &&& 7#64) <<< 11))))) (c.e + 14#64)) (v_bounds_number_up { hi := 0#64, lo := BitVec.signExtend 64 (c.t ||| (c.b.sshiftRight 12 + v_bounds_truth (c.t.slt (c.b &&& 4095#64)) + v_bounds_truth c.big &&& 3#64) <<< 12) } c.e)).hi <<< 1 + (v_bounds_number_plus (v_bounds_number_up (v_bounds_signed (BitVec.setWidth 64 (c.ad >>> min (c.e + 14#64).toNat 64) + (v_bounds_truth ((c.t ||| (c.b.sshiftRight 12 + v_bounds_truth (c.t.slt (c.b &&& 4095#64)) + v_bounds_truth c.big &&& 3#64) <<< 12).slt ((c.b.sshiftRight 11 - 1#64 &&& 7#64) <<< 11)) - v_bounds_truth ((BitVec.setWidth 64 (c.ad >>> min c.e.toNat 64) &&& 16383#64).slt ((c.b.sshiftRight 11 - 1#64 &&& 7#64) <<< 11))))) (c.e + 14#64)) (v_bounds_number_up { hi := 0#64, lo := BitVec.signExtend 64 (c.t ||| (c.b.sshiftRight 12 + v_bounds_truth (c.t.slt (c.b &&& 4095#64)) + v_bounds_truth c.big &&& 3#64) <<< 12) } c.e)).lo >>> 63 - (v_bounds_number_plus (v_bounds_number_up (v_bounds_signed (BitVec.setWidth 64 (c.ad >>> min (c.e + 14#64).toNat 64) + (v_bounds_truth (c.b.slt ((c.b.sshiftRight 11 - 1#64 &&& 7#64) <<< 11)) - v_bounds_truth ((BitVec.setWidth 64 (c.ad >>> min c.e.toNat 64) &&& 16383#64).slt ((c.b.sshiftRight 11 - 1#64 &&& 7#64) <<< 11))))) (c.e + 14#64)) (v_bounds_number_up { hi := 0#64, lo := BitVec.signExtend 64 c.b } c.e)).lo >>> 63 &&& 3#64))
 (some (AV.agg [(AV.int (IntKind.u64) ((v_bounds_number_plus (v_bounds_number_up (v_bounds_signed (BitVec.setWidth 64 (c.ad >>> min (c.e + 14#64).toNat 64) + (v_bounds_truth (c.b.slt ((c.b.sshiftRight 11 - 1#64 &&& 7#64) <<< 11)) - v_bounds_truth ((BitVec.setWidth 64 (c.ad >>> min c.e.toNat 64) &&& 16383#64).slt ((c.b.sshiftRight 11 - 1#64 &&& 7#64) <<< 11))))) (c.e + 14#64)) (v_bounds_number_up { hi := 0#64, lo := BitVec.signExtend 64 c.b } c.e)).lo)), (AV.int (IntKind.u64) ((v_bounds_number_plus (v_bounds_number_up (v_bounds_signed (BitVec.setWidth 64 (c.ad >>> min (c.e + 14#64).toNat 64) + (v_bounds_truth ((c.t ||| (c.b.sshiftRight 12 + v_bounds_truth (c.t.slt (c.b &&& 4095#64)) + v_bounds_truth c.big &&& 3#64) <<< 12).slt ((c.b.sshiftRight 11 - 1#64 &&& 7#64) <<< 11)) - v_bounds_truth ((BitVec.setWidth 64 (c.ad >>> min c.e.toNat 64) &&& 16383#64).slt ((c.b.sshiftRight 11 - 1#64 &&& 7#64) <<< 11))))) (c.e + 14#64)) (v_bounds_number_up { hi := 0#64, lo := BitVec.signExtend 64 (c.t ||| (c.b.sshiftRight 12 + v_bounds_truth (c.t.slt (c.b &&& 4095#64)) + v_bounds_truth c.big &&& 3#64) <<< 12) } c.e)).lo)), (AV.bool ((v_bounds_number_plus (v_bounds_number_up (v_bounds_signed (BitVec.setWidth 64 (c.ad >>> min (c.e + 14#64).toNat 64) + (v_bounds_truth ((c.t ||| (c.b.sshiftRight 12 + v_bounds_truth (c.t.slt (c.b &&& 4095#64)) + v_bounds_truth c.big &&& 3#64) <<< 12).slt ((c.b.sshiftRight 11 - 1#64 &&& 7#64) <<< 11)) - v_bounds_truth ((BitVec.setWidth 64 (c.ad >>> min c.e.toNat 64) &&& 16383#64).slt ((c.b.sshiftRight 11 - 1#64 &&& 7#64) <<< 11))))) (c.e + 14#64)) (v_bounds_number_up { hi := 0#64, lo := BitVec.signExtend 64 (c.t ||| (c.b.sshiftRight 12 + v_bounds_truth (c.t.slt (c.b &&& 4095#64)) + v_bounds_truth c.big &&& 3#64) <<< 12) } c.e)).hi ^^^ 1#64 == 1#64))]))
 (some (AV.agg [(AV.int (IntKind.u64) ((v_bounds_number_plus (v_bounds_number_up (v_bounds_signed (BitVec.setWidth 64 (c.ad >>> min (c.e + 14#64).toNat 64) + (v_bounds_truth (c.b.slt ((c.b.sshiftRight 11 - 1#64 &&& 7#64) <<< 11)) - v_bounds_truth ((BitVec.setWidth 64 (c.ad >>> min c.e.toNat 64) &&& 16383#64).slt ((c.b.sshiftRight 11 - 1#64 &&& 7#64) <<< 11))))) (c.e + 14#64)) (v_bounds_number_up { hi := 0#64, lo := BitVec.signExtend 64 c.b } c.e)).lo)), (AV.int (IntKind.u64) ((v_bounds_number_plus (v_bounds_number_up (v_bounds_signed (BitVec.setWidth 64 (c.ad >>> min (c.e + 14#64).toNat 64) + (v_bounds_truth ((c.t ||| (c.b.sshiftRight 12 + v_bounds_truth (c.t.slt (c.b &&& 4095#64)) + v_bounds_truth c.big &&& 3#64) <<< 12).slt ((c.b.sshiftRight 11 - 1#64 &&& 7#64) <<< 11)) - v_bounds_truth ((BitVec.setWidth 64 (c.ad >>> min c.e.toNat 64) &&& 16383#64).slt ((c.b.sshiftRight 11 - 1#64 &&& 7#64) <<< 11))))) (c.e + 14#64)) (v_bounds_number_up { hi := 0#64, lo := BitVec.signExtend 64 (c.t ||| (c.b.sshiftRight 12 + v_bounds_truth (c.t.slt (c.b &&& 4095#64)) + v_bounds_truth c.big &&& 3#64) <<< 12) } c.e)).lo)), (AV.bool ((v_bounds_number_plus (v_bounds_number_up (v_bounds_signed (BitVec.setWidth 64 (c.ad >>> min (c.e + 14#64).toNat 64) + (v_bounds_truth ((c.t ||| (c.b.sshiftRight 12 + v_bounds_truth (c.t.slt (c.b &&& 4095#64)) + v_bounds_truth c.big &&& 3#64) <<< 12).slt ((c.b.sshiftRight 11 - 1#64 &&& 7#64) <<< 11)) - v_bounds_truth ((BitVec.setWidth 64 (c.ad >>> min c.e.toNat 64) &&& 16383#64).slt ((c.b.sshiftRight 11 - 1#64 &&& 7#64) <<< 11))))) (c.e + 14#64)) (v_bounds_number_up { hi := 0#64, lo := BitVec.signExtend 64 (c.t ||| (c.b.sshiftRight 12 + v_bounds_truth (c.t.slt (c.b &&& 4095#64)) + v_bounds_truth c.big &&& 3#64) <<< 12) } c.e)).hi == 1#64))])))
 (some (AV.agg [(AV.int (IntKind.u64) ((v_bounds_number_plus (v_bounds_number_up (v_bounds_signed (BitVec.setWidth 64 (c.ad >>> min (c.e + 14#64).toNat 64) + (v_bounds_truth (c.b.slt ((c.b.sshiftRight 11 - 1#64 &&& 7#64) <<< 11)) - v_bounds_truth ((BitVec.setWidth 64 (c.ad >>> min c.e.toNat 64) &&& 16383#64).slt ((c.b.sshiftRight 11 - 1#64 &&& 7#64) <<< 11))))) (c.e + 14#64)) (v_bounds_number_up { hi := 0#64, lo := BitVec.signExtend 64 c.b } c.e)).lo)), (AV.int (IntKind.u64) ((v_bounds_number_plus (v_bounds_number_up (v_bounds_signed (BitVec.setWidth 64 (c.ad >>> min (c.e + 14#64).toNat 64) + (v_bounds_truth ((c.t ||| (c.b.sshiftRight 12 + v_bounds_truth (c.t.slt (c.b &&& 4095#64)) + v_bounds_truth c.big &&& 3#64) <<< 12).slt ((c.b.sshiftRight 11 - 1#64 &&& 7#64) <<< 11)) - v_bounds_truth ((BitVec.setWidth 64 (c.ad >>> min c.e.toNat 64) &&& 16383#64).slt ((c.b.sshiftRight 11 - 1#64 &&& 7#64) <<< 11))))) (c.e + 14#64)) (v_bounds_number_up { hi := 0#64, lo := BitVec.signExtend 64 (c.t ||| (c.b.sshiftRight 12 + v_bounds_truth (c.t.slt (c.b &&& 4095#64)) + v_bounds_truth c.big &&& 3#64) <<< 12) } c.e)).lo)), (AV.bool ((v_bounds_number_plus (v_bounds_number_up (v_bounds_signed (BitVec.setWidth 64 (c.ad >>> min (c.e + 14#64).toNat 64) + (v_bounds_truth ((c.t ||| (c.b.sshiftRight 12 + v_bounds_truth (c.t.slt (c.b &&& 4095#64)) + v_bounds_truth c.big &&& 3#64) <<< 12).slt ((c.b.sshiftRight 11 - 1#64 &&& 7#64) <<< 11)) - v_bounds_truth ((BitVec.setWidth 64 (c.ad >>> min c.e.toNat 64) &&& 16383#64).slt ((c.b.sshiftRight 11 - 1#64 &&& 7#64) <<< 11))))) (c.e + 14#64)) (v_bounds_number_up { hi := 0#64, lo := BitVec.signExtend 64 (c.t ||| (c.b.sshiftRight 12 + v_bounds_truth (c.t.slt (c.b &&& 4095#64)) + v_bounds_truth c.big &&& 3#64) <<< 12) } c.e)).hi == 1#64))])))
       none)
      none)
     none)
    none)
   none)
 (cond (g_bounds_number_up (v_bounds_signed (0#64 + (v_bounds_truth (c.b.slt ((c.b.sshiftRight 11 - 1#64 &&& 7#64) <<< 11)) - v_bounds_truth ((BitVec.setWidth 64 (c.ad >>> min c.e.toNat 64) &&& 16383#64).slt ((c.b.sshiftRight 11 - 1#64 &&& 7#64) <<< 11))))) (c.e + 14#64))
 (cond (g_bounds_number_up { hi := 0#64, lo := BitVec.signExtend 64 c.b } c.e)
 (cond (g_bounds_number_up (v_bounds_signed (0#64 + (v_bounds_truth ((c.t ||| (c.b.sshiftRight 12 + v_bounds_truth (c.t.slt (c.b &&& 4095#64)) + v_bounds_truth c.big &&& 3#64) <<< 12).slt ((c.b.sshiftRight 11 - 1#64 &&& 7#64) <<< 11)) - v_bounds_truth ((BitVec.setWidth 64 (c.ad >>> min c.e.toNat 64) &&& 16383#64).slt ((c.b.sshiftRight 11 - 1#64 &&& 7#64) <<< 11))))) (c.e + 14#64))
 (cond (g_bounds_number_up { hi := 0#64, lo := BitVec.signExtend 64 (c.t ||| (c.b.sshiftRight 12 + v_bounds_truth (c.t.slt (c.b &&& 4095#64)) + v_bounds_truth c.big &&& 3#64) <<< 12) } c.e)
 (cond (c.e.slt 51#64)
 (cond ((1#64).ult ((v_bounds_number_plus (v_bounds_number_up (v_bounds_signed (0#64 + (v_bounds_truth ((c.t ||| (c.b.sshiftRight 12 + v_bounds_truth (c.t.slt (c.b &&& 4095#64)) + v_bounds_truth c.big &&& 3#64) <<< 12).slt ((c.b.sshiftRight 11 - 1#64 &&& 7#64) <<< 11)) - v_bounds_truth ((BitVec.setWidth 64 (c.ad >>> min c.e.toNat 64) &&& 16383#64).slt ((c.b.sshiftRight 11 - 1#64 &&& 7#64) <<< 11))))) (c.e + 14#64)) (v_bounds_number_up { hi := 0#64, lo := BitVec.signExtend 64 (c.t ||| (c.b.sshiftRight 12 + v_bounds_truth (c.t.slt (c.b &&& 4095#64)) + v_bounds_truth c.big &&& 3#64) <<< 12) } c.e)).hi <<< 1 + (v_bounds_number_plus (v_bounds_number_up (v_bounds_signed (0#64 + (v_bounds_truth ((c.t ||| (c.b.sshiftRight 12 + v_bounds_truth (c.t.slt (c.b &&& 4095#64)) + v_bounds_truth c.big &&& 3#64) <<< 12).slt ((c.b.sshiftRight 11 - 1#64 &&& 7#64) <<< 11)) - v_bounds_truth ((BitVec.setWidth 64 (c.ad >>> min c.e.toNat 64) &&& 16383#64).slt ((c.b.sshiftRight 11 - 1#64 &&& 7#64) <<< 11))))) (c.e + 14#64)) (v_bounds_number_up { hi := 0#64, lo := BitVec.signExtend 64 (c.t ||| (c.b.sshiftRight 12 + v_bounds_truth (c.t.slt (c.b &&& 4095#64)) + v_bounds_truth c.big &&& 3#64) <<< 12) } c.e)).lo >>> 63 - (v_bounds_number_plus (v_bounds_number_up (v_bounds_signed (0#64 + (v_bounds_truth (c.b.slt ((c.b.sshiftRight 11 - 1#64 &&& 7#64) <<< 11)) - v_bounds_truth ((BitVec.setWidth 64 (c.ad >>> min c.e.toNat 64) &&& 16383#64).slt ((c.b.sshiftRight 11 - 1#64 &&& 7#64) <<< 11))))) (c.e + 14#64)) (v_bounds_number_up { hi := 0#64, lo := BitVec.signExtend 64 c.b } c.e)).lo >>> 63 &&& 3#64))
 (some (AV.agg [(AV.int (IntKind.u64) ((v_bounds_number_plus (v_bounds_number_up (v_bounds_signed (0#64 + (v_bounds_truth (c.b.slt ((c.b.sshiftRight 11 - 1#64 &&& 7#64) <<< 11)) - v_bounds_truth ((BitVec.setWidth 64 (c.ad >>> min c.e.toNat 64) &&& 16383#64).slt ((c.b.sshiftRight 11 - 1#64 &&& 7#64) <<< 11))))) (c.e + 14#64)) (v_bounds_number_up { hi := 0#64, lo := BitVec.signExtend 64 c.b } c.e)).lo)), (AV.int (IntKind.u64) ((v_bounds_number_plus (v_bounds_number_up (v_bounds_signed (0#64 + (v_bounds_truth ((c.t ||| (c.b.sshiftRight 12 + v_bounds_truth (c.t.slt (c.b &&& 4095#64)) + v_bounds_truth c.big &&& 3#64) <<< 12).slt ((c.b.sshiftRight 11 - 1#64 &&& 7#64) <<< 11)) - v_bounds_truth ((BitVec.setWidth 64 (c.ad >>> min c.e.toNat 64) &&& 16383#64).slt ((c.b.sshiftRight 11 - 1#64 &&& 7#64) <<< 11))))) (c.e + 14#64)) (v_bounds_number_up { hi := 0#64, lo := BitVec.signExtend 64 (c.t ||| (c.b.sshiftRight 12 + v_bounds_truth (c.t.slt (c.b &&& 4095#64)) + v_bounds_truth c.big &&& 3#64) <<< 12) } c.e)).lo)), (AV.bool ((v_bounds_number_plus (v_bounds_number_up (v_bounds_signed (0#64 + (v_bounds_truth ((c.t ||| (c.b.sshiftRight 12 + v_bounds_truth (c.t.slt (c.b &&& 4095#64)) + v_bounds_truth c.big &&& 3#64) <<< 12).slt ((c.b.sshiftRight 11 - 1#64 &&& 7#64) <<< 11)) - v_bounds_truth ((BitVec.setWidth 64 (c.ad >>> min c.e.toNat 64) &&& 16383#64).slt ((c.b.sshiftRight 11 - 1#64 &&& 7#64) <<< 11))))) (c.e + 14#64)) (v_bounds_number_up { hi := 0#64, lo := BitVec.signExtend 64 (c.t ||| (c.b.sshiftRight 12 + v_bounds_truth (c.t.slt (c.b &&& 4095#64)) + v_bounds_truth c.big &&& 3#64) <<< 12) } c.e)).hi ^^^ 1#64 == 1#64))]))
 (some (AV.agg [(AV.int (IntKind.u64) ((v_bounds_number_plus (v_bounds_number_up (v_bounds_signed (0#64 + (v_bounds_truth (c.b.slt ((c.b.sshiftRight 11 - 1#64 &&& 7#64) <<< 11)) - v_bounds_truth ((BitVec.setWidth 64 (c.ad >>> min c.e.toNat 64) &&& 16383#64).slt ((c.b.sshiftRight 11 - 1#64 &&& 7#64) <<< 11))))) (c.e + 14#64)) (v_bounds_number_up { hi := 0#64, lo := BitVec.signExtend 64 c.b } c.e)).lo)), (AV.int (IntKind.u64) ((v_bounds_number_plus (v_bounds_number_up (v_bounds_signed (0#64 + (v_bounds_truth ((c.t ||| (c.b.sshiftRight 12 + v_bounds_truth (c.t.slt (c.b &&& 4095#64)) + v_bounds_truth c.big &&& 3#64) <<< 12).slt ((c.b.sshiftRight 11 - 1#64 &&& 7#64) <<< 11)) - v_bounds_truth ((BitVec.setWidth 64 (c.ad >>> min c.e.toNat 64) &&& 16383#64).slt ((c.b.sshiftRight 11 - 1#64 &&& 7#64) <<< 11))))) (c.e + 14#64)) (v_bounds_number_up { hi := 0#64, lo := BitVec.signExtend 64 (c.t ||| (c.b.sshiftRight 12 + v_bounds_truth (c.t.slt (c.b &&& 4095#64)) + v_bounds_truth c.big &&& 3#64) <<< 12) } c.e)).lo)), (AV.bool ((v_bounds_number_plus (v_bounds_number_up (v_bounds_signed (0#64 + (v_bounds_truth ((c.t ||| (c.b.sshiftRight 12 + v_bounds_truth (c.t.slt (c.b &&& 4095#64)) + v_bounds_truth c.big &&& 3#64) <<< 12).slt ((c.b.sshiftRight 11 - 1#64 &&& 7#64) <<< 11)) - v_bounds_truth ((BitVec.setWidth 64 (c.ad >>> min c.e.toNat 64) &&& 16383#64).slt ((c.b.sshiftRight 11 - 1#64 &&& 7#64) <<< 11))))) (c.e + 14#64)) (v_bounds_number_up { hi := 0#64, lo := BitVec.signExtend 64 (c.t ||| (c.b.sshiftRight 12 + v_bounds_truth (c.t.slt (c.b &&& 4095#64)) + v_bounds_truth c.big &&& 3#64) <<< 12) } c.e)).hi == 1#64))])))
 (some (AV.agg [(AV.int (IntKind.u64) ((v_bounds_number_plus (v_bounds_number_up (v_bounds_signed (0#64 + (v_bounds_truth (c.b.slt ((c.b.sshiftRight 11 - 1#64 &&& 7#64) <<< 11)) - v_bounds_truth ((BitVec.setWidth 64 (c.ad >>> min c.e.toNat 64) &&& 16383#64).slt ((c.b.sshiftRight 11 - 1#64 &&& 7#64) <<< 11))))) (c.e + 14#64)) (v_bounds_number_up { hi := 0#64, lo := BitVec.signExtend 64 c.b } c.e)).lo)), (AV.int (IntKind.u64) ((v_bounds_number_plus (v_bounds_number_up (v_bounds_signed (0#64 + (v_bounds_truth ((c.t ||| (c.b.sshiftRight 12 + v_bounds_truth (c.t.slt (c.b &&& 4095#64)) + v_bounds_truth c.big &&& 3#64) <<< 12).slt ((c.b.sshiftRight 11 - 1#64 &&& 7#64) <<< 11)) - v_bounds_truth ((BitVec.setWidth 64 (c.ad >>> min c.e.toNat 64) &&& 16383#64).slt ((c.b.sshiftRight 11 - 1#64 &&& 7#64) <<< 11))))) (c.e + 14#64)) (v_bounds_number_up { hi := 0#64, lo := BitVec.signExtend 64 (c.t ||| (c.b.sshiftRight 12 + v_bounds_truth (c.t.slt (c.b &&& 4095#64)) + v_bounds_truth c.big &&& 3#64) <<< 12) } c.e)).lo)), (AV.bool ((v_bounds_number_plus (v_bounds_number_up (v_bounds_signed (0#64 + (v_bounds_truth ((c.t ||| (c.b.sshiftRight 12 + v_bounds_truth (c.t.slt (c.b &&& 4095#64)) + v_bounds_truth c.big &&& 3#64) <<< 12).slt ((c.b.sshiftRight 11 - 1#64 &&& 7#64) <<< 11)) - v_bounds_truth ((BitVec.setWidth 64 (c.ad >>> min c.e.toNat 64) &&& 16383#64).slt ((c.b.sshiftRight 11 - 1#64 &&& 7#64) <<< 11))))) (c.e + 14#64)) (v_bounds_number_up { hi := 0#64, lo := BitVec.signExtend 64 (c.t ||| (c.b.sshiftRight 12 + v_bounds_truth (c.t.slt (c.b &&& 4095#64)) + v_bounds_truth c.big &&& 3#64) <<< 12) } c.e)).hi == 1#64))])))
      none)
     none)
    none)
   none))
 none) by kernel_rfl).trans ((merR _ (Rg.av) (merG _ (Rg.av) (merR _ (Rg.av) (merR _ (Rg.av) (merR _ (Rg.av) (merR _ (Rg.av) (merR _ (Rg.av) (merG _ (Rg.av) (merG _ (Rg.av) rfl rfl) rfl)))))) (merR _ (Rg.av) (merR _ (Rg.av) (merR _ (Rg.av) (merR _ (Rg.av) (merG _ (Rg.av) (merG _ (Rg.av) rfl rfl) rfl))))))))
noncomputable def C_28 : Oracle := pureGE 28 (pure1 dCp (fun c => .tup [.bool (g_bounds_Of c), (v_bounds_Of c).av])) (C_41)
theorem C_28_snd : Snd Try.prog C_28 := pureGE_snd (pure1_gok (F := F28) (C_41_snd) Try.func28 (by kernel_rfl) run_28 (fun _ => rfl)) (C_41_snd)

/- ravelin/bounds.Fits -/
def F38 : Cfg := { F := 400, roots := [0, 1, 2, 3], fl := ⟨true, false⟩ }
theorem run_38 : ∀ (c : Cp) (xat : BitVec 64), pureRun Try.prog C_28 F38 Try.f38 [c.av, .int .u64 xat] = cond (g_bounds_Fits c xat) (some (.bool (v_bounds_Fits c xat))) none := fun c xat =>
 (show pureRun Try.prog C_28 F38 Try.f38 [c.av, .int .u64 xat] = (cond (g_bounds_Of c)
 (cond (g_bounds_Of { tag := c.tag, per := c.per, ty := c.ty, mo := c.mo, e := c.e, b := c.b, t := c.t, big := c.big, ad := xat })
 (some (AV.bool ((v_bounds_Of { tag := c.tag, per := c.per, ty := c.ty, mo := c.mo, e := c.e, b := c.b, t := c.t, big := c.big, ad := xat }).base == (v_bounds_Of c).base && ((v_bounds_Of { tag := c.tag, per := c.per, ty := c.ty, mo := c.mo, e := c.e, b := c.b, t := c.t, big := c.big, ad := xat }).top == (v_bounds_Of c).top && ((v_bounds_Of { tag := c.tag, per := c.per, ty := c.ty, mo := c.mo, e := c.e, b := c.b, t := c.t, big := c.big, ad := xat }).over == (v_bounds_Of c).over && true)))))
  none)
 none) by kernel_rfl).trans ((merR _ (fun p => .bool p) (merR _ (fun p => .bool p) rfl)))
noncomputable def C_38 : Oracle := pureGE 38 (pure2 dCp dU64 (fun c xat => .tup [.bool (g_bounds_Fits c xat), .bool (v_bounds_Fits c xat)])) (C_28)
theorem C_38_snd : Snd Try.prog C_38 := pureGE_snd (pure2_gok (F := F38) (C_28_snd) Try.func38 (by kernel_rfl) run_38 (fun _ _ => rfl)) (C_28_snd)

/- ravelin/capops.keep -/
def F39 : Cfg := { F := 400, roots := [0, 1, 2], fl := ⟨true, false⟩ }
theorem run_39 : ∀ (c : Cp) (xis : Bool), pureRun Try.prog C_38 F39 Try.f39 [c.av, .bool xis] = some ((v_capops_keep c xis).av) := fun c xis =>
 (show pureRun Try.prog C_38 F39 Try.f39 [c.av, .bool xis] = (cond (c.tag)
 (some (AV.agg [(AV.bool (xis)), (AV.int (IntKind.i64) (c.per)), (AV.int (IntKind.i64) (c.ty)), (AV.int (IntKind.i64) (c.mo)), (AV.int (IntKind.i64) (c.e)), (AV.int (IntKind.i64) (c.b)), (AV.int (IntKind.i64) (c.t)), (AV.bool (c.big)), (AV.int (IntKind.u64) (c.ad))]))
 (some (AV.agg [(AV.bool (false)), (AV.int (IntKind.i64) (c.per)), (AV.int (IntKind.i64) (c.ty)), (AV.int (IntKind.i64) (c.mo)), (AV.int (IntKind.i64) (c.e)), (AV.int (IntKind.i64) (c.b)), (AV.int (IntKind.i64) (c.t)), (AV.bool (c.big)), (AV.int (IntKind.u64) (c.ad))]))) by kernel_rfl).trans (by
    delta v_capops_keep
    refine (mer _ (Cp.av) ?_ ?_)
    all_goals (try delta Cp.av)
    all_goals (try delta Rg.av)
    all_goals (try delta W2.av)
    all_goals (try delta Tr.av)
    all_goals (try delta Qu.av)
    all_goals first | with_reducible rfl | rfl)
noncomputable def C_39 : Oracle := pureE 39 (pure2 dCp dBool (fun c xis => (v_capops_keep c xis).av)) (C_38)
theorem C_39_snd : Snd Try.prog C_39 := pureE_snd (pure2_ok (F := F39) (C_38_snd) Try.func39 (by kernel_rfl) run_39 (fun _ _ => rfl)) (C_38_snd)

/- ravelin/capops.Move -/
def F25 : Cfg := { F := 400, roots := [0, 1, 2, 3], fl := ⟨true, false⟩ }
theorem run_25 : ∀ (c : Cp) (xat : BitVec 64), pureRun Try.prog C_39 F25 Try.f25 [c.av, .int .u64 xat] = cond (g_capops_Move c xat) (some ((v_capops_Move c xat).av)) none := fun c xat =>
 (show pureRun Try.prog C_39 F25 Try.f25 [c.av, .int .u64 xat] = (cond (!v_capops_Sealed c)
 (cond (g_bounds_Fits c xat)
 (some (AV.agg [(AV.bool ((v_capops_keep { tag := c.tag, per := c.per, ty := c.ty, mo := c.mo, e := c.e, b := c.b, t := c.t, big := c.big, ad := xat } (v_bounds_Fits c xat)).tag)), (AV.int (IntKind.i64) ((v_capops_keep { tag := c.tag, per := c.per, ty := c.ty, mo := c.mo, e := c.e, b := c.b, t := c.t, big := c.big, ad := xat } (v_bounds_Fits c xat)).per)), (AV.int (IntKind.i64) ((v_capops_keep { tag := c.tag, per := c.per, ty := c.ty, mo := c.mo, e := c.e, b := c.b, t := c.t, big := c.big, ad := xat } (v_bounds_Fits c xat)).ty)), (AV.int (IntKind.i64) ((v_capops_keep { tag := c.tag, per := c.per, ty := c.ty, mo := c.mo, e := c.e, b := c.b, t := c.t, big := c.big, ad := xat } (v_bounds_Fits c xat)).mo)), (AV.int (IntKind.i64) ((v_capops_keep { tag := c.tag, per := c.per, ty := c.ty, mo := c.mo, e := c.e, b := c.b, t := c.t, big := c.big, ad := xat } (v_bounds_Fits c xat)).e)), (AV.int (IntKind.i64) ((v_capops_keep { tag := c.tag, per := c.per, ty := c.ty, mo := c.mo, e := c.e, b := c.b, t := c.t, big := c.big, ad := xat } (v_bounds_Fits c xat)).b)), (AV.int (IntKind.i64) ((v_capops_keep { tag := c.tag, per := c.per, ty := c.ty, mo := c.mo, e := c.e, b := c.b, t := c.t, big := c.big, ad := xat } (v_bounds_Fits c xat)).t)), (AV.bool ((v_capops_keep { tag := c.tag, per := c.per, ty := c.ty, mo := c.mo, e := c.e, b := c.b, t := c.t, big := c.big, ad := xat } (v_bounds_Fits c xat)).big)), (AV.int (IntKind.u64) ((v_capops_keep { tag := c.tag, per := c.per, ty := c.ty, mo := c.mo, e := c.e, b := c.b, t := c.t, big := c.big, ad := xat } (v_bounds_Fits c xat)).ad))]))
  none)
 (some (AV.agg [(AV.bool ((v_capops_keep { tag := c.tag, per := c.per, ty := c.ty, mo := c.mo, e := c.e, b := c.b, t := c.t, big := c.big, ad := xat } false).tag)), (AV.int (IntKind.i64) ((v_capops_keep { tag := c.tag, per := c.per, ty := c.ty, mo := c.mo, e := c.e, b := c.b, t := c.t, big := c.big, ad := xat } false).per)), (AV.int (IntKind.i64) ((v_capops_keep { tag := c.tag, per := c.per, ty := c.ty, mo := c.mo, e := c.e, b := c.b, t := c.t, big := c.big, ad := xat } false).ty)), (AV.int (IntKind.i64) ((v_capops_keep { tag := c.tag, per := c.per, ty := c.ty, mo := c.mo, e := c.e, b := c.b, t := c.t, big := c.big, ad := xat } false).mo)), (AV.int (IntKind.i64) ((v_capops_keep { tag := c.tag, per := c.per, ty := c.ty, mo := c.mo, e := c.e, b := c.b, t := c.t, big := c.big, ad := xat } false).e)), (AV.int (IntKind.i64) ((v_capops_keep { tag := c.tag, per := c.per, ty := c.ty, mo := c.mo, e := c.e, b := c.b, t := c.t, big := c.big, ad := xat } false).b)), (AV.int (IntKind.i64) ((v_capops_keep { tag := c.tag, per := c.per, ty := c.ty, mo := c.mo, e := c.e, b := c.b, t := c.t, big := c.big, ad := xat } false).t)), (AV.bool ((v_capops_keep { tag := c.tag, per := c.per, ty := c.ty, mo := c.mo, e := c.e, b := c.b, t := c.t, big := c.big, ad := xat } false).big)), (AV.int (IntKind.u64) ((v_capops_keep { tag := c.tag, per := c.per, ty := c.ty, mo := c.mo, e := c.e, b := c.b, t := c.t, big := c.big, ad := xat } false).ad))]))) by kernel_rfl).trans ((merG _ (Cp.av) (merR _ (Cp.av) rfl) rfl))
noncomputable def C_25 : Oracle := pureGE 25 (pure2 dCp dU64 (fun c xat => .tup [.bool (g_capops_Move c xat), (v_capops_Move c xat).av])) (C_39)
theorem C_25_snd : Snd Try.prog C_25 := pureGE_snd (pure2_gok (F := F25) (C_39_snd) Try.func25 (by kernel_rfl) run_25 (fun _ _ => rfl)) (C_39_snd)

/- ravelin/trap.open -/
def F26 : Cfg := { F := 400, roots := [0, 1], fl := ⟨true, false⟩ }
theorem run_26 : ∀ (c : Cp), pureRun Try.prog C_25 F26 Try.f26 [c.av] = some ((v_trap_open c).av) := fun c =>
 (show pureRun Try.prog C_25 F26 Try.f26 [c.av] = (cond (c.ty == 262142#64)
 (some (AV.agg [(AV.bool (c.tag)), (AV.int (IntKind.i64) (c.per)), (AV.int (IntKind.i64) (262143#64)), (AV.int (IntKind.i64) (c.mo)), (AV.int (IntKind.i64) (c.e)), (AV.int (IntKind.i64) (c.b)), (AV.int (IntKind.i64) (c.t)), (AV.bool (c.big)), (AV.int (IntKind.u64) (c.ad))]))
 (some (AV.agg [(AV.bool (c.tag)), (AV.int (IntKind.i64) (c.per)), (AV.int (IntKind.i64) (c.ty)), (AV.int (IntKind.i64) (c.mo)), (AV.int (IntKind.i64) (c.e)), (AV.int (IntKind.i64) (c.b)), (AV.int (IntKind.i64) (c.t)), (AV.bool (c.big)), (AV.int (IntKind.u64) (c.ad))]))) by kernel_rfl).trans (by
    delta v_trap_open
    refine (mer _ (Cp.av) ?_ ?_)
    all_goals (try delta Cp.av)
    all_goals (try delta Rg.av)
    all_goals (try delta W2.av)
    all_goals (try delta Tr.av)
    all_goals (try delta Qu.av)
    all_goals first | with_reducible rfl | rfl)
noncomputable def C_26 : Oracle := pureE 26 (pure1 dCp (fun c => (v_trap_open c).av)) (C_25)
theorem C_26_snd : Snd Try.prog C_26 := pureE_snd (pure1_ok (F := F26) (C_25_snd) Try.func26 (by kernel_rfl) run_26 (fun _ => rfl)) (C_25_snd)

/- ravelin/trap.Enter -/
def F11 : Cfg := { F := 400, roots := [0, 1, 2, 3, 4, 5, 6, 7], fl := ⟨true, false⟩ }
theorem run_11 : ∀ (h : Ht) (cause : BitVec 64) (intr : Bool) (value : BitVec 64), stRun Try.prog (C_26) F11 Try.f11 [.ptr ⟨0, 0, 0, 0, 0⟩, .int .i64 cause, .bool intr, .int .u64 value] [(0, ⟨true, h.segs⟩)] = cond (g_trap_Enter (enOf h) cause intr value) (some (enR h.segs (v_trap_Enter (enOf h) cause intr value))) none := fun h cause intr value =>
 (show _ = (cond (intr)
 (cond (((enOf h).p).sle 1#64)
 (cond (nonneg IntKind.i64 cause)
 (cond ((enOf h).mi >>> min cause.toNat 64 &&& 1#64 == 1#64)
 (cond (intr)
 (cond (((enOf h).stcc).ad &&& 1#64 == 1#64)
 (cond (g_capops_Move (v_trap_open ((enOf h).stcc)) ((((enOf h).stcc).ad &&& 18446744073709551612#64) + 4#64 * BitVec.signExtend 64 cause))
 (some (enR h.segs ({ pcc := v_capops_Move (v_trap_open ((enOf h).stcc)) ((((enOf h).stcc).ad &&& 18446744073709551612#64) + 4#64 * BitVec.signExtend 64 cause), sepcc := (enOf h).pcc, mepcc := (enOf h).mepcc, stcc := (enOf h).stcc, mtcc := (enOf h).mtcc, p := 1#64, m := v_trap_lay (v_trap_lay (v_trap_lay ((enOf h).m) (5#64) (1#64) ((enOf h).m >>> 1)) 1#64 1#64 0#64) (8#64) (1#64) (BitVec.signExtend 64 ((enOf h).p)), md := (enOf h).md, mi := (enOf h).mi, mc := (enOf h).mc, sc := BitVec.signExtend 64 cause ||| 9223372036854775808#64, mt := (enOf h).mt, st := value, w := false })))
       none)
 (cond (g_capops_Move (v_trap_open ((enOf h).stcc)) (((enOf h).stcc).ad &&& 18446744073709551612#64))
 (some (enR h.segs ({ pcc := v_capops_Move (v_trap_open ((enOf h).stcc)) (((enOf h).stcc).ad &&& 18446744073709551612#64), sepcc := (enOf h).pcc, mepcc := (enOf h).mepcc, stcc := (enOf h).stcc, mtcc := (enOf h).mtcc, p := 1#64, m := v_trap_lay (v_trap_lay (v_trap_lay ((enOf h).m) (5#64) (1#64) ((enOf h).m >>> 1)) 1#64 1#64 0#64) (8#64) (1#64) (BitVec.signExtend 64 ((enOf h).p)), md := (enOf h).md, mi := (enOf h).mi, mc := (enOf h).mc, sc := BitVec.signExtend 64 cause ||| 9223372036854775808#64, mt := (enOf h).mt, st := value, w := false })))
       none))
 (cond (g_capops_Move (v_trap_open ((enOf h).stcc)) (((enOf h).stcc).ad &&& 18446744073709551612#64))
 (some (enR h.segs ({ pcc := v_capops_Move (v_trap_open ((enOf h).stcc)) (((enOf h).stcc).ad &&& 18446744073709551612#64), sepcc := (enOf h).pcc, mepcc := (enOf h).mepcc, stcc := (enOf h).stcc, mtcc := (enOf h).mtcc, p := 1#64, m := v_trap_lay (v_trap_lay (v_trap_lay ((enOf h).m) (5#64) (1#64) ((enOf h).m >>> 1)) 1#64 1#64 0#64) (8#64) (1#64) (BitVec.signExtend 64 ((enOf h).p)), md := (enOf h).md, mi := (enOf h).mi, mc := (enOf h).mc, sc := BitVec.signExtend 64 cause ||| 9223372036854775808#64, mt := (enOf h).mt, st := value, w := false })))
      none))
 (cond (intr)
 (cond (((enOf h).mtcc).ad &&& 1#64 == 1#64)
 (cond (g_capops_Move (v_trap_open ((enOf h).mtcc)) ((((enOf h).mtcc).ad &&& 18446744073709551612#64) + 4#64 * BitVec.signExtend 64 cause))
 (some (enR h.segs ({ pcc := v_capops_Move (v_trap_open ((enOf h).mtcc)) ((((enOf h).mtcc).ad &&& 18446744073709551612#64) + 4#64 * BitVec.signExtend 64 cause), sepcc := (enOf h).sepcc, mepcc := (enOf h).pcc, stcc := (enOf h).stcc, mtcc := (enOf h).mtcc, p := 3#64, m := v_trap_lay (v_trap_lay (v_trap_lay ((enOf h).m) (7#64) (1#64) ((enOf h).m >>> 3)) 3#64 1#64 0#64) (11#64) (2#64) (BitVec.signExtend 64 ((enOf h).p)), md := (enOf h).md, mi := (enOf h).mi, mc := BitVec.signExtend 64 cause ||| 9223372036854775808#64, sc := (enOf h).sc, mt := value, st := (enOf h).st, w := false })))
       none)
 (cond (g_capops_Move (v_trap_open ((enOf h).mtcc)) (((enOf h).mtcc).ad &&& 18446744073709551612#64))
 (some (enR h.segs ({ pcc := v_capops_Move (v_trap_open ((enOf h).mtcc)) (((enOf h).mtcc).ad &&& 18446744073709551612#64), sepcc := (enOf h).sepcc, mepcc := (enOf h).pcc, stcc := (enOf h).stcc, mtcc := (enOf h).mtcc, p := 3#64, m := v_trap_lay (v_trap_lay (v_trap_lay ((enOf h).m) (7#64) (1#64) ((enOf h).m >>> 3)) 3#64 1#64 0#64) (11#64) (2#64) (BitVec.signExtend 64 ((enOf h).p)), md := (enOf h).md, mi := (enOf h).mi, mc := BitVec.signExtend 64 cause ||| 9223372036854775808#64, sc := (enOf h).sc, mt := value, st := (enOf h).st, w := false })))
       none))
 (cond (g_capops_Move (v_trap_open ((enOf h).mtcc)) (((enOf h).mtcc).ad &&& 18446744073709551612#64))
 (some (enR h.segs ({ pcc := v_capops_Move (v_trap_open ((enOf h).mtcc)) (((enOf h).mtcc).ad &&& 18446744073709551612#64), sepcc := (enOf h).sepcc, mepcc := (enOf h).pcc, stcc := (enOf h).stcc, mtcc := (enOf h).mtcc, p := 3#64, m := v_trap_lay (v_trap_lay (v_trap_lay ((enOf h).m) (7#64) (1#64) ((enOf h).m >>> 3)) 3#64 1#64 0#64) (11#64) (2#64) (BitVec.signExtend 64 ((enOf h).p)), md := (enOf h).md, mi := (enOf h).mi, mc := BitVec.signExtend 64 cause ||| 9223372036854775808#64, sc := (enOf h).sc, mt := value, st := (enOf h).st, w := false })))
      none)))
   none)
 (cond (intr)
 (cond (((enOf h).mtcc).ad &&& 1#64 == 1#64)
 (cond (g_capops_Move (v_trap_open ((enOf h).mtcc)) ((((enOf h).mtcc).ad &&& 18446744073709551612#64) + 4#64 * BitVec.signExtend 64 cause))
 (some (enR h.segs ({ pcc := v_capops_Move (v_trap_open ((enOf h).mtcc)) ((((enOf h).mtcc).ad &&& 18446744073709551612#64) + 4#64 * BitVec.signExtend 64 cause), sepcc := (enOf h).sepcc, mepcc := (enOf h).pcc, stcc := (enOf h).stcc, mtcc := (enOf h).mtcc, p := 3#64, m := v_trap_lay (v_trap_lay (v_trap_lay ((enOf h).m) (7#64) (1#64) ((enOf h).m >>> 3)) 3#64 1#64 0#64) (11#64) (2#64) (BitVec.signExtend 64 ((enOf h).p)), md := (enOf h).md, mi := (enOf h).mi, mc := BitVec.signExtend 64 cause ||| 9223372036854775808#64, sc := (enOf h).sc, mt := value, st := (enOf h).st, w := false })))
     none)
 (cond (g_capops_Move (v_trap_open ((enOf h).mtcc)) (((enOf h).mtcc).ad &&& 18446744073709551612#64))
 (some (enR h.segs ({ pcc := v_capops_Move (v_trap_open ((enOf h).mtcc)) (((enOf h).mtcc).ad &&& 18446744073709551612#64), sepcc := (enOf h).sepcc, mepcc := (enOf h).pcc, stcc := (enOf h).stcc, mtcc := (enOf h).mtcc, p := 3#64, m := v_trap_lay (v_trap_lay (v_trap_lay ((enOf h).m) (7#64) (1#64) ((enOf h).m >>> 3)) 3#64 1#64 0#64) (11#64) (2#64) (BitVec.signExtend 64 ((enOf h).p)), md := (enOf h).md, mi := (enOf h).mi, mc := BitVec.signExtend 64 cause ||| 9223372036854775808#64, sc := (enOf h).sc, mt := value, st := (enOf h).st, w := false })))
     none))
 (cond (g_capops_Move (v_trap_open ((enOf h).mtcc)) (((enOf h).mtcc).ad &&& 18446744073709551612#64))
 (some (enR h.segs ({ pcc := v_capops_Move (v_trap_open ((enOf h).mtcc)) (((enOf h).mtcc).ad &&& 18446744073709551612#64), sepcc := (enOf h).sepcc, mepcc := (enOf h).pcc, stcc := (enOf h).stcc, mtcc := (enOf h).mtcc, p := 3#64, m := v_trap_lay (v_trap_lay (v_trap_lay ((enOf h).m) (7#64) (1#64) ((enOf h).m >>> 3)) 3#64 1#64 0#64) (11#64) (2#64) (BitVec.signExtend 64 ((enOf h).p)), md := (enOf h).md, mi := (enOf h).mi, mc := BitVec.signExtend 64 cause ||| 9223372036854775808#64, sc := (enOf h).sc, mt := value, st := (enOf h).st, w := false })))
    none)))
 (cond (((enOf h).p).sle 1#64)
 (cond (nonneg IntKind.i64 cause)
 (cond ((enOf h).md >>> min cause.toNat 64 &&& 1#64 == 1#64)
 (cond (intr)
 (cond (((enOf h).stcc).ad &&& 1#64 == 1#64)
 (cond (g_capops_Move (v_trap_open ((enOf h).stcc)) ((((enOf h).stcc).ad &&& 18446744073709551612#64) + 4#64 * BitVec.signExtend 64 cause))
 (some (enR h.segs ({ pcc := v_capops_Move (v_trap_open ((enOf h).stcc)) ((((enOf h).stcc).ad &&& 18446744073709551612#64) + 4#64 * BitVec.signExtend 64 cause), sepcc := (enOf h).pcc, mepcc := (enOf h).mepcc, stcc := (enOf h).stcc, mtcc := (enOf h).mtcc, p := 1#64, m := v_trap_lay (v_trap_lay (v_trap_lay ((enOf h).m) (5#64) (1#64) ((enOf h).m >>> 1)) 1#64 1#64 0#64) (8#64) (1#64) (BitVec.signExtend 64 ((enOf h).p)), md := (enOf h).md, mi := (enOf h).mi, mc := (enOf h).mc, sc := BitVec.signExtend 64 cause, mt := (enOf h).mt, st := value, w := false })))
       none)
 (cond (g_capops_Move (v_trap_open ((enOf h).stcc)) (((enOf h).stcc).ad &&& 18446744073709551612#64))
 (some (enR h.segs ({ pcc := v_capops_Move (v_trap_open ((enOf h).stcc)) (((enOf h).stcc).ad &&& 18446744073709551612#64), sepcc := (enOf h).pcc, mepcc := (enOf h).mepcc, stcc := (enOf h).stcc, mtcc := (enOf h).mtcc, p := 1#64, m := v_trap_lay (v_trap_lay (v_trap_lay ((enOf h).m) (5#64) (1#64) ((enOf h).m >>> 1)) 1#64 1#64 0#64) (8#64) (1#64) (BitVec.signExtend 64 ((enOf h).p)), md := (enOf h).md, mi := (enOf h).mi, mc := (enOf h).mc, sc := BitVec.signExtend 64 cause, mt := (enOf h).mt, st := value, w := false })))
       none))
 (cond (g_capops_Move (v_trap_open ((enOf h).stcc)) (((enOf h).stcc).ad &&& 18446744073709551612#64))
 (some (enR h.segs ({ pcc := v_capops_Move (v_trap_open ((enOf h).stcc)) (((enOf h).stcc).ad &&& 18446744073709551612#64), sepcc := (enOf h).pcc, mepcc := (enOf h).mepcc, stcc := (enOf h).stcc, mtcc := (enOf h).mtcc, p := 1#64, m := v_trap_lay (v_trap_lay (v_trap_lay ((enOf h).m) (5#64) (1#64) ((enOf h).m >>> 1)) 1#64 1#64 0#64) (8#64) (1#64) (BitVec.signExtend 64 ((enOf h).p)), md := (enOf h).md, mi := (enOf h).mi, mc := (enOf h).mc, sc := BitVec.signExtend 64 cause, mt := (enOf h).mt, st := value, w := false })))
      none))
 (cond (intr)
 (cond (((enOf h).mtcc).ad &&& 1#64 == 1#64)
 (cond (g_capops_Move (v_trap_open ((enOf h).mtcc)) ((((enOf h).mtcc).ad &&& 18446744073709551612#64) + 4#64 * BitVec.signExtend 64 cause))
 (some (enR h.segs ({ pcc := v_capops_Move (v_trap_open ((enOf h).mtcc)) ((((enOf h).mtcc).ad &&& 18446744073709551612#64) + 4#64 * BitVec.signExtend 64 cause), sepcc := (enOf h).sepcc, mepcc := (enOf h).pcc, stcc := (enOf h).stcc, mtcc := (enOf h).mtcc, p := 3#64, m := v_trap_lay (v_trap_lay (v_trap_lay ((enOf h).m) (7#64) (1#64) ((enOf h).m >>> 3)) 3#64 1#64 0#64) (11#64) (2#64) (BitVec.signExtend 64 ((enOf h).p)), md := (enOf h).md, mi := (enOf h).mi, mc := BitVec.signExtend 64 cause, sc := (enOf h).sc, mt := value, st := (enOf h).st, w := false })))
       none)
 (cond (g_capops_Move (v_trap_open ((enOf h).mtcc)) (((enOf h).mtcc).ad &&& 18446744073709551612#64))
 (some (enR h.segs ({ pcc := v_capops_Move (v_trap_open ((enOf h).mtcc)) (((enOf h).mtcc).ad &&& 18446744073709551612#64), sepcc := (enOf h).sepcc, mepcc := (enOf h).pcc, stcc := (enOf h).stcc, mtcc := (enOf h).mtcc, p := 3#64, m := v_trap_lay (v_trap_lay (v_trap_lay ((enOf h).m) (7#64) (1#64) ((enOf h).m >>> 3)) 3#64 1#64 0#64) (11#64) (2#64) (BitVec.signExtend 64 ((enOf h).p)), md := (enOf h).md, mi := (enOf h).mi, mc := BitVec.signExtend 64 cause, sc := (enOf h).sc, mt := value, st := (enOf h).st, w := false })))
       none))
 (cond (g_capops_Move (v_trap_open ((enOf h).mtcc)) (((enOf h).mtcc).ad &&& 18446744073709551612#64))
 (some (enR h.segs ({ pcc := v_capops_Move (v_trap_open ((enOf h).mtcc)) (((enOf h).mtcc).ad &&& 18446744073709551612#64), sepcc := (enOf h).sepcc, mepcc := (enOf h).pcc, stcc := (enOf h).stcc, mtcc := (enOf h).mtcc, p := 3#64, m := v_trap_lay (v_trap_lay (v_trap_lay ((enOf h).m) (7#64) (1#64) ((enOf h).m >>> 3)) 3#64 1#64 0#64) (11#64) (2#64) (BitVec.signExtend 64 ((enOf h).p)), md := (enOf h).md, mi := (enOf h).mi, mc := BitVec.signExtend 64 cause, sc := (enOf h).sc, mt := value, st := (enOf h).st, w := false })))
      none)))
   none)
 (cond (intr)
 (cond (((enOf h).mtcc).ad &&& 1#64 == 1#64)
 (cond (g_capops_Move (v_trap_open ((enOf h).mtcc)) ((((enOf h).mtcc).ad &&& 18446744073709551612#64) + 4#64 * BitVec.signExtend 64 cause))
 (some (enR h.segs ({ pcc := v_capops_Move (v_trap_open ((enOf h).mtcc)) ((((enOf h).mtcc).ad &&& 18446744073709551612#64) + 4#64 * BitVec.signExtend 64 cause), sepcc := (enOf h).sepcc, mepcc := (enOf h).pcc, stcc := (enOf h).stcc, mtcc := (enOf h).mtcc, p := 3#64, m := v_trap_lay (v_trap_lay (v_trap_lay ((enOf h).m) (7#64) (1#64) ((enOf h).m >>> 3)) 3#64 1#64 0#64) (11#64) (2#64) (BitVec.signExtend 64 ((enOf h).p)), md := (enOf h).md, mi := (enOf h).mi, mc := BitVec.signExtend 64 cause, sc := (enOf h).sc, mt := value, st := (enOf h).st, w := false })))
     none)
 (cond (g_capops_Move (v_trap_open ((enOf h).mtcc)) (((enOf h).mtcc).ad &&& 18446744073709551612#64))
 (some (enR h.segs ({ pcc := v_capops_Move (v_trap_open ((enOf h).mtcc)) (((enOf h).mtcc).ad &&& 18446744073709551612#64), sepcc := (enOf h).sepcc, mepcc := (enOf h).pcc, stcc := (enOf h).stcc, mtcc := (enOf h).mtcc, p := 3#64, m := v_trap_lay (v_trap_lay (v_trap_lay ((enOf h).m) (7#64) (1#64) ((enOf h).m >>> 3)) 3#64 1#64 0#64) (11#64) (2#64) (BitVec.signExtend 64 ((enOf h).p)), md := (enOf h).md, mi := (enOf h).mi, mc := BitVec.signExtend 64 cause, sc := (enOf h).sc, mt := value, st := (enOf h).st, w := false })))
     none))
 (cond (g_capops_Move (v_trap_open ((enOf h).mtcc)) (((enOf h).mtcc).ad &&& 18446744073709551612#64))
 (some (enR h.segs ({ pcc := v_capops_Move (v_trap_open ((enOf h).mtcc)) (((enOf h).mtcc).ad &&& 18446744073709551612#64), sepcc := (enOf h).sepcc, mepcc := (enOf h).pcc, stcc := (enOf h).stcc, mtcc := (enOf h).mtcc, p := 3#64, m := v_trap_lay (v_trap_lay (v_trap_lay ((enOf h).m) (7#64) (1#64) ((enOf h).m >>> 3)) 3#64 1#64 0#64) (11#64) (2#64) (BitVec.signExtend 64 ((enOf h).p)), md := (enOf h).md, mi := (enOf h).mi, mc := BitVec.signExtend 64 cause, sc := (enOf h).sc, mt := value, st := (enOf h).st, w := false })))
    none)))) by kernel_rfl).trans (by
    delta g_trap_Enter v_trap_Enter
    exact (merGQ (enR h.segs) (merGQ (enR h.segs) (merRQ (enR h.segs) (merGQ (enR h.segs) (merGQ (enR h.segs) (merGQ (enR h.segs) (merRQ (enR h.segs) rfl) (merRQ (enR h.segs) rfl)) (merRQ (enR h.segs) rfl)) (merGQ (enR h.segs) (merGQ (enR h.segs) (merRQ (enR h.segs) rfl) (merRQ (enR h.segs) rfl)) (merRQ (enR h.segs) rfl)))) (merGQ (enR h.segs) (merGQ (enR h.segs) (merRQ (enR h.segs) rfl) (merRQ (enR h.segs) rfl)) (merRQ (enR h.segs) rfl))) (merGQ (enR h.segs) (merRQ (enR h.segs) (merGQ (enR h.segs) (merGQ (enR h.segs) (merGQ (enR h.segs) (merRQ (enR h.segs) rfl) (merRQ (enR h.segs) rfl)) (merRQ (enR h.segs) rfl)) (merGQ (enR h.segs) (merGQ (enR h.segs) (merRQ (enR h.segs) rfl) (merRQ (enR h.segs) rfl)) (merRQ (enR h.segs) rfl)))) (merGQ (enR h.segs) (merGQ (enR h.segs) (merRQ (enR h.segs) rfl) (merRQ (enR h.segs) rfl)) (merRQ (enR h.segs) rfl)))))
noncomputable def C_11 : Oracle := stGE 11 (sHt3 g_trap_Enter v_trap_Enter) (C_26)
theorem C_11_snd : Snd Try.prog C_11 := stGE_snd (stOK_of (F := F11) (C_26_snd) Try.func11 (by kernel_rfl) (sHt3_ok run_11)) (C_26_snd)

/- ravelin/capenc.Number -/
def F27 : Cfg := { F := 400, roots := [0, 1], fl := ⟨true, false⟩ }
theorem run_27 : ∀ (n : BitVec 64), pureRun Try.prog C_11 F27 Try.f27 [.int .u64 n] = some ((v_capenc_Number n).av) := fun n =>
 (show pureRun Try.prog C_11 F27 Try.f27 [.int .u64 n] = (some (AV.agg [(AV.bool (false)), (AV.int (IntKind.i64) (0#64)), (AV.int (IntKind.i64) (262143#64)), (AV.int (IntKind.i64) (0#64)), (AV.int (IntKind.i64) (52#64)), (AV.int (IntKind.i64) (0#64)), (AV.int (IntKind.i64) (0#64)), (AV.bool (true)), (AV.int (IntKind.u64) (n))])) by kernel_rfl).trans (rfl)
noncomputable def C_27 : Oracle := pureE 27 (pure1 dU64 (fun n => (v_capenc_Number n).av)) (C_11)
theorem C_27_snd : Snd Try.prog C_27 := pureE_snd (pure1_ok (F := F27) (C_11_snd) Try.func27 (by kernel_rfl) run_27 (fun _ => rfl)) (C_11_snd)

/- ravelin/capenc.Root -/
def F13 : Cfg := { F := 400, roots := [0, 1, 2, 3], fl := ⟨true, false⟩ }
theorem run_13 : ∀ (mode : BitVec 64) (xat : BitVec 64), pureRun Try.prog C_27 F13 Try.f13 [.int .i64 mode, .int .u64 xat] = some ((v_capenc_Root mode xat).av) := fun mode xat =>
 (show pureRun Try.prog C_27 F13 Try.f13 [.int .i64 mode, .int .u64 xat] = (cond (mode == 1#64)
 (some (AV.agg [(AV.bool (true)), (AV.int (IntKind.i64) (65535#64)), (AV.int (IntKind.i64) ((v_capenc_Number xat).ty)), (AV.int (IntKind.i64) (1#64)), (AV.int (IntKind.i64) ((v_capenc_Number xat).e)), (AV.int (IntKind.i64) ((v_capenc_Number xat).b)), (AV.int (IntKind.i64) ((v_capenc_Number xat).t)), (AV.bool ((v_capenc_Number xat).big)), (AV.int (IntKind.u64) ((v_capenc_Number xat).ad))]))
 (some (AV.agg [(AV.bool (true)), (AV.int (IntKind.i64) (65535#64)), (AV.int (IntKind.i64) ((v_capenc_Number xat).ty)), (AV.int (IntKind.i64) ((v_capenc_Number xat).mo)), (AV.int (IntKind.i64) ((v_capenc_Number xat).e)), (AV.int (IntKind.i64) ((v_capenc_Number xat).b)), (AV.int (IntKind.i64) ((v_capenc_Number xat).t)), (AV.bool ((v_capenc_Number xat).big)), (AV.int (IntKind.u64) ((v_capenc_Number xat).ad))]))) by kernel_rfl).trans (by
    delta v_capenc_Root
    refine (mer _ (Cp.av) ?_ ?_)
    all_goals (try delta Cp.av)
    all_goals (try delta Rg.av)
    all_goals (try delta W2.av)
    all_goals (try delta Tr.av)
    all_goals (try delta Qu.av)
    all_goals first | with_reducible rfl | rfl)
noncomputable def C_13 : Oracle := pureE 13 (pure2 dI64 dU64 (fun mode xat => (v_capenc_Root mode xat).av)) (C_27)
theorem C_13_snd : Snd Try.prog C_13 := pureE_snd (pure2_ok (F := F13) (C_27_snd) Try.func13 (by kernel_rfl) run_13 (fun _ _ => rfl)) (C_27_snd)

/- ravelin/ravelinlaw19.known -/
def F12 : Cfg := { F := 400, roots := [0, 1], fl := ⟨true, false⟩ }
theorem run_12 : pureRun Try.prog C_13 F12 Try.f12 [] = some (.bool v_l19_known) := (show pureRun Try.prog C_13 F12 Try.f12 [] = (some (AV.bool (true))) by kernel_rfl).trans (rfl)
noncomputable def C_12 : Oracle := pureE 12 (pure0  (.bool v_l19_known)) (C_13)
theorem C_12_snd : Snd Try.prog C_12 := pureE_snd (pure0_ok (F := F12) (C_13_snd) Try.func12 (by kernel_rfl) run_12 rfl) (C_13_snd)

/- ravelin/ravelinlaw19.TrapDelegates -/
def F3 : Cfg := { F := 400, roots := [0, 1, 2, 3, 4, 5, 6, 7], fl := ⟨true, false⟩ }
theorem run_3 : ∀ (h : Ht) (cause : BitVec 64) (interrupt : Bool), pureRun Try.prog C_12 F3 Try.f3 [h.av, .int .i64 cause, .bool interrupt] = t_l19_TrapDelegates h cause interrupt := fun h cause interrupt =>
  by kernel_rfl
theorem snd_3 : Snd Try.prog (C_12) := C_12_snd

/- ravelin/trap.Leave -/
def F15 : Cfg := { F := 400, roots := [0, 1, 2], fl := ⟨true, false⟩ }
theorem run_15 : ∀ (h : Ht) (super : Bool), stRun Try.prog (C_12) F15 Try.f15 [.ptr ⟨0, 0, 0, 0, 0⟩, .bool super] [(0, ⟨true, h.segs⟩)] = cond (g_trap_Leave (enOf h) super) (some (enR h.segs (v_trap_Leave (enOf h) super))) none := fun h super =>
 (show _ = (cond (super)
 (cond (!BitVec.setWidth 64 ((enOf h).m >>> 8 &&& 1#64) == 3#64)
 (cond (g_capops_Move (v_trap_open ((enOf h).sepcc)) (((enOf h).sepcc).ad &&& 18446744073709551614#64))
 (some (enR h.segs ({ pcc := v_capops_Move (v_trap_open ((enOf h).sepcc)) (((enOf h).sepcc).ad &&& 18446744073709551614#64), sepcc := (enOf h).sepcc, mepcc := (enOf h).mepcc, stcc := (enOf h).stcc, mtcc := (enOf h).mtcc, p := BitVec.setWidth 64 ((enOf h).m >>> 8 &&& 1#64), m := v_trap_lay (v_trap_lay (v_trap_lay ((enOf h).m) (1#64) (1#64) ((enOf h).m >>> 5)) 5#64 1#64 1#64) 8#64 1#64 0#64 &&& 18446744073709420543#64, md := (enOf h).md, mi := (enOf h).mi, mc := (enOf h).mc, sc := (enOf h).sc, mt := (enOf h).mt, st := (enOf h).st, w := (enOf h).w })))
   none)
 (cond (g_capops_Move (v_trap_open ((enOf h).sepcc)) (((enOf h).sepcc).ad &&& 18446744073709551614#64))
 (some (enR h.segs ({ pcc := v_capops_Move (v_trap_open ((enOf h).sepcc)) (((enOf h).sepcc).ad &&& 18446744073709551614#64), sepcc := (enOf h).sepcc, mepcc := (enOf h).mepcc, stcc := (enOf h).stcc, mtcc := (enOf h).mtcc, p := BitVec.setWidth 64 ((enOf h).m >>> 8 &&& 1#64), m := v_trap_lay (v_trap_lay (v_trap_lay ((enOf h).m) (1#64) (1#64) ((enOf h).m >>> 5)) 5#64 1#64 1#64) 8#64 1#64 0#64, md := (enOf h).md, mi := (enOf h).mi, mc := (enOf h).mc, sc := (enOf h).sc, mt := (enOf h).mt, st := (enOf h).st, w := (enOf h).w })))
   none))
 (cond (!BitVec.setWidth 64 ((enOf h).m >>> 11 &&& 3#64) == 3#64)
 (cond (g_capops_Move (v_trap_open ((enOf h).mepcc)) (((enOf h).mepcc).ad &&& 18446744073709551614#64))
 (some (enR h.segs ({ pcc := v_capops_Move (v_trap_open ((enOf h).mepcc)) (((enOf h).mepcc).ad &&& 18446744073709551614#64), sepcc := (enOf h).sepcc, mepcc := (enOf h).mepcc, stcc := (enOf h).stcc, mtcc := (enOf h).mtcc, p := BitVec.setWidth 64 ((enOf h).m >>> 11 &&& 3#64), m := v_trap_lay (v_trap_lay (v_trap_lay ((enOf h).m) (3#64) (1#64) ((enOf h).m >>> 7)) 7#64 1#64 1#64) 11#64 2#64 0#64 &&& 18446744073709420543#64, md := (enOf h).md, mi := (enOf h).mi, mc := (enOf h).mc, sc := (enOf h).sc, mt := (enOf h).mt, st := (enOf h).st, w := (enOf h).w })))
   none)
 (cond (g_capops_Move (v_trap_open ((enOf h).mepcc)) (((enOf h).mepcc).ad &&& 18446744073709551614#64))
 (some (enR h.segs ({ pcc := v_capops_Move (v_trap_open ((enOf h).mepcc)) (((enOf h).mepcc).ad &&& 18446744073709551614#64), sepcc := (enOf h).sepcc, mepcc := (enOf h).mepcc, stcc := (enOf h).stcc, mtcc := (enOf h).mtcc, p := BitVec.setWidth 64 ((enOf h).m >>> 11 &&& 3#64), m := v_trap_lay (v_trap_lay (v_trap_lay ((enOf h).m) (3#64) (1#64) ((enOf h).m >>> 7)) 7#64 1#64 1#64) 11#64 2#64 0#64, md := (enOf h).md, mi := (enOf h).mi, mc := (enOf h).mc, sc := (enOf h).sc, mt := (enOf h).mt, st := (enOf h).st, w := (enOf h).w })))
   none))) by kernel_rfl).trans (by
    delta g_trap_Leave v_trap_Leave
    exact (merGQ (enR h.segs) (merGQ (enR h.segs) (merRQ (enR h.segs) rfl) (merRQ (enR h.segs) rfl)) (merGQ (enR h.segs) (merRQ (enR h.segs) rfl) (merRQ (enR h.segs) rfl))))
noncomputable def C_15 : Oracle := stGE 15 (sHt1 g_trap_Leave v_trap_Leave) (C_12)
theorem C_15_snd : Snd Try.prog C_15 := stGE_snd (stOK_of (F := F15) (C_12_snd) Try.func15 (by kernel_rfl) (sHt1_ok run_15)) (C_12_snd)

/- ravelin/ravelinlaw19.TrapBack -/
def F5 : Cfg := { F := 400, roots := [0, 1, 2, 3, 4, 5, 6, 7], fl := ⟨true, false⟩ }
theorem run_5 : ∀ (h : Ht) (cause : BitVec 64) (interrupt : Bool) (value : BitVec 64), pureRun Try.prog C_15 F5 Try.f5 [h.av, .int .i64 cause, .bool interrupt, .int .u64 value] = t_l19_TrapBack h cause interrupt value := fun h cause interrupt value =>
  by kernel_rfl
theorem snd_5 : Snd Try.prog (C_15) := C_15_snd

/- ravelin/ravelinlaw19.of -/
def F16 : Cfg := { F := 400, roots := [0, 1, 2], fl := ⟨true, false⟩ }
theorem run_16 : ∀ (c : Cp) (xfrom : Cp), pureRun Try.prog C_15 F16 Try.f16 [c.av, xfrom.av] = cond (g_l19_of c xfrom) (some (.bool (v_l19_of c xfrom))) none := fun c xfrom =>
 (show pureRun Try.prog C_15 F16 Try.f16 [c.av, xfrom.av] = (cond (!c.tag)
 (some (AV.bool (true)))
 (cond (xfrom.tag)
 (cond (c.ty == 262143#64)
 (cond ((262142#64).sle xfrom.ty)
 (cond (c.per == xfrom.per)
 (cond (c.mo == xfrom.mo)
 (cond (g_bounds_Of c)
 (cond (g_bounds_Of xfrom)
 (some (AV.bool ((v_bounds_Of c).base == (v_bounds_Of xfrom).base && ((v_bounds_Of c).top == (v_bounds_Of xfrom).top && ((v_bounds_Of c).over == (v_bounds_Of xfrom).over && true)))))
        none)
       none)
 (some (AV.bool (false))))
 (some (AV.bool (false))))
 (some (AV.bool (false))))
 (some (AV.bool (false))))
 (some (AV.bool (false))))) by kernel_rfl).trans ((merG _ (fun p => .bool p) rfl (merG _ (fun p => .bool p) (merG _ (fun p => .bool p) (merG _ (fun p => .bool p) (merG _ (fun p => .bool p) (merG _ (fun p => .bool p) (merR _ (fun p => .bool p) (merR _ (fun p => .bool p) rfl)) rfl) rfl) rfl) rfl) rfl)))
noncomputable def C_16 : Oracle := pureGE 16 (pure2 dCp dCp (fun c xfrom => .tup [.bool (g_l19_of c xfrom), .bool (v_l19_of c xfrom)])) (C_15)
theorem C_16_snd : Snd Try.prog C_16 := pureGE_snd (pure2_gok (F := F16) (C_15_snd) Try.func16 (by kernel_rfl) run_16 (fun _ _ => rfl)) (C_15_snd)

/- ravelin/ravelinlaw19.TrapMoves -/
def F6 : Cfg := { F := 400, roots := [0, 1, 2, 3, 4, 5, 6, 7], fl := ⟨true, false⟩ }
theorem run_6 : ∀ (h : Ht) (cause : BitVec 64) (interrupt : Bool) (super : Bool), pureRun Try.prog C_16 F6 Try.f6 [h.av, .int .i64 cause, .bool interrupt, .bool super] = t_l19_TrapMoves h cause interrupt super := fun h cause interrupt super =>
  by kernel_rfl
theorem snd_6 : Snd Try.prog (C_16) := C_16_snd

/- ravelin/ravelinlaw19.TrapBits -/
def F7 : Cfg := { F := 400, roots := [0, 1, 2, 3, 4, 5, 6, 7], fl := ⟨true, false⟩ }
theorem run_7 : ∀ (h : Ht) (cause : BitVec 64) (interrupt : Bool) (super : Bool), pureRun Try.prog C_16 F7 Try.f7 [h.av, .int .i64 cause, .bool interrupt, .bool super] = t_l19_TrapBits h cause interrupt super := fun h cause interrupt super =>
  by kernel_rfl
theorem snd_7 : Snd Try.prog (C_16) := C_16_snd

/- ravelin/trap.May -/
def F14 : Cfg := { F := 400, roots := [0, 1, 2, 3, 4], fl := ⟨true, false⟩ }
theorem run_14 : ∀ (h : Ht) (super : Bool) (raw : BitVec 32), stRun Try.prog (C_16) F14 Try.f14 [.ptr ⟨0, 0, 0, 0, 0⟩, .bool super, .int .u32 raw] [(0, ⟨true, h.segs⟩)] = some ((v_trap_May (enOf h) super raw).av, [(0, some ⟨true, h.segs⟩)], 1) := fun h super raw =>
 (show _ = (cond (super)
(cond (((enOf h).p).slt 1#64)
(some ((AV.agg [(AV.bool (true)), (AV.int (IntKind.i64) (2#64)), (AV.int (IntKind.u64) (BitVec.setWidth 64 raw))]), ([(0, some ⟨true, h.segs⟩)] : Eff), (1 : Nat)))
(cond ((enOf h).p == 1#64)
(cond (!(enOf h).m &&& 4194304#64 == 0#64)
(some ((AV.agg [(AV.bool (true)), (AV.int (IntKind.i64) (2#64)), (AV.int (IntKind.u64) (BitVec.setWidth 64 raw))]), ([(0, some ⟨true, h.segs⟩)] : Eff), (1 : Nat)))
(cond (((enOf h).pcc).per &&& 512#64 == 0#64)
(some ((AV.agg [(AV.bool (true)), (AV.int (IntKind.i64) (28#64)), (AV.int (IntKind.u64) (1048#64))]), ([(0, some ⟨true, h.segs⟩)] : Eff), (1 : Nat)))
(some ((AV.agg [(AV.bool (false)), (AV.int (IntKind.i64) (0#64)), (AV.int (IntKind.u64) (0#64))]), ([(0, some ⟨true, h.segs⟩)] : Eff), (1 : Nat)))))
(cond (((enOf h).pcc).per &&& 512#64 == 0#64)
(some ((AV.agg [(AV.bool (true)), (AV.int (IntKind.i64) (28#64)), (AV.int (IntKind.u64) (1048#64))]), ([(0, some ⟨true, h.segs⟩)] : Eff), (1 : Nat)))
(some ((AV.agg [(AV.bool (false)), (AV.int (IntKind.i64) (0#64)), (AV.int (IntKind.u64) (0#64))]), ([(0, some ⟨true, h.segs⟩)] : Eff), (1 : Nat))))))
(cond (((enOf h).p).slt 3#64)
(some ((AV.agg [(AV.bool (true)), (AV.int (IntKind.i64) (2#64)), (AV.int (IntKind.u64) (BitVec.setWidth 64 raw))]), ([(0, some ⟨true, h.segs⟩)] : Eff), (1 : Nat)))
(cond (((enOf h).pcc).per &&& 512#64 == 0#64)
(some ((AV.agg [(AV.bool (true)), (AV.int (IntKind.i64) (28#64)), (AV.int (IntKind.u64) (1048#64))]), ([(0, some ⟨true, h.segs⟩)] : Eff), (1 : Nat)))
(some ((AV.agg [(AV.bool (false)), (AV.int (IntKind.i64) (0#64)), (AV.int (IntKind.u64) (0#64))]), ([(0, some ⟨true, h.segs⟩)] : Eff), (1 : Nat)))))) by kernel_rfl).trans (by
    delta v_trap_May
    exact (merQ (fun (z : Tr) => (z.av, ([(0, some ⟨true, h.segs⟩)] : Eff), (1 : Nat))) (merQ (fun (z : Tr) => (z.av, ([(0, some ⟨true, h.segs⟩)] : Eff), (1 : Nat))) rfl (merQ (fun (z : Tr) => (z.av, ([(0, some ⟨true, h.segs⟩)] : Eff), (1 : Nat))) (merQ (fun (z : Tr) => (z.av, ([(0, some ⟨true, h.segs⟩)] : Eff), (1 : Nat))) rfl (merQ (fun (z : Tr) => (z.av, ([(0, some ⟨true, h.segs⟩)] : Eff), (1 : Nat))) rfl rfl)) (merQ (fun (z : Tr) => (z.av, ([(0, some ⟨true, h.segs⟩)] : Eff), (1 : Nat))) rfl rfl))) (merQ (fun (z : Tr) => (z.av, ([(0, some ⟨true, h.segs⟩)] : Eff), (1 : Nat))) rfl (merQ (fun (z : Tr) => (z.av, ([(0, some ⟨true, h.segs⟩)] : Eff), (1 : Nat))) rfl rfl))))
noncomputable def C_14 : Oracle := stGE 14 (sHtM v_trap_May) (inlE Try.prog 14 Try.f14 F14 C_16 (C_16))
theorem C_14_snd : Snd Try.prog C_14 := stGE_snd (stOK_of (F := F14) (C_16_snd) Try.func14 (by kernel_rfl) (sHtM_ok run_14)) (inlE_snd Try.func14 (by kernel_rfl) C_16_snd C_16_snd)

/- ravelin/ravelinlaw19.TrapKnown -/
def F4 : Cfg := { F := 400, roots := [0, 1, 2, 3, 4, 5, 6, 7, 8, 9], fl := ⟨true, false⟩ }
theorem run_4 : pureRun Try.prog C_14 F4 Try.f4 [] = t_l19_TrapKnown  :=  by kernel_rfl
theorem snd_4 : Snd Try.prog (C_14) := C_14_snd

/- ravelin/ravelinref19.Bit -/
def F29 : Cfg := { F := 400, roots := [0, 1, 2], fl := ⟨true, false⟩ }
theorem run_29 : ∀ (v : BitVec 64) (xi : BitVec 64), pureRun Try.prog C_14 F29 Try.f29 [.int .u64 v, .int .i64 xi] = some (.int .u64 (v_r19_Bit v xi)) := fun v xi =>
 (show pureRun Try.prog C_14 F29 Try.f29 [.int .u64 v, .int .i64 xi] = (some (AV.int (IntKind.u64) (v >>> min (BitVec.signExtend 64 xi).toNat 64 % 2#64))) by kernel_rfl).trans (rfl)
noncomputable def C_29 : Oracle := pureE 29 (pure2 dU64 dI64 (fun v xi => .int .u64 (v_r19_Bit v xi))) (C_14)
theorem C_29_snd : Snd Try.prog C_29 := pureE_snd (pure2_ok (F := F29) (C_14_snd) Try.func29 (by kernel_rfl) run_29 (fun _ _ => rfl)) (C_14_snd)

/- ravelin/ravelinref17.Illegal -/
def F30 : Cfg := { F := 400, roots := [0, 1], fl := ⟨true, false⟩ }
theorem run_30 : ∀ (raw : BitVec 32), pureRun Try.prog C_29 F30 Try.f30 [.int .u32 raw] = some ((v_r17_Illegal raw).av) := fun raw =>
 (show pureRun Try.prog C_29 F30 Try.f30 [.int .u32 raw] = (some (AV.agg [(AV.bool (true)), (AV.int (IntKind.i64) (2#64)), (AV.int (IntKind.u64) (BitVec.setWidth 64 raw))])) by kernel_rfl).trans (rfl)
noncomputable def C_30 : Oracle := pureE 30 (pure1 dU32 (fun raw => (v_r17_Illegal raw).av)) (C_29)
theorem C_30_snd : Snd Try.prog C_30 := pureE_snd (pure1_ok (F := F30) (C_29_snd) Try.func30 (by kernel_rfl) run_30 (fun _ => rfl)) (C_29_snd)

/- ravelin/ravelinref17.System -/
def F31 : Cfg := { F := 400, roots := [0], fl := ⟨true, false⟩ }
theorem run_31 : pureRun Try.prog C_30 F31 Try.f31 [] = some (v_r17_System.av) := (show pureRun Try.prog C_30 F31 Try.f31 [] = (some (AV.agg [(AV.bool (true)), (AV.int (IntKind.i64) (28#64)), (AV.int (IntKind.u64) (1048#64))])) by kernel_rfl).trans (rfl)
noncomputable def C_31 : Oracle := pureE 31 (pure0  (v_r17_System.av)) (C_30)
theorem C_31_snd : Snd Try.prog C_31 := pureE_snd (pure0_ok (F := F31) (C_30_snd) Try.func31 (by kernel_rfl) run_31 rfl) (C_30_snd)

/- ravelin/ravelinref19.May -/
def F17 : Cfg := { F := 400, roots := [0, 1, 2, 3], fl := ⟨true, false⟩ }
theorem run_17 : ∀ (h : Ht) (super : Bool) (raw : BitVec 32), stRun Try.prog (C_31) F17 Try.f17 [.ptr ⟨0, 0, 0, 0, 0⟩, .bool super, .int .u32 raw] [(0, ⟨true, h.segs⟩)] = some ((v_r19_May (enOf h) super raw).av, [(0, some ⟨true, h.segs⟩)], 1) := fun h super raw =>
 (show _ = (cond (!super)
(cond (!(enOf h).p == 3#64)
(some ((AV.agg [(AV.bool ((v_r17_Illegal raw).is)), (AV.int (IntKind.i64) ((v_r17_Illegal raw).cause)), (AV.int (IntKind.u64) ((v_r17_Illegal raw).val))]), ([(0, some ⟨true, h.segs⟩)] : Eff), (1 : Nat)))
(cond (super)
(cond ((enOf h).p == 0#64)
(some ((AV.agg [(AV.bool ((v_r17_Illegal raw).is)), (AV.int (IntKind.i64) ((v_r17_Illegal raw).cause)), (AV.int (IntKind.u64) ((v_r17_Illegal raw).val))]), ([(0, some ⟨true, h.segs⟩)] : Eff), (1 : Nat)))
(cond ((enOf h).p == 1#64)
(cond (v_r19_Bit ((enOf h).m) 22#64 == 1#64)
(some ((AV.agg [(AV.bool ((v_r17_Illegal raw).is)), (AV.int (IntKind.i64) ((v_r17_Illegal raw).cause)), (AV.int (IntKind.u64) ((v_r17_Illegal raw).val))]), ([(0, some ⟨true, h.segs⟩)] : Eff), (1 : Nat)))
(cond (((enOf h).pcc).per &&& 512#64 == 0#64)
(some ((AV.agg [(AV.bool (true)), (AV.int (IntKind.i64) (28#64)), (AV.int (IntKind.u64) (1048#64))]), ([(0, some ⟨true, h.segs⟩)] : Eff), (1 : Nat)))
(some ((AV.agg [(AV.bool (false)), (AV.int (IntKind.i64) (0#64)), (AV.int (IntKind.u64) (0#64))]), ([(0, some ⟨true, h.segs⟩)] : Eff), (1 : Nat)))))
(cond (((enOf h).pcc).per &&& 512#64 == 0#64)
(some ((AV.agg [(AV.bool (true)), (AV.int (IntKind.i64) (28#64)), (AV.int (IntKind.u64) (1048#64))]), ([(0, some ⟨true, h.segs⟩)] : Eff), (1 : Nat)))
(some ((AV.agg [(AV.bool (false)), (AV.int (IntKind.i64) (0#64)), (AV.int (IntKind.u64) (0#64))]), ([(0, some ⟨true, h.segs⟩)] : Eff), (1 : Nat))))))
(cond (((enOf h).pcc).per &&& 512#64 == 0#64)
(some ((AV.agg [(AV.bool (true)), (AV.int (IntKind.i64) (28#64)), (AV.int (IntKind.u64) (1048#64))]), ([(0, some ⟨true, h.segs⟩)] : Eff), (1 : Nat)))
(some ((AV.agg [(AV.bool (false)), (AV.int (IntKind.i64) (0#64)), (AV.int (IntKind.u64) (0#64))]), ([(0, some ⟨true, h.segs⟩)] : Eff), (1 : Nat))))))
(cond (super)
(cond ((enOf h).p == 0#64)
(some ((AV.agg [(AV.bool ((v_r17_Illegal raw).is)), (AV.int (IntKind.i64) ((v_r17_Illegal raw).cause)), (AV.int (IntKind.u64) ((v_r17_Illegal raw).val))]), ([(0, some ⟨true, h.segs⟩)] : Eff), (1 : Nat)))
(cond ((enOf h).p == 1#64)
(cond (v_r19_Bit ((enOf h).m) 22#64 == 1#64)
(some ((AV.agg [(AV.bool ((v_r17_Illegal raw).is)), (AV.int (IntKind.i64) ((v_r17_Illegal raw).cause)), (AV.int (IntKind.u64) ((v_r17_Illegal raw).val))]), ([(0, some ⟨true, h.segs⟩)] : Eff), (1 : Nat)))
(cond (((enOf h).pcc).per &&& 512#64 == 0#64)
(some ((AV.agg [(AV.bool (true)), (AV.int (IntKind.i64) (28#64)), (AV.int (IntKind.u64) (1048#64))]), ([(0, some ⟨true, h.segs⟩)] : Eff), (1 : Nat)))
(some ((AV.agg [(AV.bool (false)), (AV.int (IntKind.i64) (0#64)), (AV.int (IntKind.u64) (0#64))]), ([(0, some ⟨true, h.segs⟩)] : Eff), (1 : Nat)))))
(cond (((enOf h).pcc).per &&& 512#64 == 0#64)
(some ((AV.agg [(AV.bool (true)), (AV.int (IntKind.i64) (28#64)), (AV.int (IntKind.u64) (1048#64))]), ([(0, some ⟨true, h.segs⟩)] : Eff), (1 : Nat)))
(some ((AV.agg [(AV.bool (false)), (AV.int (IntKind.i64) (0#64)), (AV.int (IntKind.u64) (0#64))]), ([(0, some ⟨true, h.segs⟩)] : Eff), (1 : Nat))))))
(cond (((enOf h).pcc).per &&& 512#64 == 0#64)
(some ((AV.agg [(AV.bool (true)), (AV.int (IntKind.i64) (28#64)), (AV.int (IntKind.u64) (1048#64))]), ([(0, some ⟨true, h.segs⟩)] : Eff), (1 : Nat)))
(some ((AV.agg [(AV.bool (false)), (AV.int (IntKind.i64) (0#64)), (AV.int (IntKind.u64) (0#64))]), ([(0, some ⟨true, h.segs⟩)] : Eff), (1 : Nat)))))) by kernel_rfl).trans (by
    delta v_r19_May
    exact (merQ (fun (z : Tr) => (z.av, ([(0, some ⟨true, h.segs⟩)] : Eff), (1 : Nat))) (merQ (fun (z : Tr) => (z.av, ([(0, some ⟨true, h.segs⟩)] : Eff), (1 : Nat))) rfl (merQ (fun (z : Tr) => (z.av, ([(0, some ⟨true, h.segs⟩)] : Eff), (1 : Nat))) (merQ (fun (z : Tr) => (z.av, ([(0, some ⟨true, h.segs⟩)] : Eff), (1 : Nat))) rfl (merQ (fun (z : Tr) => (z.av, ([(0, some ⟨true, h.segs⟩)] : Eff), (1 : Nat))) (merQ (fun (z : Tr) => (z.av, ([(0, some ⟨true, h.segs⟩)] : Eff), (1 : Nat))) rfl (merQ (fun (z : Tr) => (z.av, ([(0, some ⟨true, h.segs⟩)] : Eff), (1 : Nat))) rfl rfl)) (merQ (fun (z : Tr) => (z.av, ([(0, some ⟨true, h.segs⟩)] : Eff), (1 : Nat))) rfl rfl))) (merQ (fun (z : Tr) => (z.av, ([(0, some ⟨true, h.segs⟩)] : Eff), (1 : Nat))) rfl rfl))) (merQ (fun (z : Tr) => (z.av, ([(0, some ⟨true, h.segs⟩)] : Eff), (1 : Nat))) (merQ (fun (z : Tr) => (z.av, ([(0, some ⟨true, h.segs⟩)] : Eff), (1 : Nat))) rfl (merQ (fun (z : Tr) => (z.av, ([(0, some ⟨true, h.segs⟩)] : Eff), (1 : Nat))) (merQ (fun (z : Tr) => (z.av, ([(0, some ⟨true, h.segs⟩)] : Eff), (1 : Nat))) rfl (merQ (fun (z : Tr) => (z.av, ([(0, some ⟨true, h.segs⟩)] : Eff), (1 : Nat))) rfl rfl)) (merQ (fun (z : Tr) => (z.av, ([(0, some ⟨true, h.segs⟩)] : Eff), (1 : Nat))) rfl rfl))) (merQ (fun (z : Tr) => (z.av, ([(0, some ⟨true, h.segs⟩)] : Eff), (1 : Nat))) rfl rfl))))
noncomputable def C_17 : Oracle := stGE 17 (sHtM v_r19_May) (inlE Try.prog 17 Try.f17 F17 C_31 (C_31))
theorem C_17_snd : Snd Try.prog C_17 := stGE_snd (stOK_of (F := F17) (C_31_snd) Try.func17 (by kernel_rfl) (sHtM_ok run_17)) (inlE_snd Try.func17 (by kernel_rfl) C_31_snd C_31_snd)

/- ravelin/ravelinref19.Put -/
def F32 : Cfg := { F := 400, roots := [0, 1, 2, 3], fl := ⟨true, false⟩ }
theorem run_32 : ∀ (v : BitVec 64) (xi : BitVec 64) (bit : BitVec 64), pureRun Try.prog C_17 F32 Try.f32 [.int .u64 v, .int .i64 xi, .int .u64 bit] = some (.int .u64 (v_r19_Put v xi bit)) := fun v xi bit =>
 (show pureRun Try.prog C_17 F32 Try.f32 [.int .u64 v, .int .i64 xi, .int .u64 bit] = (some (AV.int (IntKind.u64) (v &&& ~~~(1#64 <<< min (BitVec.signExtend 64 xi).toNat 64) ||| bit <<< min (BitVec.signExtend 64 xi).toNat 64))) by kernel_rfl).trans (rfl)
noncomputable def C_32 : Oracle := pureE 32 (pure3 dU64 dI64 dU64 (fun v xi bit => .int .u64 (v_r19_Put v xi bit))) (C_17)
theorem C_32_snd : Snd Try.prog C_32 := pureE_snd (pure3_ok (F := F32) (C_17_snd) Try.func32 (by kernel_rfl) run_32 (fun _ _ _ => rfl)) (C_17_snd)

/- ravelin/ravelinref05.Sealed -/
def F45 : Cfg := { F := 400, roots := [0, 1], fl := ⟨true, false⟩ }
theorem run_45 : ∀ (c : Cp), pureRun Try.prog C_32 F45 Try.f45 [c.av] = some (.bool (v_r05_Sealed c)) := fun c =>
 (show pureRun Try.prog C_32 F45 Try.f45 [c.av] = (some (AV.bool (!c.ty == 262143#64))) by kernel_rfl).trans (rfl)
noncomputable def C_45 : Oracle := pureE 45 (pure1 dCp (fun c => .bool (v_r05_Sealed c))) (C_32)
theorem C_45_snd : Snd Try.prog C_45 := pureE_snd (pure1_ok (F := F45) (C_32_snd) Try.func45 (by kernel_rfl) run_45 (fun _ => rfl)) (C_32_snd)

/- ravelin/ravelinref03.one -/
def F50 : Cfg := { F := 400, roots := [0, 1], fl := ⟨true, false⟩ }
theorem run_50 : ∀ (xis : Bool), pureRun Try.prog C_45 F50 Try.f50 [.bool xis] = some (.int .i64 (v_r03_one xis)) := fun xis =>
 (show pureRun Try.prog C_45 F50 Try.f50 [.bool xis] = (cond (xis)
 (some (AV.int (IntKind.i64) (1#64)))
 (some (AV.int (IntKind.i64) (0#64)))) by kernel_rfl).trans (by
    delta v_r03_one
    refine (mer _ (fun p => .int .i64 p) ?_ ?_)
    all_goals first | with_reducible rfl | rfl)
noncomputable def C_50 : Oracle := pureE 50 (pure1 dBool (fun xis => .int .i64 (v_r03_one xis))) (C_45)
theorem C_50_snd : Snd Try.prog C_50 := pureE_snd (pure1_ok (F := F50) (C_45_snd) Try.func50 (by kernel_rfl) run_50 (fun _ => rfl)) (C_45_snd)

/- ravelin/ravelinref03.part -/
def F51 : Cfg := { F := 400, roots := [0, 1, 2, 3], fl := ⟨true, false⟩ }
theorem run_51 : ∀ (a : BitVec 64) (step : BitVec 64), pureRun Try.prog C_50 F51 Try.f51 [.int .u64 a, .int .i64 step] = some ((fun (p : BitVec 64 × Bool) => .tup [.int .u64 (p.1), .bool (p.2)]) (v_r03_part a step)) := fun a step =>
 (show pureRun Try.prog C_50 F51 Try.f51 [.int .u64 a, .int .i64 step] = (cond (step.slt 0#64)
 (some (AV.tup [(AV.int (IntKind.u64) (a - 1#64)), (AV.bool (a == 0#64))]))
 (some (AV.tup [(AV.int (IntKind.u64) (a + BitVec.signExtend 64 step)), (AV.bool (false))]))) by kernel_rfl).trans (by
    delta v_r03_part
    refine (mer _ (fun (p : BitVec 64 × Bool) => .tup [.int .u64 (p.1), .bool (p.2)]) ?_ ?_)
    all_goals first | with_reducible rfl | rfl)
noncomputable def C_51 : Oracle := pureE 51 (pure2 dU64 dI64 (fun a step => (fun (p : BitVec 64 × Bool) => .tup [.int .u64 (p.1), .bool (p.2)]) (v_r03_part a step))) (C_50)
theorem C_51_snd : Snd Try.prog C_51 := pureE_snd (pure2_ok (F := F51) (C_50_snd) Try.func51 (by kernel_rfl) run_51 (fun _ _ => rfl)) (C_50_snd)

/- ravelin/ravelinref03.add -/
def F52 : Cfg := { F := 400, roots := [0, 1, 2, 3, 4], fl := ⟨true, false⟩ }
theorem run_52 : ∀ (a : W2) (xb : W2), pureRun Try.prog C_51 F52 Try.f52 [a.av, xb.av] = some ((v_r03_add a xb).av) := fun a xb =>
 (show pureRun Try.prog C_51 F52 Try.f52 [a.av, xb.av] = (cond ((a.lo + xb.lo).ult a.lo)
 (some (AV.agg [(AV.int (IntKind.u64) ((a.hi + xb.hi + 1#64) % 2#64)), (AV.int (IntKind.u64) (a.lo + xb.lo))]))
 (some (AV.agg [(AV.int (IntKind.u64) ((a.hi + xb.hi) % 2#64)), (AV.int (IntKind.u64) (a.lo + xb.lo))]))) by kernel_rfl).trans (by
    delta v_r03_add
    refine (mer _ (W2.av) ?_ ?_)
    all_goals (try delta Cp.av)
    all_goals (try delta Rg.av)
    all_goals (try delta W2.av)
    all_goals (try delta Tr.av)
    all_goals (try delta Qu.av)
    all_goals first | with_reducible rfl | rfl)
noncomputable def C_52 : Oracle := pureE 52 (pure2 dW2 dW2 (fun a xb => (v_r03_add a xb).av)) (C_51)
theorem C_52_snd : Snd Try.prog C_52 := pureE_snd (pure2_ok (F := F52) (C_51_snd) Try.func52 (by kernel_rfl) run_52 (fun _ _ => rfl)) (C_51_snd)

def FI_53 : Cfg := { F := 400, roots := [] }
noncomputable def LC_53 : Code := loopIn 0 Try.f53

theorem nx_53 (x : UpS) : codeA Try.prog (C_52) (drawA Try.prog FI_53.fl Try.f53.ntmps (C_52)) FI_53 Try.f53.ntmps LC_53 (tmOf [2, 6, 7, 8] (upT x)) (hpOf [0, 1] (upH x)) 2 (nextK 2 FI_53.roots [2, 6, 7, 8] [0, 1]) = stepN upT upH 2 (upStep x) :=
 (show _ = cond (upC x) (some (upT (upNext x), (upH (upNext x)).map some, 2)) none by kernel_rfl).trans (by unfold upStep; cases upC x <;> rfl)
theorem ls_53 (x : UpS) : codeA Try.prog (C_52) (drawA Try.prog FI_53.fl Try.f53.ntmps (C_52)) FI_53 Try.f53.ntmps LC_53 (tmOf [2, 6, 7, 8] (upT x)) (hpOf [0, 1] (upH x)) 2 (lastK [2, 6, 7, 8] [0, 1]) = stepE (fun _ => .exit 0) upT upH (fun _ => 2) (upStep x) :=
 (show _ = cond (upC x) none (some (Out.exit 0, upT x, (upH x).map some, 2)) by kernel_rfl).trans (by unfold upStep; cases upC x <;> rfl)
noncomputable def LL_53 : LoopLaw Try.prog (C_52) Try.f53.ntmps (drawA Try.prog FI_53.fl Try.f53.ntmps (C_52)) FI_53 LC_53 UpS UpS :=
  { N0 := 2, kT := [2, 6, 7, 8], kH := [0, 1], vT := upT, vH := upH, kE := [2, 6, 7, 8], hE := [0, 1], eT := upT, eH := upH, eN := fun _ => 2, oE := fun _ => .exit 0, step := upStep, f := v_up_loop, m := upM,
    next := nx_53, last := ls_53, ends := fun _ h => (nomatch h), whole := up_whole }

/- ravelin/ravelinref03.up -/
noncomputable def F53 : Cfg := { F := 400, roots := [0, 1, 2, 3, 4, 5], fl := ⟨true, false⟩, laws := [(0, LL_53.handler 0 upDec)] }

theorem fok_53 : FOK Try.prog Try.f53 F53 :=
  fok_one (b := .block 0 (.loop LC_53)) rfl (by kernel_rfl) (LL_53.handler_snd (C_52_snd) (drawA_sound (C_52_snd)) laws_nil 0 upDec upDec_ok)
theorem run_53 : ∀ (v : BitVec 64) (below : Bool) (n : BitVec 64), pureRun Try.prog C_52 F53 Try.f53 [.int .u64 v, .bool below, .int .i64 n] = some ((v_r03_up v below n).av) := fun v below n =>
 (show pureRun Try.prog C_52 F53 Try.f53 [.int .u64 v, .bool below, .int .i64 n] = (cond (below)
 (some (AV.agg [(AV.int (IntKind.u64) ((v_up_loop { n := n, i := 0#64, za := 0#64, zb := 0#64, uh := 1#64, ul := v }).uh)), (AV.int (IntKind.u64) ((v_up_loop { n := n, i := 0#64, za := 0#64, zb := 0#64, uh := 1#64, ul := v }).ul))]))
 (some (AV.agg [(AV.int (IntKind.u64) ((v_up_loop { n := n, i := 0#64, za := 0#64, zb := 0#64, uh := 0#64, ul := v }).uh)), (AV.int (IntKind.u64) ((v_up_loop { n := n, i := 0#64, za := 0#64, zb := 0#64, uh := 0#64, ul := v }).ul))]))) by kernel_rfl).trans (by
    delta v_r03_up
    refine (mer _ (W2.av) ?_ ?_)
    all_goals (try delta Cp.av)
    all_goals (try delta Rg.av)
    all_goals (try delta W2.av)
    all_goals (try delta Tr.av)
    all_goals (try delta Qu.av)
    all_goals first | with_reducible rfl | rfl)
noncomputable def C_53 : Oracle := pureE 53 (pure3 dU64 dBool dI64 (fun v below n => (v_r03_up v below n).av)) (C_52)
theorem C_53_snd : Snd Try.prog C_53 := pureE_snd (pure3_ok (F := F53) (C_52_snd) Try.func53 (by kernel_rfl) run_53 (fun _ _ _ => rfl) (hF := fok_53)) (C_52_snd)

/- ravelin/ravelinref03.Of -/
def F49 : Cfg := { F := 400, roots := [0, 1, 2, 3, 4, 5, 6, 7, 8, 9, 10, 11, 12], fl := ⟨true, false⟩ }
theorem run_49 : ∀ (c : Cp), pureRun Try.prog C_53 F49 Try.f49 [c.av] = some ((v_r03_Of c).av) := fun c =>
 (show pureRun Try.prog C_53 F49 Try.f49 [c.av] = (cond ((c.e + 14#64).slt 64#64)
 (cond (c.e.slt 51#64)
 (cond ((1#64).ult ((2#64 * (v_r03_add (v_r03_up (v_r03_part (c.ad >>> min (BitVec.signExtend 64 (c.e + 14#64)).toNat 64) (v_r03_one ((c.t + (c.b.sdiv 4096#64 + v_r03_one (c.t.slt (c.b.srem 4096#64)) + v_r03_one c.big).srem 4#64 * 4096#64).slt ((c.b.sdiv 2048#64 + 7#64).srem 8#64 * 2048#64)) - v_r03_one ((BitVec.setWidth 64 (c.ad >>> min (BitVec.signExtend 64 c.e).toNat 64 % 16384#64)).slt ((c.b.sdiv 2048#64 + 7#64).srem 8#64 * 2048#64)))).fst (v_r03_part (c.ad >>> min (BitVec.signExtend 64 (c.e + 14#64)).toNat 64) (v_r03_one ((c.t + (c.b.sdiv 4096#64 + v_r03_one (c.t.slt (c.b.srem 4096#64)) + v_r03_one c.big).srem 4#64 * 4096#64).slt ((c.b.sdiv 2048#64 + 7#64).srem 8#64 * 2048#64)) - v_r03_one ((BitVec.setWidth 64 (c.ad >>> min (BitVec.signExtend 64 c.e).toNat 64 % 16384#64)).slt ((c.b.sdiv 2048#64 + 7#64).srem 8#64 * 2048#64)))).snd (c.e + 14#64)) (v_r03_up (BitVec.signExtend 64 (c.t + (c.b.sdiv 4096#64 + v_r03_one (c.t.slt (c.b.srem 4096#64)) + v_r03_one c.big).srem 4#64 * 4096#64)) false c.e)).hi + (v_r03_add (v_r03_up (v_r03_part (c.ad >>> min (BitVec.signExtend 64 (c.e + 14#64)).toNat 64) (v_r03_one ((c.t + (c.b.sdiv 4096#64 + v_r03_one (c.t.slt (c.b.srem 4096#64)) + v_r03_one c.big).srem 4#64 * 4096#64).slt ((c.b.sdiv 2048#64 + 7#64).srem 8#64 * 2048#64)) - v_r03_one ((BitVec.setWidth 64 (c.ad >>> min (BitVec.signExtend 64 c.e).toNat 64 % 16384#64)).slt ((c.b.sdiv 2048#64 + 7#64).srem 8#64 * 2048#64)))).fst (v_r03_part (c.ad >>> min (BitVec.signExtend 64 (c.e + 14#64)).toNat 64) (v_r03_one ((c.t + (c.b.sdiv 4096#64 + v_r03_one (c.t.slt (c.b.srem 4096#64)) + v_r03_one c.big).srem 4#64 * 4096#64).slt ((c.b.sdiv 2048#64 + 7#64).srem 8#64 * 2048#64)) - v_r03_one ((BitVec.setWidth 64 (c.ad >>> min (BitVec.signExtend 64 c.e).toNat 64 % 16384#64)).slt ((c.b.sdiv 2048#64 + 7#64).srem 8#64 * 2048#64)))).snd (c.e + 14#64)) (v_r03_up (BitVec.signExtend 64 (c.t + (c.b.sdiv 4096#64 + v_r03_one (c.t.slt (c.b.srem 4096#64)) + v_r03_one c.big).srem 4#64 * 4096#64)) false c.e)).lo >>> 63 + 4#64 - (v_r03_add (v_r03_up (v_r03_part (c.ad >>> min (BitVec.signExtend 64 (c.e + 14#64)).toNat 64) (v_r03_one (c.b.slt ((c.b.sdiv 2048#64 + 7#64).srem 8#64 * 2048#64)) - v_r03_one ((BitVec.setWidth 64 (c.ad >>> min (BitVec.signExtend 64 c.e).toNat 64 % 16384#64)).slt ((c.b.sdiv 2048#64 + 7#64).srem 8#64 * 2048#64)))).fst (v_r03_part (c.ad >>> min (BitVec.signExtend 64 (c.e + 14#64)).toNat 64) (v_r03_one (c.b.slt ((c.b.sdiv 2048#64 + 7#64).srem 8#64 * 2048#64)) - v_r03_one ((BitVec.setWidth 64 (c.ad >>> min (BitVec.signExtend 64 c.e).toNat 64 % 16384#64)).slt ((c.b.sdiv 2048#64 + 7#64).srem 8#64 * 2048#64)))).snd (c.e + 14#64)) (v_r03_up (BitVec.signExtend 64 c.b) false c.e)).lo >>> 63) % 4#64))
 (some (AV.agg [(AV.int (IntKind.u64) ((v_r03_add (v_r03_up (v_r03_part (c.ad >>> min (BitVec.signExtend 64 (c.e + 14#64)).toNat 64) (v_r03_one (c.b.slt ((c.b.sdiv 2048#64 + 7#64).srem 8#64 * 2048#64)) - v_r03_one ((BitVec.setWidth 64 (c.ad >>> min (BitVec.signExtend 64 c.e).toNat 64 % 16384#64)).slt ((c.b.sdiv 2048#64 + 7#64).srem 8#64 * 2048#64)))).fst (v_r03_part (c.ad >>> min (BitVec.signExtend 64 (c.e + 14#64)).toNat 64) (v_r03_one (c.b.slt ((c.b.sdiv 2048#64 + 7#64).srem 8#64 * 2048#64)) - v_r03_one ((BitVec.setWidth 64 (c.ad >>> min (BitVec.signExtend 64 c.e).toNat 64 % 16384#64)).slt ((c.b.sdiv 2048#64 + 7#64).srem 8#64 * 2048#64)))).snd (c.e + 14#64)) (v_r03_up (BitVec.signExtend 64 c.b) false c.e)).lo)), (AV.int (IntKind.u64) ((v_r03_add (v_r03_up (v_r03_part (c.ad >>> min (BitVec.signExtend 64 (c.e + 14#64)).toNat 64) (v_r03_one ((c.t + (c.b.sdiv 4096#64 + v_r03_one (c.t.slt (c.b.srem 4096#64)) + v_r03_one c.big).srem 4#64 * 4096#64).slt ((c.b.sdiv 2048#64 + 7#64).srem 8#64 * 2048#64)) - v_r03_one ((BitVec.setWidth 64 (c.ad >>> min (BitVec.signExtend 64 c.e).toNat 64 % 16384#64)).slt ((c.b.sdiv 2048#64 + 7#64).srem 8#64 * 2048#64)))).fst (v_r03_part (c.ad >>> min (BitVec.signExtend 64 (c.e + 14#64)).toNat 64) (v_r03_one ((c.t + (c.b.sdiv 4096#64 + v_r03_one (c.t.slt (c.b.srem 4096#64)) + v_r03_one c.big).srem 4#64 * 4096#64).slt ((c.b.sdiv 2048#64 + 7#64).srem 8#64 * 2048#64)) - v_r03_one ((BitVec.setWidth 64 (c.ad >>> min (BitVec.signExtend 64 c.e).toNat 64 % 16384#64)).slt ((c.b.sdiv 2048#64 + 7#64).srem 8#64 * 2048#64)))).snd (c.e + 14#64)) (v_r03_up (BitVec.signExtend 64 (c.t + (c.b.sdiv 4096#64 + v_r03_one (c.t.slt (c.b.srem 4096#64)) + v_r03_one c.big).srem 4#64 * 4096#64)) false c.e)).lo)), (AV.bool (1#64 - (v_r03_add (v_r03_up (v_r03_part (c.ad >>> min (BitVec.signExtend 64 (c.e + 14#64)).toNat 64) (v_r03_one ((c.t + (c.b.sdiv 4096#64 + v_r03_one (c.t.slt (c.b.srem 4096#64)) + v_r03_one c.big).srem 4#64 * 4096#64).slt ((c.b.sdiv 2048#64 + 7#64).srem 8#64 * 2048#64)) - v_r03_one ((BitVec.setWidth 64 (c.ad >>> min (BitVec.signExtend 64 c.e).toNat 64 % 16384#64)).slt ((c.b.sdiv 2048#64 + 7#64).srem 8#64 * 2048#64)))).fst (v_r03_part (c.ad >>> min (BitVec.signExtend 64 (c.e + 14#64)).toNat 64) (v_r03_one ((c.t + (c.b.sdiv 4096#64 + v_r03_one (c.t.slt (c.b.srem 4096#64)) + v_r03_one c.big).srem 4#64 * 4096#64).slt ((c.b.sdiv 2048#64 + 7#64).srem 8#64 * 2048#64)) - v_r03_one ((BitVec.setWidth 64 (c.ad >>> min (BitVec.signExtend 64 c.e).toNat 64 % 16384#64)).slt ((c.b.sdiv 2048#64 + 7#64).srem 8#64 * 2048#64)))).snd (c.e + 14#64)) (v_r03_up (BitVec.signExtend 64 (c.t + (c.b.sdiv 4096#64 + v_r03_one (c.t.slt (c.b.srem 4096#64)) + v_r03_one c.big).srem 4#64 * 4096#64)) false c.e)).hi == 1#64))]))
 (some (AV.agg [(AV.int (IntKind.u64) ((v_r03_add (v_r03_up (v_r03_part (c.ad >>> min (BitVec.signExtend 64 (c.e + 14#64)).toNat 64) (v_r03_one (c.b.slt ((c.b.sdiv 2048#64 + 7#64).srem 8#64 * 2048#64)) - v_r03_one ((BitVec.setWidth 64 (c.ad >>> min (BitVec.signExtend 64 c.e).toNat 64 % 16384#64)).slt ((c.b.sdiv 2048#64 + 7#64).srem 8#64 * 2048#64)))).fst (v_r03_part (c.ad >>> min (BitVec.signExtend 64 (c.e + 14#64)).toNat 64) (v_r03_one (c.b.slt ((c.b.sdiv 2048#64 + 7#64).srem 8#64 * 2048#64)) - v_r03_one ((BitVec.setWidth 64 (c.ad >>> min (BitVec.signExtend 64 c.e).toNat 64 % 16384#64)).slt ((c.b.sdiv 2048#64 + 7#64).srem 8#64 * 2048#64)))).snd (c.e + 14#64)) (v_r03_up (BitVec.signExtend 64 c.b) false c.e)).lo)), (AV.int (IntKind.u64) ((v_r03_add (v_r03_up (v_r03_part (c.ad >>> min (BitVec.signExtend 64 (c.e + 14#64)).toNat 64) (v_r03_one ((c.t + (c.b.sdiv 4096#64 + v_r03_one (c.t.slt (c.b.srem 4096#64)) + v_r03_one c.big).srem 4#64 * 4096#64).slt ((c.b.sdiv 2048#64 + 7#64).srem 8#64 * 2048#64)) - v_r03_one ((BitVec.setWidth 64 (c.ad >>> min (BitVec.signExtend 64 c.e).toNat 64 % 16384#64)).slt ((c.b.sdiv 2048#64 + 7#64).srem 8#64 * 2048#64)))).fst (v_r03_part (c.ad >>> min (BitVec.signExtend 64 (c.e + 14#64)).toNat 64) (v_r03_one ((c.t + (c.b.sdiv 4096#64 + v_r03_one (c.t.slt (c.b.srem 4096#64)) + v_r03_one c.big).srem 4#64 * 4096#64).slt ((c.b.sdiv 2048#64 + 7#64).srem 8#64 * 2048#64)) - v_r03_one ((BitVec.setWidth 64 (c.ad >>> min (BitVec.signExtend 64 c.e).toNat 64 % 16384#64)).slt ((c.b.sdiv 2048#64 + 7#64).srem 8#64 * 2048#64)))).snd (c.e + 14#64)) (v_r03_up (BitVec.signExtend 64 (c.t + (c.b.sdiv 4096#64 + v_r03_one (c.t.slt (c.b.srem 4096#64)) + v_r03_one c.big).srem 4#64 * 4096#64)) false c.e)).lo)), (AV.bool ((v_r03_add (v_r03_up (v_r03_part (c.ad >>> min (BitVec.signExtend 64 (c.e + 14#64)).toNat 64) (v_r03_one ((c.t + (c.b.sdiv 4096#64 + v_r03_one (c.t.slt (c.b.srem 4096#64)) + v_r03_one c.big).srem 4#64 * 4096#64).slt ((c.b.sdiv 2048#64 + 7#64).srem 8#64 * 2048#64)) - v_r03_one ((BitVec.setWidth 64 (c.ad >>> min (BitVec.signExtend 64 c.e).toNat 64 % 16384#64)).slt ((c.b.sdiv 2048#64 + 7#64).srem 8#64 * 2048#64)))).fst (v_r03_part (c.ad >>> min (BitVec.signExtend 64 (c.e + 14#64)).toNat 64) (v_r03_one ((c.t + (c.b.sdiv 4096#64 + v_r03_one (c.t.slt (c.b.srem 4096#64)) + v_r03_one c.big).srem 4#64 * 4096#64).slt ((c.b.sdiv 2048#64 + 7#64).srem 8#64 * 2048#64)) - v_r03_one ((BitVec.setWidth 64 (c.ad >>> min (BitVec.signExtend 64 c.e).toNat 64 % 16384#64)).slt ((c.b.sdiv 2048#64 + 7#64).srem 8#64 * 2048#64)))).snd (c.e + 14#64)) (v_r03_up (BitVec.signExtend 64 (c.t + (c.b.sdiv 4096#64 + v_r03_one (c.t.slt (c.b.srem 4096#64)) + v_r03_one c.big).srem 4#64 * 4096#64)) false c.e)).hi == 1#64))])))
 (some (AV.agg [(AV.int (IntKind.u64) ((v_r03_add (v_r03_up (v_r03_part (c.ad >>> min (BitVec.signExtend 64 (c.e + 14#64)).toNat 64) (v_r03_one (c.b.slt ((c.b.sdiv 2048#64 + 7#64).srem 8#64 * 2048#64)) - v_r03_one ((BitVec.setWidth 64 (c.ad >>> min (BitVec.signExtend 64 c.e).toNat 64 % 16384#64)).slt ((c.b.sdiv 2048#64 + 7#64).srem 8#64 * 2048#64)))).fst (v_r03_part (c.ad >>> min (BitVec.signExtend 64 (c.e + 14#64)).toNat 64) (v_r03_one (c.b.slt ((c.b.sdiv 2048#64 + 7#64).srem 8#64 * 2048#64)) - v_r03_one ((BitVec.setWidth 64 (c.ad >>> min (BitVec.signExtend 64 c.e).toNat 64 % 16384#64)).slt ((c.b.sdiv 2048#64 + 7#64).srem 8#64 * 2048#64)))).snd (c.e + 14#64)) (v_r03_up (BitVec.signExtend 64 c.b) false c.e)).lo)), (AV.int (IntKind.u64) ((v_r03_add (v_r03_up (v_r03_part (c.ad >>> min (BitVec.signExtend 64 (c.e + 14#64)).toNat 64) (v_r03_one ((c.t + (c.b.sdiv 4096#64 + v_r03_one (c.t.slt (c.b.srem 4096#64)) + v_r03_one c.big).srem 4#64 * 4096#64).slt ((c.b.sdiv 2048#64 + 7#64).srem 8#64 * 2048#64)) - v_r03_one ((BitVec.setWidth 64 (c.ad >>> min (BitVec.signExtend 64 c.e).toNat 64 % 16384#64)).slt ((c.b.sdiv 2048#64 + 7#64).srem 8#64 * 2048#64)))).fst (v_r03_part (c.ad >>> min (BitVec.signExtend 64 (c.e + 14#64)).toNat 64) (v_r03_one ((c.t + (c.b.sdiv 4096#64 + v_r03_one (c.t.slt (c.b.srem 4096#64)) + v_r03_one c.big).srem 4#64 * 4096#64).slt ((c.b.sdiv 2048#64 + 7#64).srem 8#64 * 2048#64)) - v_r03_one ((BitVec.setWidth 64 (c.ad >>> min (BitVec.signExtend 64 c.e).toNat 64 % 16384#64)).slt ((c.b.sdiv 2048#64 + 7#64).srem 8#64 * 2048#64)))).snd (c.e + 14#64)) (v_r03_up (BitVec.signExtend 64 (c.t + (c.b.sdiv 4096#64 + v_r03_one (c.t.slt (c.b.srem 4096#64)) + v_r03_one c.big).srem 4#64 * 4096#64)) false c.e)).lo)), (AV.bool ((v_r03_add (v_r03_up (v_r03_part (c.ad >>> min (BitVec.signExtend 64 (c.e + 14#64)).toNat 64) (v_r03_one ((c.t + (c.b.sdiv 4096#64 + v_r03_one (c.t.slt (c.b.srem 4096#64)) + v_r03_one c.big).srem 4#64 * 4096#64).slt ((c.b.sdiv 2048#64 + 7#64).srem 8#64 * 2048#64)) - v_r03_one ((BitVec.setWidth 64 (c.ad >>> min (BitVec.signExtend 64 c.e).toNat 64 % 16384#64)).slt ((c.b.sdiv 2048#64 + 7#64).srem 8#64 * 2048#64)))).fst (v_r03_part (c.ad >>> min (BitVec.signExtend 64 (c.e + 14#64)).toNat 64) (v_r03_one ((c.t + (c.b.sdiv 4096#64 + v_r03_one (c.t.slt (c.b.srem 4096#64)) + v_r03_one c.big).srem 4#64 * 4096#64).slt ((c.b.sdiv 2048#64 + 7#64).srem 8#64 * 2048#64)) - v_r03_one ((BitVec.setWidth 64 (c.ad >>> min (BitVec.signExtend 64 c.e).toNat 64 % 16384#64)).slt ((c.b.sdiv 2048#64 + 7#64).srem 8#64 * 2048#64)))).snd (c.e + 14#64)) (v_r03_up (BitVec.signExtend 64 (c.t + (c.b.sdiv 4096#64 + v_r03_one (c.t.slt (c.b.srem 4096#64)) + v_r03_one c.big).srem 4#64 * 4096#64)) false c.e)).hi == 1#64))])))
 (cond (c.e.slt 51#64)
 (cond ((1#64).ult ((2#64 * (v_r03_add (v_r03_up (v_r03_part (0#64) (v_r03_one ((c.t + (c.b.sdiv 4096#64 + v_r03_one (c.t.slt (c.b.srem 4096#64)) + v_r03_one c.big).srem 4#64 * 4096#64).slt ((c.b.sdiv 2048#64 + 7#64).srem 8#64 * 2048#64)) - v_r03_one ((BitVec.setWidth 64 (c.ad >>> min (BitVec.signExtend 64 c.e).toNat 64 % 16384#64)).slt ((c.b.sdiv 2048#64 + 7#64).srem 8#64 * 2048#64)))).fst (v_r03_part (0#64) (v_r03_one ((c.t + (c.b.sdiv 4096#64 + v_r03_one (c.t.slt (c.b.srem 4096#64)) + v_r03_one c.big).srem 4#64 * 4096#64).slt ((c.b.sdiv 2048#64 + 7#64).srem 8#64 * 2048#64)) - v_r03_one ((BitVec.setWidth 64 (c.ad >>> min (BitVec.signExtend 64 c.e).toNat 64 % 16384#64)).slt ((c.b.sdiv 2048#64 + 7#64).srem 8#64 * 2048#64)))).snd (c.e + 14#64)) (v_r03_up (BitVec.signExtend 64 (c.t + (c.b.sdiv 4096#64 + v_r03_one (c.t.slt (c.b.srem 4096#64)) + v_r03_one c.big).srem 4#64 * 4096#64)) false c.e)).hi + (v_r03_add (v_r03_up (v_r03_part (0#64) (v_r03_one ((c.t + (c.b.sdiv 4096#64 + v_r03_one (c.t.slt (c.b.srem 4096#64)) + v_r03_one c.big).srem 4#64 * 4096#64).slt ((c.b.sdiv 2048#64 + 7#64).srem 8#64 * 2048#64)) - v_r03_one ((BitVec.setWidth 64 (c.ad >>> min (BitVec.signExtend 64 c.e).toNat 64 % 16384#64)).slt ((c.b.sdiv 2048#64 + 7#64).srem 8#64 * 2048#64)))).fst (v_r03_part (0#64) (v_r03_one ((c.t + (c.b.sdiv 4096#64 + v_r03_one (c.t.slt (c.b.srem 4096#64)) + v_r03_one c.big).srem 4#64 * 4096#64).slt ((c.b.sdiv 2048#64 + 7#64).srem 8#64 * 2048#64)) - v_r03_one ((BitVec.setWidth 64 (c.ad >>> min (BitVec.signExtend 64 c.e).toNat 64 % 16384#64)).slt ((c.b.sdiv 2048#64 + 7#64).srem 8#64 * 2048#64)))).snd (c.e + 14#64)) (v_r03_up (BitVec.signExtend 64 (c.t + (c.b.sdiv 4096#64 + v_r03_one (c.t.slt (c.b.srem 4096#64)) + v_r03_one c.big).srem 4#64 * 4096#64)) false c.e)).lo >>> 63 + 4#64 - (v_r03_add (v_r03_up (v_r03_part (0#64) (v_r03_one (c.b.slt ((c.b.sdiv 2048#64 + 7#64).srem 8#64 * 2048#64)) - v_r03_one ((BitVec.setWidth 64 (c.ad >>> min (BitVec.signExtend 64 c.e).toNat 64 % 16384#64)).slt ((c.b.sdiv 2048#64 + 7#64).srem 8#64 * 2048#64)))).fst (v_r03_part (0#64) (v_r03_one (c.b.slt ((c.b.sdiv 2048#64 + 7#64).srem 8#64 * 2048#64)) - v_r03_one ((BitVec.setWidth 64 (c.ad >>> min (BitVec.signExtend 64 c.e).toNat 64 % 16384#64)).slt ((c.b.sdiv 2048#64 + 7#64).srem 8#64 * 2048#64)))).snd (c.e + 14#64)) (v_r03_up (BitVec.signExtend 64 c.b) false c.e)).lo >>> 63) % 4#64))
 (some (AV.agg [(AV.int (IntKind.u64) ((v_r03_add (v_r03_up (v_r03_part (0#64) (v_r03_one (c.b.slt ((c.b.sdiv 2048#64 + 7#64).srem 8#64 * 2048#64)) - v_r03_one ((BitVec.setWidth 64 (c.ad >>> min (BitVec.signExtend 64 c.e).toNat 64 % 16384#64)).slt ((c.b.sdiv 2048#64 + 7#64).srem 8#64 * 2048#64)))).fst (v_r03_part (0#64) (v_r03_one (c.b.slt ((c.b.sdiv 2048#64 + 7#64).srem 8#64 * 2048#64)) - v_r03_one ((BitVec.setWidth 64 (c.ad >>> min (BitVec.signExtend 64 c.e).toNat 64 % 16384#64)).slt ((c.b.sdiv 2048#64 + 7#64).srem 8#64 * 2048#64)))).snd (c.e + 14#64)) (v_r03_up (BitVec.signExtend 64 c.b) false c.e)).lo)), (AV.int (IntKind.u64) ((v_r03_add (v_r03_up (v_r03_part (0#64) (v_r03_one ((c.t + (c.b.sdiv 4096#64 + v_r03_one (c.t.slt (c.b.srem 4096#64)) + v_r03_one c.big).srem 4#64 * 4096#64).slt ((c.b.sdiv 2048#64 + 7#64).srem 8#64 * 2048#64)) - v_r03_one ((BitVec.setWidth 64 (c.ad >>> min (BitVec.signExtend 64 c.e).toNat 64 % 16384#64)).slt ((c.b.sdiv 2048#64 + 7#64).srem 8#64 * 2048#64)))).fst (v_r03_part (0#64) (v_r03_one ((c.t + (c.b.sdiv 4096#64 + v_r03_one (c.t.slt (c.b.srem 4096#64)) + v_r03_one c.big).srem 4#64 * 4096#64).slt ((c.b.sdiv 2048#64 + 7#64).srem 8#64 * 2048#64)) - v_r03_one ((BitVec.setWidth 64 (c.ad >>> min (BitVec.signExtend 64 c.e).toNat 64 % 16384#64)).slt ((c.b.sdiv 2048#64 + 7#64).srem 8#64 * 2048#64)))).snd (c.e + 14#64)) (v_r03_up (BitVec.signExtend 64 (c.t + (c.b.sdiv 4096#64 + v_r03_one (c.t.slt (c.b.srem 4096#64)) + v_r03_one c.big).srem 4#64 * 4096#64)) false c.e)).lo)), (AV.bool (1#64 - (v_r03_add (v_r03_up (v_r03_part (0#64) (v_r03_one ((c.t + (c.b.sdiv 4096#64 + v_r03_one (c.t.slt (c.b.srem 4096#64)) + v_r03_one c.big).srem 4#64 * 4096#64).slt ((c.b.sdiv 2048#64 + 7#64).srem 8#64 * 2048#64)) - v_r03_one ((BitVec.setWidth 64 (c.ad >>> min (BitVec.signExtend 64 c.e).toNat 64 % 16384#64)).slt ((c.b.sdiv 2048#64 + 7#64).srem 8#64 * 2048#64)))).fst (v_r03_part (0#64) (v_r03_one ((c.t + (c.b.sdiv 4096#64 + v_r03_one (c.t.slt (c.b.srem 4096#64)) + v_r03_one c.big).srem 4#64 * 4096#64).slt ((c.b.sdiv 2048#64 + 7#64).srem 8#64 * 2048#64)) - v_r03_one ((BitVec.setWidth 64 (c.ad >>> min (BitVec.signExtend 64 c.e).toNat 64 % 16384#64)).slt ((c.b.sdiv 2048#64 + 7#64).srem 8#64 * 2048#64)))).snd (c.e + 14#64)) (v_r03_up (BitVec.signExtend 64 (c.t + (c.b.sdiv 4096#64 + v_r03_one (c.t.slt (c.b.srem 4096#64)) + v_r03_one c.big).srem 4#64 * 4096#64)) false c.e)).hi == 1#64))]))
 (some (AV.agg [(AV.int (IntKind.u64) ((v_r03_add (v_r03_up (v_r03_part (0#64) (v_r03_one (c.b.slt ((c.b.sdiv 2048#64 + 7#64).srem 8#64 * 2048#64)) - v_r03_one ((BitVec.setWidth 64 (c.ad >>> min (BitVec.signExtend 64 c.e).toNat 64 % 16384#64)).slt ((c.b.sdiv 2048#64 + 7#64).srem 8#64 * 2048#64)))).fst (v_r03_part (0#64) (v_r03_one (c.b.slt ((c.b.sdiv 2048#64 + 7#64).srem 8#64 * 2048#64)) - v_r03_one ((BitVec.setWidth 64 (c.ad >>> min (BitVec.signExtend 64 c.e).toNat 64 % 16384#64)).slt ((c.b.sdiv 2048#64 + 7#64).srem 8#64 * 2048#64)))).snd (c.e + 14#64)) (v_r03_up (BitVec.signExtend 64 c.b) false c.e)).lo)), (AV.int (IntKind.u64) ((v_r03_add (v_r03_up (v_r03_part (0#64) (v_r03_one ((c.t + (c.b.sdiv 4096#64 + v_r03_one (c.t.slt (c.b.srem 4096#64)) + v_r03_one c.big).srem 4#64 * 4096#64).slt ((c.b.sdiv 2048#64 + 7#64).srem 8#64 * 2048#64)) - v_r03_one ((BitVec.setWidth 64 (c.ad >>> min (BitVec.signExtend 64 c.e).toNat 64 % 16384#64)).slt ((c.b.sdiv 2048#64 + 7#64).srem 8#64 * 2048#64)))).fst (v_r03_part (0#64) (v_r03_one ((c.t + (c.b.sdiv 4096#64 + v_r03_one (c.t.slt (c.b.srem 4096#64)) + v_r03_one c.big).srem 4#64 * 4096#64).slt ((c.b.sdiv 2048#64 + 7#64).srem 8#64 * 2048#64)) - v_r03_one ((BitVec.setWidth 64 (c.ad >>> min (BitVec.signExtend 64 c.e).toNat 64 % 16384#64)).slt ((c.b.sdiv 2048#64 + 7#64).srem 8#64 * 2048#64)))).snd (c.e + 14#64)) (v_r03_up (BitVec.signExtend 64 (c.t + (c.b.sdiv 4096#64 + v_r03_one (c.t.slt (c.b.srem 4096#64)) + v_r03_one c.big).srem 4#64 * 4096#64)) false c.e)).lo)), (AV.bool ((v_r03_add (v_r03_up (v_r03_part (0#64) (v_r03_one ((c.t + (c.b.sdiv 4096#64 + v_r03_one (c.t.slt (c.b.srem 4096#64)) + v_r03_one c.big).srem 4#64 * 4096#64).slt ((c.b.sdiv 2048#64 + 7#64).srem 8#64 * 2048#64)) - v_r03_one ((BitVec.setWidth 64 (c.ad >>> min (BitVec.signExtend 64 c.e).toNat 64 % 16384#64)).slt ((c.b.sdiv 2048#64 + 7#64).srem 8#64 * 2048#64)))).fst (v_r03_part (0#64) (v_r03_one ((c.t + (c.b.sdiv 4096#64 + v_r03_one (c.t.slt (c.b.srem 4096#64)) + v_r03_one c.big).srem 4#64 * 4096#64).slt ((c.b.sdiv 2048#64 + 7#64).srem 8#64 * 2048#64)) - v_r03_one ((BitVec.setWidth 64 (c.ad >>> min (BitVec.signExtend 64 c.e).toNat 64 % 16384#64)).slt ((c.b.sdiv 2048#64 + 7#64).srem 8#64 * 2048#64)))).snd (c.e + 14#64)) (v_r03_up (BitVec.signExtend 64 (c.t + (c.b.sdiv 4096#64 + v_r03_one (c.t.slt (c.b.srem 4096#64)) + v_r03_one c.big).srem 4#64 * 4096#64)) false c.e)).hi == 1#64))])))
 (some (AV.agg [(AV.int (IntKind.u64) ((v_r03_add (v_r03_up (v_r03_part (0#64) (v_r03_one (c.b.slt ((c.b.sdiv 2048#64 + 7#64).srem 8#64 * 2048#64)) - v_r03_one ((BitVec.setWidth 64 (c.ad >>> min (BitVec.signExtend 64 c.e).toNat 64 % 16384#64)).slt ((c.b.sdiv 2048#64 + 7#64).srem 8#64 * 2048#64)))).fst (v_r03_part (0#64) (v_r03_one (c.b.slt ((c.b.sdiv 2048#64 + 7#64).srem 8#64 * 2048#64)) - v_r03_one ((BitVec.setWidth 64 (c.ad >>> min (BitVec.signExtend 64 c.e).toNat 64 % 16384#64)).slt ((c.b.sdiv 2048#64 + 7#64).srem 8#64 * 2048#64)))).snd (c.e + 14#64)) (v_r03_up (BitVec.signExtend 64 c.b) false c.e)).lo)), (AV.int (IntKind.u64) ((v_r03_add (v_r03_up (v_r03_part (0#64) (v_r03_one ((c.t + (c.b.sdiv 4096#64 + v_r03_one (c.t.slt (c.b.srem 4096#64)) + v_r03_one c.big).srem 4#64 * 4096#64).slt ((c.b.sdiv 2048#64 + 7#64).srem 8#64 * 2048#64)) - v_r03_one ((BitVec.setWidth 64 (c.ad >>> min (BitVec.signExtend 64 c.e).toNat 64 % 16384#64)).slt ((c.b.sdiv 2048#64 + 7#64).srem 8#64 * 2048#64)))).fst (v_r03_part (0#64) (v_r03_one ((c.t + (c.b.sdiv 4096#64 + v_r03_one (c.t.slt (c.b.srem 4096#64)) + v_r03_one c.big).srem 4#64 * 4096#64).slt ((c.b.sdiv 2048#64 + 7#64).srem 8#64 * 2048#64)) - v_r03_one ((BitVec.setWidth 64 (c.ad >>> min (BitVec.signExtend 64 c.e).toNat 64 % 16384#64)).slt ((c.b.sdiv 2048#64 + 7#64).srem 8#64 * 2048#64)))).snd (c.e + 14#64)) (v_r03_up (BitVec.signExtend 64 (c.t + (c.b.sdiv 4096#64 + v_r03_one (c.t.slt (c.b.srem 4096#64)) + v_r03_one c.big).srem 4#64 * 4096#64)) false c.e)).lo)), (AV.bool ((v_r03_add (v_r03_up (v_r03_part (0#64) (v_r03_one ((c.t + (c.b.sdiv 4096#64 + v_r03_one (c.t.slt (c.b.srem 4096#64)) + v_r03_one c.big).srem 4#64 * 4096#64).slt ((c.b.sdiv 2048#64 + 7#64).srem 8#64 * 2048#64)) - v_r03_one ((BitVec.setWidth 64 (c.ad >>> min (BitVec.signExtend 64 c.e).toNat 64 % 16384#64)).slt ((c.b.sdiv 2048#64 + 7#64).srem 8#64 * 2048#64)))).fst (v_r03_part (0#64) (v_r03_one ((c.t + (c.b.sdiv 4096#64 + v_r03_one (c.t.slt (c.b.srem 4096#64)) + v_r03_one c.big).srem 4#64 * 4096#64).slt ((c.b.sdiv 2048#64 + 7#64).srem 8#64 * 2048#64)) - v_r03_one ((BitVec.setWidth 64 (c.ad >>> min (BitVec.signExtend 64 c.e).toNat 64 % 16384#64)).slt ((c.b.sdiv 2048#64 + 7#64).srem 8#64 * 2048#64)))).snd (c.e + 14#64)) (v_r03_up (BitVec.signExtend 64 (c.t + (c.b.sdiv 4096#64 + v_r03_one (c.t.slt (c.b.srem 4096#64)) + v_r03_one c.big).srem 4#64 * 4096#64)) false c.e)).hi == 1#64))])))) by kernel_rfl).trans (by
    delta v_r03_Of
    refine (mer _ (Rg.av) (mer _ (Rg.av) (mer _ (Rg.av) ?_ ?_) ?_) (mer _ (Rg.av) (mer _ (Rg.av) ?_ ?_) ?_))
    all_goals (try delta Cp.av)
    all_goals (try delta Rg.av)
    all_goals (try delta W2.av)
    all_goals (try delta Tr.av)
    all_goals (try delta Qu.av)
    all_goals first | with_reducible rfl | rfl)
noncomputable def C_49 : Oracle := pureE 49 (pure1 dCp (fun c => (v_r03_Of c).av)) (C_53)
theorem C_49_snd : Snd Try.prog C_49 := pureE_snd (pure1_ok (F := F49) (C_53_snd) Try.func49 (by kernel_rfl) run_49 (fun _ => rfl)) (C_53_snd)

/- ravelin/ravelinref03.Fits -/
def F46 : Cfg := { F := 400, roots := [0, 1, 2, 3], fl := ⟨true, false⟩ }
theorem run_46 : ∀ (c : Cp) (xat : BitVec 64), pureRun Try.prog C_49 F46 Try.f46 [c.av, .int .u64 xat] = some (.bool (v_r03_Fits c xat)) := fun c xat =>
 (show pureRun Try.prog C_49 F46 Try.f46 [c.av, .int .u64 xat] = (some (AV.bool ((v_r03_Of c).base == (v_r03_Of { tag := c.tag, per := c.per, ty := c.ty, mo := c.mo, e := c.e, b := c.b, t := c.t, big := c.big, ad := xat }).base && ((v_r03_Of c).top == (v_r03_Of { tag := c.tag, per := c.per, ty := c.ty, mo := c.mo, e := c.e, b := c.b, t := c.t, big := c.big, ad := xat }).top && ((v_r03_Of c).over == (v_r03_Of { tag := c.tag, per := c.per, ty := c.ty, mo := c.mo, e := c.e, b := c.b, t := c.t, big := c.big, ad := xat }).over && true))))) by kernel_rfl).trans (rfl)
noncomputable def C_46 : Oracle := pureE 46 (pure2 dCp dU64 (fun c xat => .bool (v_r03_Fits c xat))) (C_49)
theorem C_46_snd : Snd Try.prog C_46 := pureE_snd (pure2_ok (F := F46) (C_49_snd) Try.func46 (by kernel_rfl) run_46 (fun _ _ => rfl)) (C_49_snd)

/- ravelin/ravelinref05.with -/
def F47 : Cfg := { F := 400, roots := [0, 1, 2], fl := ⟨true, false⟩ }
theorem run_47 : ∀ (c : Cp) (tag : Bool), pureRun Try.prog C_46 F47 Try.f47 [c.av, .bool tag] = some ((v_r05_with c tag).av) := fun c tag =>
 (show pureRun Try.prog C_46 F47 Try.f47 [c.av, .bool tag] = (some (AV.agg [(AV.bool (tag)), (AV.int (IntKind.i64) (c.per)), (AV.int (IntKind.i64) (c.ty)), (AV.int (IntKind.i64) (c.mo)), (AV.int (IntKind.i64) (c.e)), (AV.int (IntKind.i64) (c.b)), (AV.int (IntKind.i64) (c.t)), (AV.bool (c.big)), (AV.int (IntKind.u64) (c.ad))])) by kernel_rfl).trans (rfl)
noncomputable def C_47 : Oracle := pureE 47 (pure2 dCp dBool (fun c tag => (v_r05_with c tag).av)) (C_46)
theorem C_47_snd : Snd Try.prog C_47 := pureE_snd (pure2_ok (F := F47) (C_46_snd) Try.func47 (by kernel_rfl) run_47 (fun _ _ => rfl)) (C_46_snd)

/- ravelin/ravelinref05.Move -/
def F33 : Cfg := { F := 400, roots := [0, 1, 2, 3], fl := ⟨true, false⟩ }
theorem run_33 : ∀ (c : Cp) (xat : BitVec 64), pureRun Try.prog C_47 F33 Try.f33 [c.av, .int .u64 xat] = some ((v_r05_Move c xat).av) := fun c xat =>
 (show pureRun Try.prog C_47 F33 Try.f33 [c.av, .int .u64 xat] = (cond (c.tag)
 (cond (!v_r05_Sealed c)
 (some (AV.agg [(AV.bool ((v_r05_with { tag := c.tag, per := c.per, ty := c.ty, mo := c.mo, e := c.e, b := c.b, t := c.t, big := c.big, ad := xat } (v_r03_Fits c xat)).tag)), (AV.int (IntKind.i64) ((v_r05_with { tag := c.tag, per := c.per, ty := c.ty, mo := c.mo, e := c.e, b := c.b, t := c.t, big := c.big, ad := xat } (v_r03_Fits c xat)).per)), (AV.int (IntKind.i64) ((v_r05_with { tag := c.tag, per := c.per, ty := c.ty, mo := c.mo, e := c.e, b := c.b, t := c.t, big := c.big, ad := xat } (v_r03_Fits c xat)).ty)), (AV.int (IntKind.i64) ((v_r05_with { tag := c.tag, per := c.per, ty := c.ty, mo := c.mo, e := c.e, b := c.b, t := c.t, big := c.big, ad := xat } (v_r03_Fits c xat)).mo)), (AV.int (IntKind.i64) ((v_r05_with { tag := c.tag, per := c.per, ty := c.ty, mo := c.mo, e := c.e, b := c.b, t := c.t, big := c.big, ad := xat } (v_r03_Fits c xat)).e)), (AV.int (IntKind.i64) ((v_r05_with { tag := c.tag, per := c.per, ty := c.ty, mo := c.mo, e := c.e, b := c.b, t := c.t, big := c.big, ad := xat } (v_r03_Fits c xat)).b)), (AV.int (IntKind.i64) ((v_r05_with { tag := c.tag, per := c.per, ty := c.ty, mo := c.mo, e := c.e, b := c.b, t := c.t, big := c.big, ad := xat } (v_r03_Fits c xat)).t)), (AV.bool ((v_r05_with { tag := c.tag, per := c.per, ty := c.ty, mo := c.mo, e := c.e, b := c.b, t := c.t, big := c.big, ad := xat } (v_r03_Fits c xat)).big)), (AV.int (IntKind.u64) ((v_r05_with { tag := c.tag, per := c.per, ty := c.ty, mo := c.mo, e := c.e, b := c.b, t := c.t, big := c.big, ad := xat } (v_r03_Fits c xat)).ad))]))
 (some (AV.agg [(AV.bool ((v_r05_with { tag := c.tag, per := c.per, ty := c.ty, mo := c.mo, e := c.e, b := c.b, t := c.t, big := c.big, ad := xat } false).tag)), (AV.int (IntKind.i64) ((v_r05_with { tag := c.tag, per := c.per, ty := c.ty, mo := c.mo, e := c.e, b := c.b, t := c.t, big := c.big, ad := xat } false).per)), (AV.int (IntKind.i64) ((v_r05_with { tag := c.tag, per := c.per, ty := c.ty, mo := c.mo, e := c.e, b := c.b, t := c.t, big := c.big, ad := xat } false).ty)), (AV.int (IntKind.i64) ((v_r05_with { tag := c.tag, per := c.per, ty := c.ty, mo := c.mo, e := c.e, b := c.b, t := c.t, big := c.big, ad := xat } false).mo)), (AV.int (IntKind.i64) ((v_r05_with { tag := c.tag, per := c.per, ty := c.ty, mo := c.mo, e := c.e, b := c.b, t := c.t, big := c.big, ad := xat } false).e)), (AV.int (IntKind.i64) ((v_r05_with { tag := c.tag, per := c.per, ty := c.ty, mo := c.mo, e := c.e, b := c.b, t := c.t, big := c.big, ad := xat } false).b)), (AV.int (IntKind.i64) ((v_r05_with { tag := c.tag, per := c.per, ty := c.ty, mo := c.mo, e := c.e, b := c.b, t := c.t, big := c.big, ad := xat } false).t)), (AV.bool ((v_r05_with { tag := c.tag, per := c.per, ty := c.ty, mo := c.mo, e := c.e, b := c.b, t := c.t, big := c.big, ad := xat } false).big)), (AV.int (IntKind.u64) ((v_r05_with { tag := c.tag, per := c.per, ty := c.ty, mo := c.mo, e := c.e, b := c.b, t := c.t, big := c.big, ad := xat } false).ad))])))
 (some (AV.agg [(AV.bool ((v_r05_with { tag := c.tag, per := c.per, ty := c.ty, mo := c.mo, e := c.e, b := c.b, t := c.t, big := c.big, ad := xat } false).tag)), (AV.int (IntKind.i64) ((v_r05_with { tag := c.tag, per := c.per, ty := c.ty, mo := c.mo, e := c.e, b := c.b, t := c.t, big := c.big, ad := xat } false).per)), (AV.int (IntKind.i64) ((v_r05_with { tag := c.tag, per := c.per, ty := c.ty, mo := c.mo, e := c.e, b := c.b, t := c.t, big := c.big, ad := xat } false).ty)), (AV.int (IntKind.i64) ((v_r05_with { tag := c.tag, per := c.per, ty := c.ty, mo := c.mo, e := c.e, b := c.b, t := c.t, big := c.big, ad := xat } false).mo)), (AV.int (IntKind.i64) ((v_r05_with { tag := c.tag, per := c.per, ty := c.ty, mo := c.mo, e := c.e, b := c.b, t := c.t, big := c.big, ad := xat } false).e)), (AV.int (IntKind.i64) ((v_r05_with { tag := c.tag, per := c.per, ty := c.ty, mo := c.mo, e := c.e, b := c.b, t := c.t, big := c.big, ad := xat } false).b)), (AV.int (IntKind.i64) ((v_r05_with { tag := c.tag, per := c.per, ty := c.ty, mo := c.mo, e := c.e, b := c.b, t := c.t, big := c.big, ad := xat } false).t)), (AV.bool ((v_r05_with { tag := c.tag, per := c.per, ty := c.ty, mo := c.mo, e := c.e, b := c.b, t := c.t, big := c.big, ad := xat } false).big)), (AV.int (IntKind.u64) ((v_r05_with { tag := c.tag, per := c.per, ty := c.ty, mo := c.mo, e := c.e, b := c.b, t := c.t, big := c.big, ad := xat } false).ad))]))) by kernel_rfl).trans (by
    delta v_r05_Move
    refine (mer _ (Cp.av) (mer _ (Cp.av) ?_ ?_) ?_)
    all_goals (try delta Cp.av)
    all_goals (try delta Rg.av)
    all_goals (try delta W2.av)
    all_goals (try delta Tr.av)
    all_goals (try delta Qu.av)
    all_goals first | with_reducible rfl | rfl)
noncomputable def C_33 : Oracle := pureE 33 (pure2 dCp dU64 (fun c xat => (v_r05_Move c xat).av)) (C_47)
theorem C_33_snd : Snd Try.prog C_33 := pureE_snd (pure2_ok (F := F33) (C_47_snd) Try.func33 (by kernel_rfl) run_33 (fun _ _ => rfl)) (C_47_snd)

/- ravelin/ravelinref19.Open -/
def F34 : Cfg := { F := 400, roots := [0, 1], fl := ⟨true, false⟩ }
theorem run_34 : ∀ (c : Cp), pureRun Try.prog C_33 F34 Try.f34 [c.av] = some ((v_r19_Open c).av) := fun c =>
 (show pureRun Try.prog C_33 F34 Try.f34 [c.av] = (cond (c.ty == 262142#64)
 (some (AV.agg [(AV.bool (c.tag)), (AV.int (IntKind.i64) (c.per)), (AV.int (IntKind.i64) (262143#64)), (AV.int (IntKind.i64) (c.mo)), (AV.int (IntKind.i64) (c.e)), (AV.int (IntKind.i64) (c.b)), (AV.int (IntKind.i64) (c.t)), (AV.bool (c.big)), (AV.int (IntKind.u64) (c.ad))]))
 (some (AV.agg [(AV.bool (c.tag)), (AV.int (IntKind.i64) (c.per)), (AV.int (IntKind.i64) (c.ty)), (AV.int (IntKind.i64) (c.mo)), (AV.int (IntKind.i64) (c.e)), (AV.int (IntKind.i64) (c.b)), (AV.int (IntKind.i64) (c.t)), (AV.bool (c.big)), (AV.int (IntKind.u64) (c.ad))]))) by kernel_rfl).trans (by
    delta v_r19_Open
    refine (mer _ (Cp.av) ?_ ?_)
    all_goals (try delta Cp.av)
    all_goals (try delta Rg.av)
    all_goals (try delta W2.av)
    all_goals (try delta Tr.av)
    all_goals (try delta Qu.av)
    all_goals first | with_reducible rfl | rfl)
noncomputable def C_34 : Oracle := pureE 34 (pure1 dCp (fun c => (v_r19_Open c).av)) (C_33)
theorem C_34_snd : Snd Try.prog C_34 := pureE_snd (pure1_ok (F := F34) (C_33_snd) Try.func34 (by kernel_rfl) run_34 (fun _ => rfl)) (C_33_snd)

/- ravelin/ravelinref19.Leave -/
def F18 : Cfg := { F := 400, roots := [0, 1], fl := ⟨true, false⟩ }
theorem run_18 : ∀ (h : Ht) (super : Bool), stRun Try.prog (C_34) F18 Try.f18 [.ptr ⟨0, 0, 0, 0, 0⟩, .bool super] [(0, ⟨true, h.segs⟩)] = cond ((fun _ _ => true) (enOf h) super) (some (enR h.segs (v_r19_Leave (enOf h) super))) none := fun h super =>
 (show _ = (cond (super)
 (some (enR h.segs ({ pcc := v_r05_Move (v_r19_Open ((enOf h).sepcc)) (((enOf h).sepcc).ad >>> 1 <<< 1), sepcc := (enOf h).sepcc, mepcc := (enOf h).mepcc, stcc := (enOf h).stcc, mtcc := (enOf h).mtcc, p := BitVec.setWidth 64 (v_r19_Bit ((enOf h).m) 8#64), m := v_r19_Put (v_r19_Put (v_r19_Put (v_r19_Put ((enOf h).m) (1#64) (v_r19_Bit ((enOf h).m) 5#64)) 5#64 1#64) 8#64 0#64) 17#64 0#64, md := (enOf h).md, mi := (enOf h).mi, mc := (enOf h).mc, sc := (enOf h).sc, mt := (enOf h).mt, st := (enOf h).st, w := (enOf h).w })))
 (cond (!BitVec.setWidth 64 (v_r19_Bit ((enOf h).m) 11#64 + 2#64 * v_r19_Bit ((enOf h).m) 12#64) == 3#64)
 (some (enR h.segs ({ pcc := v_r05_Move (v_r19_Open ((enOf h).mepcc)) (((enOf h).mepcc).ad >>> 1 <<< 1), sepcc := (enOf h).sepcc, mepcc := (enOf h).mepcc, stcc := (enOf h).stcc, mtcc := (enOf h).mtcc, p := BitVec.setWidth 64 (v_r19_Bit ((enOf h).m) 11#64 + 2#64 * v_r19_Bit ((enOf h).m) 12#64), m := v_r19_Put (v_r19_Put (v_r19_Put (v_r19_Put (v_r19_Put ((enOf h).m) (3#64) (v_r19_Bit ((enOf h).m) 7#64)) 7#64 1#64) 11#64 0#64) 12#64 0#64) 17#64 0#64, md := (enOf h).md, mi := (enOf h).mi, mc := (enOf h).mc, sc := (enOf h).sc, mt := (enOf h).mt, st := (enOf h).st, w := (enOf h).w })))
 (some (enR h.segs ({ pcc := v_r05_Move (v_r19_Open ((enOf h).mepcc)) (((enOf h).mepcc).ad >>> 1 <<< 1), sepcc := (enOf h).sepcc, mepcc := (enOf h).mepcc, stcc := (enOf h).stcc, mtcc := (enOf h).mtcc, p := BitVec.setWidth 64 (v_r19_Bit ((enOf h).m) 11#64 + 2#64 * v_r19_Bit ((enOf h).m) 12#64), m := v_r19_Put (v_r19_Put (v_r19_Put (v_r19_Put ((enOf h).m) (3#64) (v_r19_Bit ((enOf h).m) 7#64)) 7#64 1#64) 11#64 0#64) 12#64 0#64, md := (enOf h).md, mi := (enOf h).mi, mc := (enOf h).mc, sc := (enOf h).sc, mt := (enOf h).mt, st := (enOf h).st, w := (enOf h).w }))))) by kernel_rfl).trans (by
    delta v_r19_Leave
    exact (merQ (enR h.segs) rfl (merQ (enR h.segs) rfl rfl)))
noncomputable def C_18 : Oracle := stGE 18 (sHt1 (fun _ _ => true) v_r19_Leave) (C_34)
theorem C_18_snd : Snd Try.prog C_18 := stGE_snd (stOK_of (F := F18) (C_34_snd) Try.func18 (by kernel_rfl) (sHt1_ok run_18)) (C_34_snd)

/- ravelin/ravelinref19.at -/
def F35 : Cfg := { F := 400, roots := [0, 1, 2, 3, 4], fl := ⟨true, false⟩ }
theorem run_35 : ∀ (c : Cp) (cause : BitVec 64) (interrupt : Bool), pureRun Try.prog C_18 F35 Try.f35 [c.av, .int .i64 cause, .bool interrupt] = some ((v_r19_at c cause interrupt).av) := fun c cause interrupt =>
 (show pureRun Try.prog C_18 F35 Try.f35 [c.av, .int .i64 cause, .bool interrupt] = (cond (interrupt)
 (cond (c.ad % 2#64 == 1#64)
 (some (AV.agg [(AV.bool ((v_r05_Move (v_r19_Open c) (c.ad >>> 2 <<< 2 + BitVec.signExtend 64 (4#64 * cause))).tag)), (AV.int (IntKind.i64) ((v_r05_Move (v_r19_Open c) (c.ad >>> 2 <<< 2 + BitVec.signExtend 64 (4#64 * cause))).per)), (AV.int (IntKind.i64) ((v_r05_Move (v_r19_Open c) (c.ad >>> 2 <<< 2 + BitVec.signExtend 64 (4#64 * cause))).ty)), (AV.int (IntKind.i64) ((v_r05_Move (v_r19_Open c) (c.ad >>> 2 <<< 2 + BitVec.signExtend 64 (4#64 * cause))).mo)), (AV.int (IntKind.i64) ((v_r05_Move (v_r19_Open c) (c.ad >>> 2 <<< 2 + BitVec.signExtend 64 (4#64 * cause))).e)), (AV.int (IntKind.i64) ((v_r05_Move (v_r19_Open c) (c.ad >>> 2 <<< 2 + BitVec.signExtend 64 (4#64 * cause))).b)), (AV.int (IntKind.i64) ((v_r05_Move (v_r19_Open c) (c.ad >>> 2 <<< 2 + BitVec.signExtend 64 (4#64 * cause))).t)), (AV.bool ((v_r05_Move (v_r19_Open c) (c.ad >>> 2 <<< 2 + BitVec.signExtend 64 (4#64 * cause))).big)), (AV.int (IntKind.u64) ((v_r05_Move (v_r19_Open c) (c.ad >>> 2 <<< 2 + BitVec.signExtend 64 (4#64 * cause))).ad))]))
 (some (AV.agg [(AV.bool ((v_r05_Move (v_r19_Open c) (c.ad >>> 2 <<< 2)).tag)), (AV.int (IntKind.i64) ((v_r05_Move (v_r19_Open c) (c.ad >>> 2 <<< 2)).per)), (AV.int (IntKind.i64) ((v_r05_Move (v_r19_Open c) (c.ad >>> 2 <<< 2)).ty)), (AV.int (IntKind.i64) ((v_r05_Move (v_r19_Open c) (c.ad >>> 2 <<< 2)).mo)), (AV.int (IntKind.i64) ((v_r05_Move (v_r19_Open c) (c.ad >>> 2 <<< 2)).e)), (AV.int (IntKind.i64) ((v_r05_Move (v_r19_Open c) (c.ad >>> 2 <<< 2)).b)), (AV.int (IntKind.i64) ((v_r05_Move (v_r19_Open c) (c.ad >>> 2 <<< 2)).t)), (AV.bool ((v_r05_Move (v_r19_Open c) (c.ad >>> 2 <<< 2)).big)), (AV.int (IntKind.u64) ((v_r05_Move (v_r19_Open c) (c.ad >>> 2 <<< 2)).ad))])))
 (some (AV.agg [(AV.bool ((v_r05_Move (v_r19_Open c) (c.ad >>> 2 <<< 2)).tag)), (AV.int (IntKind.i64) ((v_r05_Move (v_r19_Open c) (c.ad >>> 2 <<< 2)).per)), (AV.int (IntKind.i64) ((v_r05_Move (v_r19_Open c) (c.ad >>> 2 <<< 2)).ty)), (AV.int (IntKind.i64) ((v_r05_Move (v_r19_Open c) (c.ad >>> 2 <<< 2)).mo)), (AV.int (IntKind.i64) ((v_r05_Move (v_r19_Open c) (c.ad >>> 2 <<< 2)).e)), (AV.int (IntKind.i64) ((v_r05_Move (v_r19_Open c) (c.ad >>> 2 <<< 2)).b)), (AV.int (IntKind.i64) ((v_r05_Move (v_r19_Open c) (c.ad >>> 2 <<< 2)).t)), (AV.bool ((v_r05_Move (v_r19_Open c) (c.ad >>> 2 <<< 2)).big)), (AV.int (IntKind.u64) ((v_r05_Move (v_r19_Open c) (c.ad >>> 2 <<< 2)).ad))]))) by kernel_rfl).trans (by
    delta v_r19_at
    refine (mer _ (Cp.av) (mer _ (Cp.av) ?_ ?_) ?_)
    all_goals (try delta Cp.av)
    all_goals (try delta Rg.av)
    all_goals (try delta W2.av)
    all_goals (try delta Tr.av)
    all_goals (try delta Qu.av)
    all_goals first | with_reducible rfl | rfl)
noncomputable def C_35 : Oracle := pureE 35 (pure3 dCp dI64 dBool (fun c cause interrupt => (v_r19_at c cause interrupt).av)) (C_18)
theorem C_35_snd : Snd Try.prog C_35 := pureE_snd (pure3_ok (F := F35) (C_18_snd) Try.func35 (by kernel_rfl) run_35 (fun _ _ _ => rfl)) (C_18_snd)

/- ravelin/ravelinref19.Enter -/
def F19 : Cfg := { F := 400, roots := [0, 1, 2, 3, 4, 5], fl := ⟨true, false⟩ }
theorem run_19 : ∀ (h : Ht) (cause : BitVec 64) (intr : Bool) (value : BitVec 64), stRun Try.prog (C_35) F19 Try.f19 [.ptr ⟨0, 0, 0, 0, 0⟩, .int .i64 cause, .bool intr, .int .u64 value] [(0, ⟨true, h.segs⟩)] = cond ((fun _ _ _ _ => true) (enOf h) cause intr value) (some (enR h.segs (v_r19_Enter (enOf h) cause intr value))) none := fun h cause intr value =>
 (show _ = (cond (intr)
 (cond (((enOf h).p).sle 1#64)
 (cond (v_r19_Bit ((enOf h).mi) cause == 1#64)
 (some (enR h.segs ({ pcc := v_r19_at ((enOf h).stcc) cause intr, sepcc := (enOf h).pcc, mepcc := (enOf h).mepcc, stcc := (enOf h).stcc, mtcc := (enOf h).mtcc, p := 1#64, m := v_r19_Put (v_r19_Put (v_r19_Put ((enOf h).m) (5#64) (v_r19_Bit ((enOf h).m) 1#64)) 1#64 0#64) (8#64) (BitVec.signExtend 64 ((enOf h).p)), md := (enOf h).md, mi := (enOf h).mi, mc := (enOf h).mc, sc := BitVec.signExtend 64 cause ||| 9223372036854775808#64, mt := (enOf h).mt, st := value, w := false })))
 (some (enR h.segs ({ pcc := v_r19_at ((enOf h).mtcc) cause intr, sepcc := (enOf h).sepcc, mepcc := (enOf h).pcc, stcc := (enOf h).stcc, mtcc := (enOf h).mtcc, p := 3#64, m := v_r19_Put (v_r19_Put (v_r19_Put (v_r19_Put ((enOf h).m) (7#64) (v_r19_Bit ((enOf h).m) 3#64)) 3#64 0#64) (11#64) (BitVec.signExtend 64 (((enOf h).p).srem 2#64))) (12#64) (BitVec.signExtend 64 (((enOf h).p).sdiv 2#64)), md := (enOf h).md, mi := (enOf h).mi, mc := BitVec.signExtend 64 cause ||| 9223372036854775808#64, sc := (enOf h).sc, mt := value, st := (enOf h).st, w := false }))))
 (some (enR h.segs ({ pcc := v_r19_at ((enOf h).mtcc) cause intr, sepcc := (enOf h).sepcc, mepcc := (enOf h).pcc, stcc := (enOf h).stcc, mtcc := (enOf h).mtcc, p := 3#64, m := v_r19_Put (v_r19_Put (v_r19_Put (v_r19_Put ((enOf h).m) (7#64) (v_r19_Bit ((enOf h).m) 3#64)) 3#64 0#64) (11#64) (BitVec.signExtend 64 (((enOf h).p).srem 2#64))) (12#64) (BitVec.signExtend 64 (((enOf h).p).sdiv 2#64)), md := (enOf h).md, mi := (enOf h).mi, mc := BitVec.signExtend 64 cause ||| 9223372036854775808#64, sc := (enOf h).sc, mt := value, st := (enOf h).st, w := false }))))
 (cond (((enOf h).p).sle 1#64)
 (cond (v_r19_Bit ((enOf h).md) cause == 1#64)
 (some (enR h.segs ({ pcc := v_r19_at ((enOf h).stcc) cause intr, sepcc := (enOf h).pcc, mepcc := (enOf h).mepcc, stcc := (enOf h).stcc, mtcc := (enOf h).mtcc, p := 1#64, m := v_r19_Put (v_r19_Put (v_r19_Put ((enOf h).m) (5#64) (v_r19_Bit ((enOf h).m) 1#64)) 1#64 0#64) (8#64) (BitVec.signExtend 64 ((enOf h).p)), md := (enOf h).md, mi := (enOf h).mi, mc := (enOf h).mc, sc := BitVec.signExtend 64 cause, mt := (enOf h).mt, st := value, w := false })))
 (some (enR h.segs ({ pcc := v_r19_at ((enOf h).mtcc) cause intr, sepcc := (enOf h).sepcc, mepcc := (enOf h).pcc, stcc := (enOf h).stcc, mtcc := (enOf h).mtcc, p := 3#64, m := v_r19_Put (v_r19_Put (v_r19_Put (v_r19_Put ((enOf h).m) (7#64) (v_r19_Bit ((enOf h).m) 3#64)) 3#64 0#64) (11#64) (BitVec.signExtend 64 (((enOf h).p).srem 2#64))) (12#64) (BitVec.signExtend 64 (((enOf h).p).sdiv 2#64)), md := (enOf h).md, mi := (enOf h).mi, mc := BitVec.signExtend 64 cause, sc := (enOf h).sc, mt := value, st := (enOf h).st, w := false }))))
 (some (enR h.segs ({ pcc := v_r19_at ((enOf h).mtcc) cause intr, sepcc := (enOf h).sepcc, mepcc := (enOf h).pcc, stcc := (enOf h).stcc, mtcc := (enOf h).mtcc, p := 3#64, m := v_r19_Put (v_r19_Put (v_r19_Put (v_r19_Put ((enOf h).m) (7#64) (v_r19_Bit ((enOf h).m) 3#64)) 3#64 0#64) (11#64) (BitVec.signExtend 64 (((enOf h).p).srem 2#64))) (12#64) (BitVec.signExtend 64 (((enOf h).p).sdiv 2#64)), md := (enOf h).md, mi := (enOf h).mi, mc := BitVec.signExtend 64 cause, sc := (enOf h).sc, mt := value, st := (enOf h).st, w := false }))))) by kernel_rfl).trans (by
    delta v_r19_Enter
    exact (merQ (enR h.segs) (merQ (enR h.segs) (merQ (enR h.segs) rfl rfl) rfl) (merQ (enR h.segs) (merQ (enR h.segs) rfl rfl) rfl)))
noncomputable def C_19 : Oracle := stGE 19 (sHt3 (fun _ _ _ _ => true) v_r19_Enter) (C_35)
theorem C_19_snd : Snd Try.prog C_19 := stGE_snd (stOK_of (F := F19) (C_35_snd) Try.func19 (by kernel_rfl) (sHt3_ok run_19)) (C_35_snd)

/- ravelin/ravelinlaw19.TrapTurns -/
def F8 : Cfg := { F := 400, roots := [0, 1, 2, 3, 4, 5, 6, 7, 8], fl := ⟨true, false⟩ }
theorem run_8 : ∀ (h : Ht) (cause : BitVec 64) (interrupt : Bool) (value : BitVec 64) (super : Bool) (raw : BitVec 32), pureRun Try.prog C_19 F8 Try.f8 [h.av, .int .i64 cause, .bool interrupt, .int .u64 value, .bool super, .int .u32 raw] = t_l19_TrapTurns h cause interrupt value super raw := fun h cause interrupt value super raw =>
  by kernel_rfl
theorem snd_8 : Snd Try.prog (C_19) := C_19_snd

end Go.Proofs.Ytpofnfcbgamhpaa

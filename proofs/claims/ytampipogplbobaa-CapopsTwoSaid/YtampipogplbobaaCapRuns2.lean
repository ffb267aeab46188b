import Derived.Test.YtampipogplbobaaSxW
import Derived.Test.YtampipogplbobaaSxY
import Derived.Test.YtampipogplbobaaSxLen2
import Derived.Test.YtampipogplbobaaPlUp
import Derived.Test.YtampipogplbobaaSxMap
import Derived.Test.YtampipogplbobaaVa03
import Derived.Test.YtampipogplbobaaVa05
import Derived.KernelRfl
import Derived.Test.YtampipogplbobaaProg
set_option linter.unusedSimpArgs false
set_option linter.unusedVariables false
set_option linter.unnecessarySimpa false
/- What the functions of the seat answer. -/
namespace Go.Proofs.Ytampipogplbobaa
open Go Go.Sx Go.Proofs
set_option maxRecDepth 100000
set_option maxHeartbeats 4000000

/- ravelin/ravelinkit.Pick -/
def F48 : Cfg := { F := 400, roots := [0, 1, 2], fl := ⟨true, false⟩ }
theorem run_48 : ∀ (k : BitVec 64) (n : BitVec 64), pureRun Try.prog nothing F48 Try.f48 [.int .i64 k, .int .i64 n] = some (.int .i64 (v_kit_Pick k n)) := fun k n =>
 (show pureRun Try.prog nothing F48 Try.f48 [.int .i64 k, .int .i64 n] = t_kit_Pick k n by kernel_rfl).trans (t_kit_Pick_eq k n)
noncomputable def C_48 : Oracle := pureE 48 (pure2 dI64 dI64 (fun k n => .int .i64 (v_kit_Pick k n))) (nothing)
theorem C_48_snd : Snd Try.prog C_48 := pureE_snd (pure2_ok (F := F48) (nothing_snd) Try.func48 (by kernel_rfl) run_48 (fun _ _ => rfl)) (nothing_snd)

/- ravelin/ravelinlaw03.May -/
def F47 : Cfg := { F := 400, roots := [0, 1], fl := ⟨true, false⟩ }
theorem run_47 : ∀ (c : Cp), pureRun Try.prog C_48 F47 Try.f47 [c.av] = some ((v_l03_May c).av) := fun c =>
 (show pureRun Try.prog C_48 F47 Try.f47 [c.av] = (cond (!c.big)
 (some (AV.agg [(AV.bool (c.tag)), (AV.int (IntKind.i64) (c.per)), (AV.int (IntKind.i64) (c.ty)), (AV.int (IntKind.i64) (c.mo)), (AV.int (IntKind.i64) (0#64)), (AV.int (IntKind.i64) (v_kit_Pick c.b 16384#64)), (AV.int (IntKind.i64) (v_kit_Pick c.t 4096#64)), (AV.bool (c.big)), (AV.int (IntKind.u64) (c.ad))]))
 (some (AV.agg [(AV.bool (c.tag)), (AV.int (IntKind.i64) (c.per)), (AV.int (IntKind.i64) (c.ty)), (AV.int (IntKind.i64) (c.mo)), (AV.int (IntKind.i64) (v_kit_Pick c.e 53#64)), (AV.int (IntKind.i64) (v_kit_Pick c.b 16384#64)), (AV.int (IntKind.i64) (v_kit_Pick c.t 4096#64)), (AV.bool (c.big)), (AV.int (IntKind.u64) (c.ad))]))) by kernel_rfl).trans ((mer _ (Cp.av) rfl rfl))
noncomputable def C_47 : Oracle := pureE 47 (pure1 dCp (fun c => (v_l03_May c).av)) (C_48)
theorem C_47_snd : Snd Try.prog C_47 := pureE_snd (pure1_ok (F := F47) (C_48_snd) Try.func47 (by kernel_rfl) run_47 (fun _ => rfl)) (C_48_snd)

/- ravelin/ravelinlaw05.Right -/
def F11 : Cfg := { F := 400, roots := [0, 1], fl := ⟨true, false⟩ }
theorem run_11 : ∀ (c : Cp), pureRun Try.prog C_47 F11 Try.f11 [c.av] = some ((v_l05_Right c).av) := fun c =>
 (show pureRun Try.prog C_47 F11 Try.f11 [c.av] = (cond ((v_l03_May c).big)
 (some (AV.agg [(AV.bool ((v_l03_May c).tag)), (AV.int (IntKind.i64) (v_kit_Pick (v_l03_May c).per 65536#64)), (AV.int (IntKind.i64) (v_kit_Pick (v_l03_May c).ty 262144#64)), (AV.int (IntKind.i64) (v_kit_Pick (v_l03_May c).mo 2#64)), (AV.int (IntKind.i64) ((v_l03_May c).e)), (AV.int (IntKind.i64) ((v_l03_May c).b &&& 18446744073709551608#64)), (AV.int (IntKind.i64) ((v_l03_May c).t &&& 18446744073709551608#64)), (AV.bool ((v_l03_May c).big)), (AV.int (IntKind.u64) ((v_l03_May c).ad))]))
 (some (AV.agg [(AV.bool ((v_l03_May c).tag)), (AV.int (IntKind.i64) (v_kit_Pick (v_l03_May c).per 65536#64)), (AV.int (IntKind.i64) (v_kit_Pick (v_l03_May c).ty 262144#64)), (AV.int (IntKind.i64) (v_kit_Pick (v_l03_May c).mo 2#64)), (AV.int (IntKind.i64) ((v_l03_May c).e)), (AV.int (IntKind.i64) ((v_l03_May c).b)), (AV.int (IntKind.i64) ((v_l03_May c).t)), (AV.bool ((v_l03_May c).big)), (AV.int (IntKind.u64) ((v_l03_May c).ad))]))) by kernel_rfl).trans ((mer _ (Cp.av) rfl rfl))
noncomputable def C_11 : Oracle := pureE 11 (pure1 dCp (fun c => (v_l05_Right c).av)) (C_47)
theorem C_11_snd : Snd Try.prog C_11 := pureE_snd (pure1_ok (F := F11) (C_47_snd) Try.func11 (by kernel_rfl) run_11 (fun _ => rfl)) (C_47_snd)

/- ravelin/capops.Sealed -/
def F18 : Cfg := { F := 400, roots := [0, 1], fl := ⟨true, false⟩ }
theorem run_18 : ∀ (c : Cp), pureRun Try.prog C_11 F18 Try.f18 [c.av] = some (.bool (v_capops_Sealed c)) := fun c =>
 (show pureRun Try.prog C_11 F18 Try.f18 [c.av] = (some (AV.bool (!c.ty == 262143#64))) by kernel_rfl).trans (rfl)
noncomputable def C_18 : Oracle := pureE 18 (pure1 dCp (fun c => .bool (v_capops_Sealed c))) (C_11)
theorem C_18_snd : Snd Try.prog C_18 := pureE_snd (pure1_ok (F := F18) (C_11_snd) Try.func18 (by kernel_rfl) run_18 (fun _ => rfl)) (C_11_snd)

/- ravelin/bounds.truth -/
def F60 : Cfg := { F := 400, roots := [0, 1], fl := ⟨true, false⟩ }
theorem run_60 : ∀ (xis : Bool), pureRun Try.prog C_18 F60 Try.f60 [.bool xis] = some (.int .i64 (v_bounds_truth xis)) := fun xis =>
 (show pureRun Try.prog C_18 F60 Try.f60 [.bool xis] = (cond (xis)
 (some (AV.int (IntKind.i64) (1#64)))
 (some (AV.int (IntKind.i64) (0#64)))) by kernel_rfl).trans ((mer _ (fun p => .int .i64 p) rfl rfl))
noncomputable def C_60 : Oracle := pureE 60 (pure1 dBool (fun xis => .int .i64 (v_bounds_truth xis))) (C_18)
theorem C_60_snd : Snd Try.prog C_60 := pureE_snd (pure1_ok (F := F60) (C_18_snd) Try.func60 (by kernel_rfl) run_60 (fun _ => rfl)) (C_18_snd)

/- ravelin/bounds.top -/
def F59 : Cfg := { F := 400, roots := [0, 1], fl := ⟨true, false⟩ }
theorem run_59 : ∀ (r : Rg), pureRun Try.prog C_60 F59 Try.f59 [r.av] = some ((v_bounds_top r).av) := fun r =>
 (show pureRun Try.prog C_60 F59 Try.f59 [r.av] = (some (AV.agg [(AV.int (IntKind.u64) (BitVec.signExtend 64 (v_bounds_truth r.over))), (AV.int (IntKind.u64) (r.top))])) by kernel_rfl).trans (rfl)
noncomputable def C_59 : Oracle := pureE 59 (pure1 dRg (fun r => (v_bounds_top r).av)) (C_60)
theorem C_59_snd : Snd Try.prog C_59 := pureE_snd (pure1_ok (F := F59) (C_60_snd) Try.func59 (by kernel_rfl) run_59 (fun _ => rfl)) (C_60_snd)
noncomputable def C_94 : Oracle := pureE 94 add64S (C_59)
theorem C_94_snd : Snd Try.prog C_94 := pureE_snd (add64_ok Try.func94 (by kernel_rfl) (by kernel_rfl) (by kernel_rfl) (by kernel_rfl)) (C_59_snd)

/- (ravelin/bounds.number).plus -/
def F57 : Cfg := { F := 400, roots := [0, 1, 2, 3, 4], fl := ⟨true, false⟩ }
theorem run_57 : ∀ (a : W2) (xb : W2), pureRun Try.prog C_94 F57 Try.f57 [a.av, xb.av] = some ((v_bounds_number_plus a xb).av) := fun a xb =>
 (show pureRun Try.prog C_94 F57 Try.f57 [a.av, xb.av] = (some (AV.agg [(AV.int (IntKind.u64) ((a.hi + xb.hi + bif (a.lo + xb.lo).ult a.lo then 1#64 else 0#64) &&& 1#64)), (AV.int (IntKind.u64) (a.lo + xb.lo))])) by kernel_rfl).trans (rfl)
noncomputable def C_57 : Oracle := pureE 57 (pure2 dW2 dW2 (fun a xb => (v_bounds_number_plus a xb).av)) (C_94)
theorem C_57_snd : Snd Try.prog C_57 := pureE_snd (pure2_ok (F := F57) (C_94_snd) Try.func57 (by kernel_rfl) run_57 (fun _ _ => rfl)) (C_94_snd)

/- (ravelin/bounds.number).above -/
def F58 : Cfg := { F := 400, roots := [0, 1, 2], fl := ⟨true, false⟩ }
theorem run_58 : ∀ (a : W2) (xb : W2), pureRun Try.prog C_57 F58 Try.f58 [a.av, xb.av] = some (.bool (v_bounds_number_above a xb)) := fun a xb =>
 (show pureRun Try.prog C_57 F58 Try.f58 [a.av, xb.av] = (cond (xb.hi.ult a.hi)
 (some (AV.bool (true)))
 (cond (a.hi == xb.hi)
  (some (AV.bool (xb.lo.ult a.lo)))
  (some (AV.bool (false))))) by kernel_rfl).trans ((mer _ (fun p => .bool p) rfl (mer _ (fun p => .bool p) rfl rfl)))
noncomputable def C_58 : Oracle := pureE 58 (pure2 dW2 dW2 (fun a xb => .bool (v_bounds_number_above a xb))) (C_57)
theorem C_58_snd : Snd Try.prog C_58 := pureE_snd (pure2_ok (F := F58) (C_57_snd) Try.func58 (by kernel_rfl) run_58 (fun _ _ => rfl)) (C_57_snd)

/- ravelin/bounds.In -/
def F16 : Cfg := { F := 400, roots := [0, 1, 2, 3], fl := ⟨true, false⟩ }
theorem run_16 : ∀ (r : Rg) (xat : BitVec 64) (n : BitVec 64), pureRun Try.prog C_58 F16 Try.f16 [r.av, .int .u64 xat, .int .i64 n] = some (.bool (v_bounds_In r xat n)) := fun r xat n =>
 (show pureRun Try.prog C_58 F16 Try.f16 [r.av, .int .u64 xat, .int .i64 n] = (cond ((0#64).sle n)
 (cond (r.base.ule xat)
  (some (AV.bool (!v_bounds_number_above (v_bounds_number_plus { hi := 0#64, lo := xat } { hi := 0#64, lo := BitVec.signExtend 64 n }) (v_bounds_top r))))
  (some (AV.bool (false))))
 (some (AV.bool (false)))) by kernel_rfl).trans ((mer _ (fun p => .bool p) (mer _ (fun p => .bool p) rfl rfl) rfl))
noncomputable def C_16 : Oracle := pureE 16 (pure3 dRg dU64 dI64 (fun r xat n => .bool (v_bounds_In r xat n))) (C_58)
theorem C_16_snd : Snd Try.prog C_16 := pureE_snd (pure3_ok (F := F16) (C_58_snd) Try.func16 (by kernel_rfl) run_16 (fun _ _ _ => rfl)) (C_58_snd)

/- ravelin/bounds.signed -/
def F62 : Cfg := { F := 400, roots := [0, 1], fl := ⟨true, false⟩ }
theorem run_62 : ∀ (v : BitVec 64), pureRun Try.prog C_16 F62 Try.f62 [.int .i64 v] = some ((v_bounds_signed v).av) := fun v =>
 (show pureRun Try.prog C_16 F62 Try.f62 [.int .i64 v] = (some (AV.agg [(AV.int (IntKind.u64) (BitVec.signExtend 64 v >>> 63)), (AV.int (IntKind.u64) (BitVec.signExtend 64 v))])) by kernel_rfl).trans (rfl)
noncomputable def C_62 : Oracle := pureE 62 (pure1 dI64 (fun v => (v_bounds_signed v).av)) (C_16)
theorem C_62_snd : Snd Try.prog C_62 := pureE_snd (pure1_ok (F := F62) (C_16_snd) Try.func62 (by kernel_rfl) run_62 (fun _ => rfl)) (C_16_snd)

/- (ravelin/bounds.number).up -/
def F63 : Cfg := { F := 400, roots := [0, 1, 2], fl := ⟨true, false⟩ }
theorem run_63 : ∀ (a : W2) (n : BitVec 64), pureRun Try.prog C_62 F63 Try.f63 [a.av, .int .i64 n] = cond (g_bounds_number_up a n) (some ((v_bounds_number_up a n).av)) none := fun a n =>
 (show pureRun Try.prog C_62 F63 Try.f63 [a.av, .int .i64 n] = (cond (n == 0#64)
 (some (AV.agg [(AV.int (IntKind.u64) (a.hi)), (AV.int (IntKind.u64) (a.lo))]))
 (cond ((65#64).sle n)
  (some (AV.agg [(AV.int (IntKind.u64) (0#64)), (AV.int (IntKind.u64) (0#64))]))
  (cond (n == 64#64)
   (some (AV.agg [(AV.int (IntKind.u64) (a.lo &&& 1#64)), (AV.int (IntKind.u64) (0#64))]))
   (cond (nonneg IntKind.i64 (64#64 - n))
    (cond (nonneg IntKind.i64 n)
     (some (AV.agg [(AV.int (IntKind.u64) (a.lo >>> min (64#64 - n).toNat 64 &&& 1#64)), (AV.int (IntKind.u64) (a.lo <<< min n.toNat 64))]))
     none)
    none)))) by kernel_rfl).trans ((merG _ (W2.av) rfl (merG _ (W2.av) rfl (merG _ (W2.av) rfl (merR _ (W2.av) (merR _ (W2.av) rfl))))))
noncomputable def C_63 : Oracle := pureGE 63 (pure2 dW2 dI64 (fun a n => .tup [.bool (g_bounds_number_up a n), (v_bounds_number_up a n).av])) (C_62)
theorem C_63_snd : Snd Try.prog C_63 := pureGE_snd (pure2_gok (F := F63) (C_62_snd) Try.func63 (by kernel_rfl) run_63 (fun _ _ => rfl)) (C_62_snd)

/- ravelin/bounds.Of$1 -/
def F61 : Cfg := { F := 400, roots := [0, 1, 2], fl := ⟨true, false⟩ }
noncomputable def C_61 : Oracle := quietE Try.prog 61 Try.f61 F61 C_63 (C_63)
theorem C_61_snd : Snd Try.prog C_61 := quietE_snd Try.func61 (by kernel_rfl) C_63_snd C_63_snd

/- ravelin/bounds.Of -/
def F17 : Cfg := { F := 400, roots := [0, 1, 2, 3, 4, 5, 6, 7, 8], fl := ⟨true, false⟩ }
theorem run_17 : ∀ (c : Cp), pureRun Try.prog C_61 F17 Try.f17 [c.av] = cond (g_bounds_Of c) (some ((v_bounds_Of c).av)) none := fun c =>
 (show pureRun Try.prog C_61 F17 Try.f17 [c.av] = (cond (nonneg IntKind.i64 c.e)
 (cond ((c.e + 14#64).slt 64#64)
  (cond (nonneg IntKind.i64 (c.e + 14#64))
   (cond (g_bounds_number_up (v_bounds_signed (BitVec.setWidth 64 (c.ad >>> min (c.e + 14#64).toNat 64) + (v_bounds_truth (c.b.slt ((c.b.sshiftRight 11 - 1#64 &&& 7#64) <<< 11)) - v_bounds_truth ((BitVec.setWidth 64 (c.ad >>> min c.e.toNat 64) &&& 16383#64).slt ((c.b.sshiftRight 11 - 1#64 &&& 7#64) <<< 11))))) (c.e + 14#64))
    (cond (g_bounds_number_up { hi := 0#64, lo := BitVec.signExtend 64 c.b } c.e)
     (cond (g_bounds_number_up (v_bounds_signed (BitVec.setWidth 64 (c.ad >>> min (c.e + 14#64).toNat 64) + (v_bounds_truth ((c.t ||| (c.b.sshiftRight 12 + v_bounds_truth (c.t.slt (c.b &&& 4095#64)) + v_bounds_truth c.big &&& 3#64) <<< 12).slt ((c.b.sshiftRight 11 - 1#64 &&& 7#64) <<< 11)) - v_bounds_truth ((BitVec.setWidth 64 (c.ad >>> min c.e.toNat 64) &&& 16383#64).slt ((c.b.sshiftRight 11 - 1#64 &&& 7#64) <<< 11))))) (c.e + 14#64))
      (cond (g_bounds_number_up { hi := 0#64, lo := BitVec.signExtend 64 (c.t ||| (c.b.sshiftRight 12 + v_bounds_truth (c.t.slt (c.b &&& 4095#64)) + v_bounds_truth c.big &&& 3#64) <<< 12) } c.e)
       (cond (c.e.slt 51#64)
        (cond ((1#64).ult ((v_bounds_number_plus (v_bounds_number_up (v_bounds_signed (BitVec.setWidth 64 (c.ad >>> min (c.e + 14#64).toNat 64) + (v_bounds_truth ((c.t ||| (c.b.sshiftRight 12 + v_bounds_truth (c.t.slt (c.b &&& 4095#64)) + v_bounds_truth c.big &&& 3#64) <<< 12).slt ((c.b.sshiftRight 11 - 1#64 &&& 7#64) <<< 11)) - v_bounds_truth ((BitVec.setWidth 64 (c.ad >>> min c.e.toNat 64) &&& 16383#64).slt ((c.b.sshiftRight 11 - 1#64 &&& 7#64) <<< 11))))) (c.e + 14#64)) (v_bounds_number_up { hi := 0#64, lo := BitVec.signExtend 64 (c.t ||| (c.b.sshiftRight 12 + v_bounds_truth (c.t.slt (c.b &&& 4095#64)) + v_bounds_truth c.big &&& 3#64) <<< 12) } c.e)).hi <<< 1 + (v_bounds_number_plus (v_bounds_number_up (v_bounds_signed (BitVec.setWidth 64 (c.ad >>> min (c.e + 14#64).toNat 64) + (v_bounds_truth ((c.t ||| (c.b.sshiftRight 12 + v_bounds_truth (c.t.slt (c.b &&& 4095#64)) + v_bounds_truth c.big &&& 3#64) <<< 12).slt ((c.b.sshiftRight 11 - 1#64 &&& 7#64) <<< 11)) - v_bounds_truth ((BitVec.setWidth 64 (c.ad >>> min c.e.toNat 64) &&& 16383#64).slt ((c.b.sshiftRight 11 - 1#64 &&& 7#64) <<< 11))))) (c.e + 14#64)) (v_bounds_number_up { hi := 0#64, lo := BitVec.signExtend 64 (c.t ||| (c.b.sshiftRight 12 + v_bounds_truth (c.t.slt (c.b &&& 4095#64)) + v_bounds_truth c.big &&& 3#64) <<< 12) } c.e)).lo >>> 63 - (v_bounds_number_plus (v_bounds_number_up (v_bounds_signed (BitVec.setWidth 64 (c.ad >>> min (c.e + 14#64).toNat 64) + (v_bounds_truth (c.b.slt ((c.b.sshiftRight 11 - 1#64 &&& 7#64) <<< 11)) - v_bounds_truth ((BitVec.setWidth 64 (c.ad >>> min c.e.toNat 64) &&& 16383#64).slt ((c.b.sshiftRight 11 - 1#64 &&& 7#64) <<< 11))))) (c.e + 14#64)) (v_bounds_number_up { hi := 0#64, lo := BitVec.signExtend 64 c.b } c.e)).lo >>> 63 &&& 3#64))
         (some (AV.agg [(AV.int (IntKind.u64) ((v_bounds_number_plus (v_bounds_number_up (v_bounds_signed (BitVec.setWidth 64 (c.ad >>> min (c.e + 14#64).toNat 64) + (v_bounds_truth (c.b.slt ((c.b.sshiftRight 11 - 1#64 &&& 7#64) <<< 11)) - v_bounds_truth ((BitVec.setWidth 64 (c.ad >>> min c.e.toNat 64) &&& 16383#64).slt ((c.b.sshiftRight 11 - 1#64 &&& 7#64) <<< 11))))) (c.e + 14#64)) (v_bounds_number_up { hi := 0#64, lo := BitVec.signExtend 64 c.b } c.e)).lo)), (AV.int (IntKind.u64) ((v_bounds_number_plus (v_bounds_number_up (v_bounds_signed (BitVec.setWidth 64 (c.ad >>> min (c.e + 14#64).toNat 64) + (v_bounds_truth ((c.t ||| (c.b.sshiftRight 12 + v_bounds_truth (c.t.slt (c.b &&& 4095#64)) + v_bounds_truth c.big &&& 3#64) <<< 12).slt ((c.b.sshiftRight 11 - 1#64 &&& 7#64) <<< 11)) - v_bounds_truth ((BitVec.setWidth 64 (c.ad >>> min c.e.toNat 64) &&& 16383#64).slt ((c.b.sshiftRight 11 - 1#64 &&& 7#64) <<< 11))))) (c.e + 14#64)) (v_bounds_number_up { hi := 0#64, lo := BitVec.signExtend 64 (c.t ||| (c.b.sshiftRight 12 + v_bounds_truth (c.t.slt (c.b &&& 4095#64)) + v_bounds_truth c.big &&& 3#64) <<< 12) } c.e)).lo)), (AV.bool ((v_bounds_number_plus (v_bounds_number_up (v_bounds_signed (BitVec.setWidth 64 (c.ad >>> min (c.e + 14#64).toNat 64) + (v_bounds_truth ((c.t ||| (c.b.sshiftRight 12 + v_bounds_truth (c.t.slt (c.b &&& 4095#64)) + v_bounds_truth c.big &&& 3#64) <<< 12).slt ((c.b.sshiftRight 11 - 1#64 &&& 7#64) <<< 11)) - v_bounds_truth ((BitVec.setWidth 64 (c.ad >>> min c.e.toNat 64) &&& 16383#64).slt ((c.b.sshiftRight 11 - 1#64 &&& 7#64) <<< 11))))) (c.e + 14#64)) (v_bounds_number_up { hi := 0#64, lo := BitVec.signExtend 64 (c.t ||| (c.b.sshiftRight 12 + v_bounds_truth (c.t.slt (c.b &&& 4095#64)) + v_bounds_truth c.big &&& 3#64) <<< 12) } c.e)).hi ^^^ 1#64 == 1#64))]))
         (some (AV.agg [(AV.int (IntKind.u64) ((v_bounds_number_plus (v_bounds_number_up (v_bounds_signed (BitVec.setWidth 64 (c.ad >>> min (c.e + 14#64).toNat 64) + (v_bounds_truth (c.b.slt ((c.b.sshiftRight 11 - 1#64 &&& 7#64) <<< 11)) - v_bounds_truth ((BitVec.setWidth 64 (c.ad >>> min c.e.toNat 64) &&& 16383#64).slt ((c.b.sshiftRight 11 - 1#64 &&& 7#64) <<< 11))))) (c.e + 14#64)) (v_bounds_number_up { hi := 0#64, lo := BitVec.signExtend 64 c.b } c.e)).lo)), (AV.int (IntKind.u64) ((v_bounds_number_plus (v_bounds_number_up (v_bounds_signed (BitVec.setWidth 64 (c.ad >>> min (c.e + 14#64).toNat 64) + (v_bounds_truth ((c.t ||| (c.b.sshiftRight 12 + v_bounds_truth (c.t.slt (c.b &&& 4095#64)) + v_bounds_truth c.big &&& 3#64) <<< 12).slt ((c.b.sshiftRight 11 - 1#64 &&& 7#64) <<< 11)) - v_bounds_truth ((BitVec.setWidth 64 (c.ad >>> min c.e.toNat 64) &&& 16383#64).slt ((c.b.sshiftRight 11 - 1#64 &&& 7#64) <<< 11))))) (c.e + 14#64)) (v_bounds_number_up { hi := 0#64, lo := BitVec.signExtend 64 (c.t ||| (c.b.sshiftRight 12 + v_bounds_truth (c.t.slt (c.b &&& 4095#64)) + v_bounds_truth c.big &&& 3#64) <<< 12) } c.e)).lo)), (AV.bool ((v_bounds_number_plus (v_bounds_number_up (v_bounds_signed (BitVec.setWidth 64 (c.ad >>> min (c.e + 14#64).toNat 64) + (v_bounds_truth ((c.t ||| (c.b.sshiftRight 12 + v_bounds_truth (c.t.slt (c.b &&& 4095#64)) + v_bounds_truth c.big &&& 3#64) <<< 12).slt ((c.b.sshiftRight 11 - 1#64 &&& 7#64) <<< 11)) - v_bounds_truth ((BitVec.setWidth 64 (c.ad >>> min c.e.toNat 64) &&& 16383#64).slt ((c.b.sshiftRight 11 - 1#64 &&& 7#64) <<< 11))))) (c.e + 14#64)) (v_bounds_number_up { hi := 0#64, lo := BitVec.signExtend 64 (c.t ||| (c.b.sshiftRight 12 + v_bounds_truth (c.t.slt (c.b &&& 4095#64)) + v_bounds_truth c.big &&& 3#64) <<< 12) } c.e)).hi == 1#64))])))
        (some (AV.agg [(AV.int (IntKind.u64) ((v_bounds_number_plus (v_bounds_number_up (v_bounds_signed (BitVec.setWidth 64 (c.ad >>> min (c.e + 14#64).toNat 64) + (v_bounds_truth (c.b.slt ((c.b.sshiftRight 11 - 1#64 &&& 7#64) <<< 11)) - v_bounds_truth ((BitVec.setWidth 64 (c.ad >>> min c.e.toNat 64) &&& 16383#64).slt ((c.b.sshiftRight 11 - 1#64 &&& 7#64) <<< 11))))) (c.e + 14#64)) (v_bounds_number_up { hi := 0#64, lo := BitVec.signExtend 64 c.b } c.e)).lo)), (AV.int (IntKind.u64) ((v_bounds_number_plus (v_bounds_number_up (v_bounds_signed (BitVec.setWidth 64 (c.ad >>> min (c.e + 14#64).toNat 64) + (v_bounds_truth ((c.t ||| (c.b.sshiftRight 12 + v_bounds_truth (c.t.slt (c.b &&& 4095#64)) + v_bounds_truth c.big &&& 3#64) <<< 12).slt ((c.b.sshiftRight 11 - 1#64 &&& 7#64) <<< 11)) - v_bounds_truth ((BitVec.setWidth 64 (c.ad >>> min c.e.toNat 64) &&& 16383#64).slt ((c.b.sshiftRight 11 - 1#64 &&& 7#64) <<< 11))))) (c.e + 14#64)) (v_bounds_number_up { hi := 0#64, lo := BitVec.signExtend 64 (c.t ||| (c.b.sshiftRight 12 + v_bounds_truth (c.t.slt (c.b &&& 4095#64)) + v_bounds_truth c.big &&& 3#64) <<< 12) } c.e)).lo)), (AV.bool ((v_bounds_number_plus (v_bounds_number_up (v_bounds_signed (BitVec.setWidth 64 (c.ad >>> min (c.e + 14#64).toNat 64) + (v_bounds_truth ((c.t ||| (c.b.sshiftRight 12 + v_bounds_truth (c.t.slt (c.b &&& 4095#64)) + v_bounds_truth c.big &&& 3#64) <<< 12).slt ((c.b.sshiftRight 11 - 1#64 &&& 7#64) <<< 11)) - v_bounds_truth ((BitVec.setWidth 64 (c.ad >>> min c.e.toNat 64) &&& 16383#64).slt ((c.b.sshiftRight 11 - 1#64 &&& 7#64) <<< 11))))) (c.e + 14#64)) (v_bounds_number_up { hi := 0#64, lo := BitVec.signExtend 64 (c.t ||| (c.b.sshiftRight 12 + v_bounds_truth (c.t.slt (c.b &&& 4095#64)) + v_bounds_truth c.big &&& 3#64) <<< 12) } c.e)).hi == 1#64))])))
       none)
      none)
     none)
    none)
   none)
  (cond (g_bounds_number_up (v_bounds_signed (0#64 + (v_bounds_truth (c.b.slt ((c.b.sshiftRight 11 - 1#64 &&& 7#64) <<< 11)) - v_bounds_truth ((BitVec.setWidth 64 (c.ad >>> min c.e.toNat 64) &&& 16383#64).slt ((c.b.sshiftRight 11 - 1#64 &&& 7#64) <<< 11))))) (c.e + 14#64))
   (cond (g_bounds_number_up { hi := 0#64, lo := BitVec.signExtend 64 c.b } c.e)
    (cond (g_bounds_number_up (v_bounds_signed (0#64 + (v_bounds_truth ((c.t ||| (c.b.sshiftRight 12 + v_bounds_truth (c.t.slt (c.b &&& 4095#64)) + v_bounds_truth c.big &&& 3#64) <<< 12).slt ((c.b.sshiftRight 11 - 1#64 &&& 7#64) <<< 11)) - v_bounds_truth ((BitVec.setWidth 64 (c.ad >>> min c.e.toNat 64) &&& 16383#64).slt ((c.b.sshiftRight 11 - 1#64 &&& 7#64) <<< 11))))) (c.e + 14#64))
     (cond (g_bounds_number_up { hi := 0#64, lo := BitVec.signExtend 64 (c.t ||| (c.b.sshiftRight 12 + v_bounds_truth (c.t.slt (c.b &&& 4095#64)) + v_bounds_truth c.big &&& 3#64) <<< 12) } c.e)
      (cond (c.e.slt 51#64)
       (cond ((1#64).ult ((v_bounds_number_plus (v_bounds_number_up (v_bounds_signed (0#64 + (v_bounds_truth ((c.t ||| (c.b.sshiftRight 12 + v_bounds_truth (c.t.slt (c.b &&& 4095#64)) + v_bounds_truth c.big &&& 3#64) <<< 12).slt ((c.b.sshiftRight 11 - 1#64 &&& 7#64) <<< 11)) - v_bounds_truth ((BitVec.setWidth 64 (c.ad >>> min c.e.toNat 64) &&& 16383#64).slt ((c.b.sshiftRight 11 - 1#64 &&& 7#64) <<< 11))))) (c.e + 14#64)) (v_bounds_number_up { hi := 0#64, lo := BitVec.signExtend 64 (c.t ||| (c.b.sshiftRight 12 + v_bounds_truth (c.t.slt (c.b &&& 4095#64)) + v_bounds_truth c.big &&& 3#64) <<< 12) } c.e)).hi <<< 1 + (v_bounds_number_plus (v_bounds_number_up (v_bounds_signed (0#64 + (v_bounds_truth ((c.t ||| (c.b.sshiftRight 12 + v_bounds_truth (c.t.slt (c.b &&& 4095#64)) + v_bounds_truth c.big &&& 3#64) <<< 12).slt ((c.b.sshiftRight 11 - 1#64 &&& 7#64) <<< 11)) - v_bounds_truth ((BitVec.setWidth 64 (c.ad >>> min c.e.toNat 64) &&& 16383#64).slt ((c.b.sshiftRight 11 - 1#64 &&& 7#64) <<< 11))))) (c.e + 14#64)) (v_bounds_number_up { hi := 0#64, lo := BitVec.signExtend 64 (c.t ||| (c.b.sshiftRight 12 + v_bounds_truth (c.t.slt (c.b &&& 4095#64)) + v_bounds_truth c.big &&& 3#64) <<< 12) } c.e)).lo >>> 63 - (v_bounds_number_plus (v_bounds_number_up (v_bounds_signed (0#64 + (v_bounds_truth (c.b.slt ((c.b.sshiftRight 11 - 1#64 &&& 7#64) <<< 11)) - v_bounds_truth ((BitVec.setWidth 64 (c.ad >>> min c.e.toNat 64) &&& 16383#64).slt ((c.b.sshiftRight 11 - 1#64 &&& 7#64) <<< 11))))) (c.e + 14#64)) (v_bounds_number_up { hi := 0#64, lo := BitVec.signExtend 64 c.b } c.e)).lo >>> 63 &&& 3#64))
        (some (AV.agg [(AV.int (IntKind.u64) ((v_bounds_number_plus (v_bounds_number_up (v_bounds_signed (0#64 + (v_bounds_truth (c.b.slt ((c.b.sshiftRight 11 - 1#64 &&& 7#64) <<< 11)) - v_bounds_truth ((BitVec.setWidth 64 (c.ad >>> min c.e.toNat 64) &&& 16383#64).slt ((c.b.sshiftRight 11 - 1#64 &&& 7#64) <<< 11))))) (c.e + 14#64)) (v_bounds_number_up { hi := 0#64, lo := BitVec.signExtend 64 c.b } c.e)).lo)), (AV.int (IntKind.u64) ((v_bounds_number_plus (v_bounds_number_up (v_bounds_signed (0#64 + (v_bounds_truth ((c.t ||| (c.b.sshiftRight 12 + v_bounds_truth (c.t.slt (c.b &&& 4095#64)) + v_bounds_truth c.big &&& 3#64) <<< 12).slt ((c.b.sshiftRight 11 - 1#64 &&& 7#64) <<< 11)) - v_bounds_truth ((BitVec.setWidth 64 (c.ad >>> min c.e.toNat 64) &&& 16383#64).slt ((c.b.sshiftRight 11 - 1#64 &&& 7#64) <<< 11))))) (c.e + 14#64)) (v_bounds_number_up { hi := 0#64, lo := BitVec.signExtend 64 (c.t ||| (c.b.sshiftRight 12 + v_bounds_truth (c.t.slt (c.b &&& 4095#64)) + v_bounds_truth c.big &&& 3#64) <<< 12) } c.e)).lo)), (AV.bool ((v_bounds_number_plus (v_bounds_number_up (v_bounds_signed (0#64 + (v_bounds_truth ((c.t ||| (c.b.sshiftRight 12 + v_bounds_truth (c.t.slt (c.b &&& 4095#64)) + v_bounds_truth c.big &&& 3#64) <<< 12).slt ((c.b.sshiftRight 11 - 1#64 &&& 7#64) <<< 11)) - v_bounds_truth ((BitVec.setWidth 64 (c.ad >>> min c.e.toNat 64) &&& 16383#64).slt ((c.b.sshiftRight 11 - 1#64 &&& 7#64) <<< 11))))) (c.e + 14#64)) (v_bounds_number_up { hi := 0#64, lo := BitVec.signExtend 64 (c.t ||| (c.b.sshiftRight 12 + v_bounds_truth (c.t.slt (c.b &&& 4095#64)) + v_bounds_truth c.big &&& 3#64) <<< 12) } c.e)).hi ^^^ 1#64 == 1#64))]))
        (some (AV.agg [(AV.int (IntKind.u64) ((v_bounds_number_plus (v_bounds_number_up (v_bounds_signed (0#64 + (v_bounds_truth (c.b.slt ((c.b.sshiftRight 11 - 1#64 &&& 7#64) <<< 11)) - v_bounds_truth ((BitVec.setWidth 64 (c.ad >>> min c.e.toNat 64) &&& 16383#64).slt ((c.b.sshiftRight 11 - 1#64 &&& 7#64) <<< 11))))) (c.e + 14#64)) (v_bounds_number_up { hi := 0#64, lo := BitVec.signExtend 64 c.b } c.e)).lo)), (AV.int (IntKind.u64) ((v_bounds_number_plus (v_bounds_number_up (v_bounds_signed (0#64 + (v_bounds_truth ((c.t ||| (c.b.sshiftRight 12 + v_bounds_truth (c.t.slt (c.b &&& 4095#64)) + v_bounds_truth c.big &&& 3#64) <<< 12).slt ((c.b.sshiftRight 11 - 1#64 &&& 7#64) <<< 11)) - v_bounds_truth ((BitVec.setWidth 64 (c.ad >>> min c.e.toNat 64) &&& 16383#64).slt ((c.b.sshiftRight 11 - 1#64 &&& 7#64) <<< 11))))) (c.e + 14#64)) (v_bounds_number_up { hi := 0#64, lo := BitVec.signExtend 64 (c.t ||| (c.b.sshiftRight 12 + v_bounds_truth (c.t.slt (c.b &&& 4095#64)) + v_bounds_truth c.big &&& 3#64) <<< 12) } c.e)).lo)), (AV.bool ((v_bounds_number_plus (v_bounds_number_up (v_bounds_signed (0#64 + (v_bounds_truth ((c.t ||| (c.b.sshiftRight 12 + v_bounds_truth (c.t.slt (c.b &&& 4095#64)) + v_bounds_truth c.big &&& 3#64) <<< 12).slt ((c.b.sshiftRight 11 - 1#64 &&& 7#64) <<< 11)) - v_bounds_truth ((BitVec.setWidth 64 (c.ad >>> min c.e.toNat 64) &&& 16383#64).slt ((c.b.sshiftRight 11 - 1#64 &&& 7#64) <<< 11))))) (c.e + 14#64)) (v_bounds_number_up { hi := 0#64, lo := BitVec.signExtend 64 (c.t ||| (c.b.sshiftRight 12 + v_bounds_truth (c.t.slt (c.b &&& 4095#64)) + v_bounds_truth c.big &&& 3#64) <<< 12) } c.e)).hi == 1#64))])))
       (some (AV.agg [(AV.int (IntKind.u64) ((v_bounds_number_plus (v_bounds_number_up (v_bounds_signed (0#64 + (v_bounds_truth (c.b.slt ((c.b.sshiftRight 11 - 1#64 &&& 7#64) <<< 11)) - v_bounds_truth ((BitVec.setWidth 64 (c.ad >>> min c.e.toNat 64) &&& 16383#64).slt ((c.b.sshiftRight 11 - 1#64 &&& 7#64) <<< 11))))) (c.e + 14#64)) (v_bounds_number_up { hi := 0#64, lo := BitVec.signExtend 64 c.b } c.e)).lo)), (AV.int (IntKind.u64) ((v_bounds_number_plus (v_bounds_number_up (v_bounds_signed (0#64 + (v_bounds_truth ((c.t ||| (c.b.sshiftRight 12 + v_bounds_truth (c.t.slt (c.b &&& 4095#64)) + v_bounds_truth c.big &&& 3#64) <<< 12).slt ((c.b.sshiftRight 11 - 1#64 &&& 7#64) <<< 11)) - v_bounds_truth ((BitVec.setWidth 64 (c.ad >>> min c.e.toNat 64) &&& 16383#64).slt ((c.b.sshiftRight 11 - 1#64 &&& 7#64) <<< 11))))) (c.e + 14#64)) (v_bounds_number_up { hi := 0#64, lo := BitVec.signExtend 64 (c.t ||| (c.b.sshiftRight 12 + v_bounds_truth (c.t.slt (c.b &&& 4095#64)) + v_bounds_truth c.big &&& 3#64) <<< 12) } c.e)).lo)), (AV.bool ((v_bounds_number_plus (v_bounds_number_up (v_bounds_signed (0#64 + (v_bounds_truth ((c.t ||| (c.b.sshiftRight 12 + v_bounds_truth (c.t.slt (c.b &&& 4095#64)) + v_bounds_truth c.big &&& 3#64) <<< 12).slt ((c.b.sshiftRight 11 - 1#64 &&& 7#64) <<< 11)) - v_bounds_truth ((BitVec.setWidth 64 (c.ad >>> min c.e.toNat 64) &&& 16383#64).slt ((c.b.sshiftRight 11 - 1#64 &&& 7#64) <<< 11))))) (c.e + 14#64)) (v_bounds_number_up { hi := 0#64, lo := BitVec.signExtend 64 (c.t ||| (c.b.sshiftRight 12 + v_bounds_truth (c.t.slt (c.b &&& 4095#64)) + v_bounds_truth c.big &&& 3#64) <<< 12) } c.e)).hi == 1#64))])))
      none)
     none)
    none)
   none))
 none) by kernel_rfl).trans ((merR _ (Rg.av) (merG _ (Rg.av) (merR _ (Rg.av) (merR _ (Rg.av) (merR _ (Rg.av) (merR _ (Rg.av) (merR _ (Rg.av) (merG _ (Rg.av) (merG _ (Rg.av) rfl rfl) rfl)))))) (merR _ (Rg.av) (merR _ (Rg.av) (merR _ (Rg.av) (merR _ (Rg.av) (merG _ (Rg.av) (merG _ (Rg.av) rfl rfl) rfl))))))))
noncomputable def C_17 : Oracle := pureGE 17 (pure1 dCp (fun c => .tup [.bool (g_bounds_Of c), (v_bounds_Of c).av])) (C_61)
theorem C_17_snd : Snd Try.prog C_17 := pureGE_snd (pure1_gok (F := F17) (C_61_snd) Try.func17 (by kernel_rfl) run_17 (fun _ => rfl)) (C_61_snd)

/- ravelin/capops.seals -/
def F55 : Cfg := { F := 400, roots := [0, 1, 2], fl := ⟨true, false⟩ }
theorem run_55 : ∀ (xby : Cp) (perm : BitVec 64), pureRun Try.prog C_17 F55 Try.f55 [xby.av, .int .i64 perm] = cond (g_capops_seals xby perm) (some (.bool (v_capops_seals xby perm))) none := fun xby perm =>
 (show pureRun Try.prog C_17 F55 Try.f55 [xby.av, .int .i64 perm] = (cond (xby.tag)
 (cond (!v_capops_Sealed xby)
  (cond (!xby.per &&& perm == 0#64)
   (cond (g_bounds_Of xby)
    (some (AV.bool (v_bounds_In (v_bounds_Of xby) xby.ad 1#64)))
    none)
   (some (AV.bool (false))))
  (some (AV.bool (false))))
 (some (AV.bool (false)))) by kernel_rfl).trans ((merG _ (fun p => .bool p) (merG _ (fun p => .bool p) (merG _ (fun p => .bool p) (merR _ (fun p => .bool p) rfl) rfl) rfl) rfl))
noncomputable def C_55 : Oracle := pureGE 55 (pure2 dCp dI64 (fun xby perm => .tup [.bool (g_capops_seals xby perm), .bool (v_capops_seals xby perm)])) (C_17)
theorem C_55_snd : Snd Try.prog C_55 := pureGE_snd (pure2_gok (F := F55) (C_17_snd) Try.func55 (by kernel_rfl) run_55 (fun _ _ => rfl)) (C_17_snd)

/- ravelin/capops.keep -/
def F56 : Cfg := { F := 400, roots := [0, 1, 2], fl := ⟨true, false⟩ }
theorem run_56 : ∀ (c : Cp) (xis : Bool), pureRun Try.prog C_55 F56 Try.f56 [c.av, .bool xis] = some ((v_capops_keep c xis).av) := fun c xis =>
 (show pureRun Try.prog C_55 F56 Try.f56 [c.av, .bool xis] = (cond (c.tag)
 (some (AV.agg [(AV.bool (xis)), (AV.int (IntKind.i64) (c.per)), (AV.int (IntKind.i64) (c.ty)), (AV.int (IntKind.i64) (c.mo)), (AV.int (IntKind.i64) (c.e)), (AV.int (IntKind.i64) (c.b)), (AV.int (IntKind.i64) (c.t)), (AV.bool (c.big)), (AV.int (IntKind.u64) (c.ad))]))
 (some (AV.agg [(AV.bool (false)), (AV.int (IntKind.i64) (c.per)), (AV.int (IntKind.i64) (c.ty)), (AV.int (IntKind.i64) (c.mo)), (AV.int (IntKind.i64) (c.e)), (AV.int (IntKind.i64) (c.b)), (AV.int (IntKind.i64) (c.t)), (AV.bool (c.big)), (AV.int (IntKind.u64) (c.ad))]))) by kernel_rfl).trans ((mer _ (Cp.av) rfl rfl))
noncomputable def C_56 : Oracle := pureE 56 (pure2 dCp dBool (fun c xis => (v_capops_keep c xis).av)) (C_55)
theorem C_56_snd : Snd Try.prog C_56 := pureE_snd (pure2_ok (F := F56) (C_55_snd) Try.func56 (by kernel_rfl) run_56 (fun _ _ => rfl)) (C_55_snd)

/- ravelin/capops.Seal -/
def F15 : Cfg := { F := 400, roots := [0, 1, 2], fl := ⟨true, false⟩ }
theorem run_15 : ∀ (c : Cp) (xby : Cp), pureRun Try.prog C_56 F15 Try.f15 [c.av, xby.av] = cond (g_capops_Seal c xby) (some ((v_capops_Seal c xby).av)) none := fun c xby =>
 (show pureRun Try.prog C_56 F15 Try.f15 [c.av, xby.av] = (cond (v_capops_Sealed c)
 (some (AV.agg [(AV.bool ((v_capops_keep c false).tag)), (AV.int (IntKind.i64) ((v_capops_keep c false).per)), (AV.int (IntKind.i64) ((v_capops_keep c false).ty)), (AV.int (IntKind.i64) ((v_capops_keep c false).mo)), (AV.int (IntKind.i64) ((v_capops_keep c false).e)), (AV.int (IntKind.i64) ((v_capops_keep c false).b)), (AV.int (IntKind.i64) ((v_capops_keep c false).t)), (AV.bool ((v_capops_keep c false).big)), (AV.int (IntKind.u64) ((v_capops_keep c false).ad))]))
 (cond (g_capops_seals xby 128#64)
  (cond (!v_capops_seals xby 128#64)
   (some (AV.agg [(AV.bool ((v_capops_keep c false).tag)), (AV.int (IntKind.i64) ((v_capops_keep c false).per)), (AV.int (IntKind.i64) ((v_capops_keep c false).ty)), (AV.int (IntKind.i64) ((v_capops_keep c false).mo)), (AV.int (IntKind.i64) ((v_capops_keep c false).e)), (AV.int (IntKind.i64) ((v_capops_keep c false).b)), (AV.int (IntKind.i64) ((v_capops_keep c false).t)), (AV.bool ((v_capops_keep c false).big)), (AV.int (IntKind.u64) ((v_capops_keep c false).ad))]))
   (cond ((262135#64).ult xby.ad)
    (some (AV.agg [(AV.bool ((v_capops_keep c false).tag)), (AV.int (IntKind.i64) ((v_capops_keep c false).per)), (AV.int (IntKind.i64) ((v_capops_keep c false).ty)), (AV.int (IntKind.i64) ((v_capops_keep c false).mo)), (AV.int (IntKind.i64) ((v_capops_keep c false).e)), (AV.int (IntKind.i64) ((v_capops_keep c false).b)), (AV.int (IntKind.i64) ((v_capops_keep c false).t)), (AV.bool ((v_capops_keep c false).big)), (AV.int (IntKind.u64) ((v_capops_keep c false).ad))]))
    (cond (!c.tag)
     (some (AV.agg [(AV.bool ((v_capops_keep c false).tag)), (AV.int (IntKind.i64) ((v_capops_keep c false).per)), (AV.int (IntKind.i64) ((v_capops_keep c false).ty)), (AV.int (IntKind.i64) ((v_capops_keep c false).mo)), (AV.int (IntKind.i64) ((v_capops_keep c false).e)), (AV.int (IntKind.i64) ((v_capops_keep c false).b)), (AV.int (IntKind.i64) ((v_capops_keep c false).t)), (AV.bool ((v_capops_keep c false).big)), (AV.int (IntKind.u64) ((v_capops_keep c false).ad))]))
     (some (AV.agg [(AV.bool (c.tag)), (AV.int (IntKind.i64) (c.per)), (AV.int (IntKind.i64) (BitVec.setWidth 64 xby.ad)), (AV.int (IntKind.i64) (c.mo)), (AV.int (IntKind.i64) (c.e)), (AV.int (IntKind.i64) (c.b)), (AV.int (IntKind.i64) (c.t)), (AV.bool (c.big)), (AV.int (IntKind.u64) (c.ad))])))))
  none)) by kernel_rfl).trans ((merG _ (Cp.av) rfl (merR _ (Cp.av) (merG _ (Cp.av) rfl (merG _ (Cp.av) rfl (merG _ (Cp.av) rfl rfl))))))
noncomputable def C_15 : Oracle := pureGE 15 (pure2 dCp dCp (fun c xby => .tup [.bool (g_capops_Seal c xby), (v_capops_Seal c xby).av])) (C_56)
theorem C_15_snd : Snd Try.prog C_15 := pureGE_snd (pure2_gok (F := F15) (C_56_snd) Try.func15 (by kernel_rfl) run_15 (fun _ _ => rfl)) (C_56_snd)

/- ravelin/ravelinref05.Sealed -/
def F24 : Cfg := { F := 400, roots := [0, 1], fl := ⟨true, false⟩ }
theorem run_24 : ∀ (c : Cp), pureRun Try.prog C_15 F24 Try.f24 [c.av] = some (.bool (v_r05_Sealed c)) := fun c =>
 (show pureRun Try.prog C_15 F24 Try.f24 [c.av] = (some (AV.bool (!c.ty == 262143#64))) by kernel_rfl).trans (rfl)
noncomputable def C_24 : Oracle := pureE 24 (pure1 dCp (fun c => .bool (v_r05_Sealed c))) (C_15)
theorem C_24_snd : Snd Try.prog C_24 := pureE_snd (pure1_ok (F := F24) (C_15_snd) Try.func24 (by kernel_rfl) run_24 (fun _ => rfl)) (C_15_snd)

/- ravelin/ravelinref03.notAbove -/
def F92 : Cfg := { F := 400, roots := [0, 1, 2], fl := ⟨true, false⟩ }
theorem run_92 : ∀ (a : W2) (xb : W2), pureRun Try.prog C_24 F92 Try.f92 [a.av, xb.av] = some (.bool (v_r03_notAbove a xb)) := fun a xb =>
 (show pureRun Try.prog C_24 F92 Try.f92 [a.av, xb.av] = (cond (a.hi.ult xb.hi)
 (some (AV.bool (true)))
 (cond (a.hi == xb.hi)
  (some (AV.bool (a.lo.ule xb.lo)))
  (some (AV.bool (false))))) by kernel_rfl).trans ((mer _ (fun p => .bool p) rfl (mer _ (fun p => .bool p) rfl rfl)))
noncomputable def C_92 : Oracle := pureE 92 (pure2 dW2 dW2 (fun a xb => .bool (v_r03_notAbove a xb))) (C_24)
theorem C_92_snd : Snd Try.prog C_92 := pureE_snd (pure2_ok (F := F92) (C_24_snd) Try.func92 (by kernel_rfl) run_92 (fun _ _ => rfl)) (C_24_snd)

/- ravelin/ravelinref03.one -/
def F88 : Cfg := { F := 400, roots := [0, 1], fl := ⟨true, false⟩ }
theorem run_88 : ∀ (xis : Bool), pureRun Try.prog C_92 F88 Try.f88 [.bool xis] = some (.int .i64 (v_r03_one xis)) := fun xis =>
 (show pureRun Try.prog C_92 F88 Try.f88 [.bool xis] = (cond (xis)
 (some (AV.int (IntKind.i64) (1#64)))
 (some (AV.int (IntKind.i64) (0#64)))) by kernel_rfl).trans ((mer _ (fun p => .int .i64 p) rfl rfl))
noncomputable def C_88 : Oracle := pureE 88 (pure1 dBool (fun xis => .int .i64 (v_r03_one xis))) (C_92)
theorem C_88_snd : Snd Try.prog C_88 := pureE_snd (pure1_ok (F := F88) (C_92_snd) Try.func88 (by kernel_rfl) run_88 (fun _ => rfl)) (C_92_snd)

/- ravelin/ravelinref03.top -/
def F93 : Cfg := { F := 400, roots := [0, 1], fl := ⟨true, false⟩ }
theorem run_93 : ∀ (r : Rg), pureRun Try.prog C_88 F93 Try.f93 [r.av] = some ((v_r03_top r).av) := fun r =>
 (show pureRun Try.prog C_88 F93 Try.f93 [r.av] = (some (AV.agg [(AV.int (IntKind.u64) (BitVec.signExtend 64 (v_r03_one r.over))), (AV.int (IntKind.u64) (r.top))])) by kernel_rfl).trans (rfl)
noncomputable def C_93 : Oracle := pureE 93 (pure1 dRg (fun r => (v_r03_top r).av)) (C_88)
theorem C_93_snd : Snd Try.prog C_93 := pureE_snd (pure1_ok (F := F93) (C_88_snd) Try.func93 (by kernel_rfl) run_93 (fun _ => rfl)) (C_88_snd)

/- ravelin/ravelinref03.In -/
def F98 : Cfg := { F := 400, roots := [0, 1, 2, 3, 4], fl := ⟨true, false⟩ }
theorem run_98 : ∀ (r : Rg) (xat : BitVec 64) (n : BitVec 64), pureRun Try.prog C_93 F98 Try.f98 [r.av, .int .u64 xat, .int .i64 n] = some (.bool (v_r03_In r xat n)) := fun r xat n =>
 (show pureRun Try.prog C_93 F98 Try.f98 [r.av, .int .u64 xat, .int .i64 n] = (cond (n.slt 0#64)
 (some (AV.bool (false)))
 (cond (xat.ult r.base)
  (some (AV.bool (false)))
  (some (AV.bool (v_r03_notAbove { hi := BitVec.signExtend 64 (v_r03_one ((xat + BitVec.signExtend 64 n).ult xat)), lo := xat + BitVec.signExtend 64 n } (v_r03_top r)))))) by kernel_rfl).trans ((mer _ (fun p => .bool p) rfl (mer _ (fun p => .bool p) rfl rfl)))
noncomputable def C_98 : Oracle := pureE 98 (pure3 dRg dU64 dI64 (fun r xat n => .bool (v_r03_In r xat n))) (C_93)
theorem C_98_snd : Snd Try.prog C_98 := pureE_snd (pure3_ok (F := F98) (C_93_snd) Try.func98 (by kernel_rfl) run_98 (fun _ _ _ => rfl)) (C_93_snd)

/- ravelin/ravelinref03.part -/
def F89 : Cfg := { F := 400, roots := [0, 1, 2, 3], fl := ⟨true, false⟩ }
theorem run_89 : ∀ (a : BitVec 64) (step : BitVec 64), pureRun Try.prog C_98 F89 Try.f89 [.int .u64 a, .int .i64 step] = some ((fun (p : BitVec 64 × Bool) => .tup [.int .u64 (p.1), .bool (p.2)]) (v_r03_part a step)) := fun a step =>
 (show pureRun Try.prog C_98 F89 Try.f89 [.int .u64 a, .int .i64 step] = (cond (step.slt 0#64)
 (some (AV.tup [(AV.int (IntKind.u64) (a - 1#64)), (AV.bool (a == 0#64))]))
 (some (AV.tup [(AV.int (IntKind.u64) (a + BitVec.signExtend 64 step)), (AV.bool (false))]))) by kernel_rfl).trans ((mer _ (fun (p : BitVec 64 × Bool) => .tup [.int .u64 (p.1), .bool (p.2)]) rfl rfl))
noncomputable def C_89 : Oracle := pureE 89 (pure2 dU64 dI64 (fun a step => (fun (p : BitVec 64 × Bool) => .tup [.int .u64 (p.1), .bool (p.2)]) (v_r03_part a step))) (C_98)
theorem C_89_snd : Snd Try.prog C_89 := pureE_snd (pure2_ok (F := F89) (C_98_snd) Try.func89 (by kernel_rfl) run_89 (fun _ _ => rfl)) (C_98_snd)

/- ravelin/ravelinref03.add -/
def F90 : Cfg := { F := 400, roots := [0, 1, 2, 3, 4], fl := ⟨true, false⟩ }
theorem run_90 : ∀ (a : W2) (xb : W2), pureRun Try.prog C_89 F90 Try.f90 [a.av, xb.av] = some ((v_r03_add a xb).av) := fun a xb =>
 (show pureRun Try.prog C_89 F90 Try.f90 [a.av, xb.av] = (cond ((a.lo + xb.lo).ult a.lo)
 (some (AV.agg [(AV.int (IntKind.u64) ((a.hi + xb.hi + 1#64) % 2#64)), (AV.int (IntKind.u64) (a.lo + xb.lo))]))
 (some (AV.agg [(AV.int (IntKind.u64) ((a.hi + xb.hi) % 2#64)), (AV.int (IntKind.u64) (a.lo + xb.lo))]))) by kernel_rfl).trans ((mer _ (W2.av) rfl rfl))
noncomputable def C_90 : Oracle := pureE 90 (pure2 dW2 dW2 (fun a xb => (v_r03_add a xb).av)) (C_89)
theorem C_90_snd : Snd Try.prog C_90 := pureE_snd (pure2_ok (F := F90) (C_89_snd) Try.func90 (by kernel_rfl) run_90 (fun _ _ => rfl)) (C_89_snd)

def FI_91 : Cfg := { F := 400, roots := [] }
noncomputable def LC_91 : Code := loopIn 0 Try.f91

theorem nx_91 (x : UpS) : codeA Try.prog (C_90) (drawA Try.prog FI_91.fl Try.f91.ntmps (C_90)) FI_91 Try.f91.ntmps LC_91 (tmOf [2, 6, 7, 8] (upT x)) (hpOf [0, 1] (upH x)) 2 (nextK 2 FI_91.roots [2, 6, 7, 8] [0, 1]) = stepN upT upH 2 (upStep x) :=
  (show _ = cond (upC x) (some (upT (upNext x), (upH (upNext x)).map some, 2)) none by kernel_rfl).trans (by unfold upStep; cases upC x <;> rfl)
theorem ls_91 (x : UpS) : codeA Try.prog (C_90) (drawA Try.prog FI_91.fl Try.f91.ntmps (C_90)) FI_91 Try.f91.ntmps LC_91 (tmOf [2, 6, 7, 8] (upT x)) (hpOf [0, 1] (upH x)) 2 (lastK [2, 6, 7, 8] [0, 1]) = stepE (fun _ => .exit 0) upT upH (fun _ => 2) (upStep x) :=
  (show _ = cond (upC x) none (some (Out.exit 0, upT x, (upH x).map some, 2)) by kernel_rfl).trans (by unfold upStep; cases upC x <;> rfl)
noncomputable def LL_91 : LoopLaw Try.prog (C_90) Try.f91.ntmps (drawA Try.prog FI_91.fl Try.f91.ntmps (C_90)) FI_91 LC_91 UpS UpS :=
  { N0 := 2, kT := [2, 6, 7, 8], kH := [0, 1], vT := upT, vH := upH, kE := [2, 6, 7, 8], hE := [0, 1], eT := upT, eH := upH, eN := fun _ => 2, oE := fun _ => .exit 0, step := upStep, f := v_up_loop, m := upM,
    next := nx_91, last := ls_91, ends := fun _ h => (nomatch h), whole := up_whole }

/- ravelin/ravelinref03.up -/
noncomputable def F91 : Cfg := { F := 400, roots := [0, 1, 2, 3, 4, 5], fl := ⟨true, false⟩, laws := [(0, LL_91.handler 0 upDec)] }

theorem fok_91 : FOK Try.prog Try.f91 F91 :=
  fok_one (b := .block 0 (.loop LC_91)) rfl (by kernel_rfl) (LL_91.handler_snd (C_90_snd) (drawA_sound (C_90_snd)) laws_nil 0 upDec upDec_ok)
theorem run_91 : ∀ (v : BitVec 64) (below : Bool) (n : BitVec 64), pureRun Try.prog C_90 F91 Try.f91 [.int .u64 v, .bool below, .int .i64 n] = some ((v_r03_up v below n).av) := fun v below n =>
 (show pureRun Try.prog C_90 F91 Try.f91 [.int .u64 v, .bool below, .int .i64 n] = (cond (below)
 (some (AV.agg [(AV.int (IntKind.u64) ((v_up_loop { n := n, i := 0#64, za := 0#64, zb := 0#64, uh := 1#64, ul := v }).uh)), (AV.int (IntKind.u64) ((v_up_loop { n := n, i := 0#64, za := 0#64, zb := 0#64, uh := 1#64, ul := v }).ul))]))
 (some (AV.agg [(AV.int (IntKind.u64) ((v_up_loop { n := n, i := 0#64, za := 0#64, zb := 0#64, uh := 0#64, ul := v }).uh)), (AV.int (IntKind.u64) ((v_up_loop { n := n, i := 0#64, za := 0#64, zb := 0#64, uh := 0#64, ul := v }).ul))]))) by kernel_rfl).trans ((mer _ (W2.av) rfl rfl))
noncomputable def C_91 : Oracle := pureE 91 (pure3 dU64 dBool dI64 (fun v below n => (v_r03_up v below n).av)) (C_90)
theorem C_91_snd : Snd Try.prog C_91 := pureE_snd (pure3_ok (F := F91) (C_90_snd) Try.func91 (by kernel_rfl) run_91 (fun _ _ _ => rfl) (hF := fok_91)) (C_90_snd)

/- ravelin/ravelinref03.Of -/
def F50 : Cfg := { F := 400, roots := [0, 1, 2, 3, 4, 5, 6, 7, 8, 9, 10, 11, 12], fl := ⟨true, false⟩ }
theorem run_50 : ∀ (c : Cp), pureRun Try.prog C_91 F50 Try.f50 [c.av] = some ((v_r03_Of c).av) := fun c =>
 (show pureRun Try.prog C_91 F50 Try.f50 [c.av] = (cond ((c.e + 14#64).slt 64#64)
 (cond (c.e.slt 51#64)
  (cond ((1#64).ult ((2#64 * (v_r03_add (v_r03_up (v_r03_part (c.ad >>> min (BitVec.signExtend 64 (c.e + 14#64)).toNat 64) (v_r03_one ((c.t + (c.b.sdiv 4096#64 + v_r03_one (c.t.slt (c.b.srem 4096#64)) + v_r03_one c.big).srem 4#64 * 4096#64).slt ((c.b.sdiv 2048#64 + 7#64).srem 8#64 * 2048#64)) - v_r03_one ((BitVec.setWidth 64 (c.ad >>> min (BitVec.signExtend 64 c.e).toNat 64 % 16384#64)).slt ((c.b.sdiv 2048#64 + 7#64).srem 8#64 * 2048#64)))).fst (v_r03_part (c.ad >>> min (BitVec.signExtend 64 (c.e + 14#64)).toNat 64) (v_r03_one ((c.t + (c.b.sdiv 4096#64 + v_r03_one (c.t.slt (c.b.srem 4096#64)) + v_r03_one c.big).srem 4#64 * 4096#64).slt ((c.b.sdiv 2048#64 + 7#64).srem 8#64 * 2048#64)) - v_r03_one ((BitVec.setWidth 64 (c.ad >>> min (BitVec.signExtend 64 c.e).toNat 64 % 16384#64)).slt ((c.b.sdiv 2048#64 + 7#64).srem 8#64 * 2048#64)))).snd (c.e + 14#64)) (v_r03_up (BitVec.signExtend 64 (c.t + (c.b.sdiv 4096#64 + v_r03_one (c.t.slt (c.b.srem 4096#64)) + v_r03_one c.big).srem 4#64 * 4096#64)) false c.e)).hi + (v_r03_add (v_r03_up (v_r03_part (c.ad >>> min (BitVec.signExtend 64 (c.e + 14#64)).toNat 64) (v_r03_one ((c.t + (c.b.sdiv 4096#64 + v_r03_one (c.t.slt (c.b.srem 4096#64)) + v_r03_one c.big).srem 4#64 * 4096#64).slt ((c.b.sdiv 2048#64 + 7#64).srem 8#64 * 2048#64)) - v_r03_one ((BitVec.setWidth 64 (c.ad >>> min (BitVec.signExtend 64 c.e).toNat 64 % 16384#64)).slt ((c.b.sdiv 2048#64 + 7#64).srem 8#64 * 2048#64)))).fst (v_r03_part (c.ad >>> min (BitVec.signExtend 64 (c.e + 14#64)).toNat 64) (v_r03_one ((c.t + (c.b.sdiv 4096#64 + v_r03_one (c.t.slt (c.b.srem 4096#64)) + v_r03_one c.big).srem 4#64 * 4096#64).slt ((c.b.sdiv 2048#64 + 7#64).srem 8#64 * 2048#64)) - v_r03_one ((BitVec.setWidth 64 (c.ad >>> min (BitVec.signExtend 64 c.e).toNat 64 % 16384#64)).slt ((c.b.sdiv 2048#64 + 7#64).srem 8#64 * 2048#64)))).snd (c.e + 14#64)) (v_r03_up (BitVec.signExtend 64 (c.t + (c.b.sdiv 4096#64 + v_r03_one (c.t.slt (c.b.srem 4096#64)) + v_r03_one c.big).srem 4#64 * 4096#64)) false c.e)).lo >>> 63 + 4#64 - (v_r03_add (v_r03_up (v_r03_part (c.ad >>> min (BitVec.signExtend 64 (c.e + 14#64)).toNat 64) (v_r03_one (c.b.slt ((c.b.sdiv 2048#64 + 7#64).srem 8#64 * 2048#64)) - v_r03_one ((BitVec.setWidth 64 (c.ad >>> min (BitVec.signExtend 64 c.e).toNat 64 % 16384#64)).slt ((c.b.sdiv 2048#64 + 7#64).srem 8#64 * 2048#64)))).fst (v_r03_part (c.ad >>> min (BitVec.signExtend 64 (c.e + 14#64)).toNat 64) (v_r03_one (c.b.slt ((c.b.sdiv 2048#64 + 7#64).srem 8#64 * 2048#64)) - v_r03_one ((BitVec.setWidth 64 (c.ad >>> min (BitVec.signExtend 64 c.e).toNat 64 % 16384#64)).slt ((c.b.sdiv 2048#64 + 7#64).srem 8#64 * 2048#64)))).snd (c.e + 14#64)) (v_r03_up (BitVec.signExtend 64 c.b) false c.e)).lo >>> 63) % 4#64))
   (some (AV.agg [(AV.int (IntKind.u64) ((v_r03_add (v_r03_up (v_r03_part (c.ad >>> min (BitVec.signExtend 64 (c.e + 14#64)).toNat 64) (v_r03_one (c.b.slt ((c.b.sdiv 2048#64 + 7#64).srem 8#64 * 2048#64)) - v_r03_one ((BitVec.setWidth 64 (c.ad >>> min (BitVec.signExtend 64 c.e).toNat 64 % 16384#64)).slt ((c.b.sdiv 2048#64 + 7#64).srem 8#64 * 2048#64)))).fst (v_r03_part (c.ad >>> min (BitVec.signExtend 64 (c.e + 14#64)).toNat 64) (v_r03_one (c.b.slt ((c.b.sdiv 2048#64 + 7#64).srem 8#64 * 2048#64)) - v_r03_one ((BitVec.setWidth 64 (c.ad >>> min (BitVec.signExtend 64 c.e).toNat 64 % 16384#64)).slt ((c.b.sdiv 2048#64 + 7#64).srem 8#64 * 2048#64)))).snd (c.e + 14#64)) (v_r03_up (BitVec.signExtend 64 c.b) false c.e)).lo)), (AV.int (IntKind.u64) ((v_r03_add (v_r03_up (v_r03_part (c.ad >>> min (BitVec.signExtend 64 (c.e + 14#64)).toNat 64) (v_r03_one ((c.t + (c.b.sdiv 4096#64 + v_r03_one (c.t.slt (c.b.srem 4096#64)) + v_r03_one c.big).srem 4#64 * 4096#64).slt ((c.b.sdiv 2048#64 + 7#64).srem 8#64 * 2048#64)) - v_r03_one ((BitVec.setWidth 64 (c.ad >>> min (BitVec.signExtend 64 c.e).toNat 64 % 16384#64)).slt ((c.b.sdiv 2048#64 + 7#64).srem 8#64 * 2048#64)))).fst (v_r03_part (c.ad >>> min (BitVec.signExtend 64 (c.e + 14#64)).toNat 64) (v_r03_one ((c.t + (c.b.sdiv 4096#64 + v_r03_one (c.t.slt (c.b.srem 4096#64)) + v_r03_one c.big).srem 4#64 * 4096#64).slt ((c.b.sdiv 2048#64 + 7#64).srem 8#64 * 2048#64)) - v_r03_one ((BitVec.setWidth 64 (c.ad >>> min (BitVec.signExtend 64 c.e).toNat 64 % 16384#64)).slt ((c.b.sdiv 2048#64 + 7#64).srem 8#64 * 2048#64)))).snd (c.e + 14#64)) (v_r03_up (BitVec.signExtend 64 (c.t + (c.b.sdiv 4096#64 + v_r03_one (c.t.slt (c.b.srem 4096#64)) + v_r03_one c.big).srem 4#64 * 4096#64)) false c.e)).lo)), (AV.bool (1#64 - (v_r03_add (v_r03_up (v_r03_part (c.ad >>> min (BitVec.signExtend 64 (c.e + 14#64)).toNat 64) (v_r03_one ((c.t + (c.b.sdiv 4096#64 + v_r03_one (c.t.slt (c.b.srem 4096#64)) + v_r03_one c.big).srem 4#64 * 4096#64).slt ((c.b.sdiv 2048#64 + 7#64).srem 8#64 * 2048#64)) - v_r03_one ((BitVec.setWidth 64 (c.ad >>> min (BitVec.signExtend 64 c.e).toNat 64 % 16384#64)).slt ((c.b.sdiv 2048#64 + 7#64).srem 8#64 * 2048#64)))).fst (v_r03_part (c.ad >>> min (BitVec.signExtend 64 (c.e + 14#64)).toNat 64) (v_r03_one ((c.t + (c.b.sdiv 4096#64 + v_r03_one (c.t.slt (c.b.srem 4096#64)) + v_r03_one c.big).srem 4#64 * 4096#64).slt ((c.b.sdiv 2048#64 + 7#64).srem 8#64 * 2048#64)) - v_r03_one ((BitVec.setWidth 64 (c.ad >>> min (BitVec.signExtend 64 c.e).toNat 64 % 16384#64)).slt ((c.b.sdiv 2048#64 + 7#64).srem 8#64 * 2048#64)))).snd (c.e + 14#64)) (v_r03_up (BitVec.signExtend 64 (c.t + (c.b.sdiv 4096#64 + v_r03_one (c.t.slt (c.b.srem 4096#64)) + v_r03_one c.big).srem 4#64 * 4096#64)) false c.e)).hi == 1#64))]))
   (some (AV.agg [(AV.int (IntKind.u64) ((v_r03_add (v_r03_up (v_r03_part (c.ad >>> min (BitVec.signExtend 64 (c.e + 14#64)).toNat 64) (v_r03_one (c.b.slt ((c.b.sdiv 2048#64 + 7#64).srem 8#64 * 2048#64)) - v_r03_one ((BitVec.setWidth 64 (c.ad >>> min (BitVec.signExtend 64 c.e).toNat 64 % 16384#64)).slt ((c.b.sdiv 2048#64 + 7#64).srem 8#64 * 2048#64)))).fst (v_r03_part (c.ad >>> min (BitVec.signExtend 64 (c.e + 14#64)).toNat 64) (v_r03_one (c.b.slt ((c.b.sdiv 2048#64 + 7#64).srem 8#64 * 2048#64)) - v_r03_one ((BitVec.setWidth 64 (c.ad >>> min (BitVec.signExtend 64 c.e).toNat 64 % 16384#64)).slt ((c.b.sdiv 2048#64 + 7#64).srem 8#64 * 2048#64)))).snd (c.e + 14#64)) (v_r03_up (BitVec.signExtend 64 c.b) false c.e)).lo)), (AV.int (IntKind.u64) ((v_r03_add (v_r03_up (v_r03_part (c.ad >>> min (BitVec.signExtend 64 (c.e + 14#64)).toNat 64) (v_r03_one ((c.t + (c.b.sdiv 4096#64 + v_r03_one (c.t.slt (c.b.srem 4096#64)) + v_r03_one c.big).srem 4#64 * 4096#64).slt ((c.b.sdiv 2048#64 + 7#64).srem 8#64 * 2048#64)) - v_r03_one ((BitVec.setWidth 64 (c.ad >>> min (BitVec.signExtend 64 c.e).toNat 64 % 16384#64)).slt ((c.b.sdiv 2048#64 + 7#64).srem 8#64 * 2048#64)))).fst (v_r03_part (c.ad >>> min (BitVec.signExtend 64 (c.e + 14#64)).toNat 64) (v_r03_one ((c.t + (c.b.sdiv 4096#64 + v_r03_one (c.t.slt (c.b.srem 4096#64)) + v_r03_one c.big).srem 4#64 * 4096#64).slt ((c.b.sdiv 2048#64 + 7#64).srem 8#64 * 2048#64)) - v_r03_one ((BitVec.setWidth 64 (c.ad >>> min (BitVec.signExtend 64 c.e).toNat 64 % 16384#64)).slt ((c.b.sdiv 2048#64 + 7#64).srem 8#64 * 2048#64)))).snd (c.e + 14#64)) (v_r03_up (BitVec.signExtend 64 (c.t + (c.b.sdiv 4096#64 + v_r03_one (c.t.slt (c.b.srem 4096#64)) + v_r03_one c.big).srem 4#64 * 4096#64)) false c.e)).lo)), (AV.bool ((v_r03_add (v_r03_up (v_r03_part (c.ad >>> min (BitVec.signExtend 64 (c.e + 14#64)).toNat 64) (v_r03_one ((c.t + (c.b.sdiv 4096#64 + v_r03_one (c.t.slt (c.b.srem 4096#64)) + v_r03_one c.big).srem 4#64 * 4096#64).slt ((c.b.sdiv 2048#64 + 7#64).srem 8#64 * 2048#64)) - v_r03_one ((BitVec.setWidth 64 (c.ad >>> min (BitVec.signExtend 64 c.e).toNat 64 % 16384#64)).slt ((c.b.sdiv 2048#64 + 7#64).srem 8#64 * 2048#64)))).fst (v_r03_part (c.ad >>> min (BitVec.signExtend 64 (c.e + 14#64)).toNat 64) (v_r03_one ((c.t + (c.b.sdiv 4096#64 + v_r03_one (c.t.slt (c.b.srem 4096#64)) + v_r03_one c.big).srem 4#64 * 4096#64).slt ((c.b.sdiv 2048#64 + 7#64).srem 8#64 * 2048#64)) - v_r03_one ((BitVec.setWidth 64 (c.ad >>> min (BitVec.signExtend 64 c.e).toNat 64 % 16384#64)).slt ((c.b.sdiv 2048#64 + 7#64).srem 8#64 * 2048#64)))).snd (c.e + 14#64)) (v_r03_up (BitVec.signExtend 64 (c.t + (c.b.sdiv 4096#64 + v_r03_one (c.t.slt (c.b.srem 4096#64)) + v_r03_one c.big).srem 4#64 * 4096#64)) false c.e)).hi == 1#64))])))
  (some (AV.agg [(AV.int (IntKind.u64) ((v_r03_add (v_r03_up (v_r03_part (c.ad >>> min (BitVec.signExtend 64 (c.e + 14#64)).toNat 64) (v_r03_one (c.b.slt ((c.b.sdiv 2048#64 + 7#64).srem 8#64 * 2048#64)) - v_r03_one ((BitVec.setWidth 64 (c.ad >>> min (BitVec.signExtend 64 c.e).toNat 64 % 16384#64)).slt ((c.b.sdiv 2048#64 + 7#64).srem 8#64 * 2048#64)))).fst (v_r03_part (c.ad >>> min (BitVec.signExtend 64 (c.e + 14#64)).toNat 64) (v_r03_one (c.b.slt ((c.b.sdiv 2048#64 + 7#64).srem 8#64 * 2048#64)) - v_r03_one ((BitVec.setWidth 64 (c.ad >>> min (BitVec.signExtend 64 c.e).toNat 64 % 16384#64)).slt ((c.b.sdiv 2048#64 + 7#64).srem 8#64 * 2048#64)))).snd (c.e + 14#64)) (v_r03_up (BitVec.signExtend 64 c.b) false c.e)).lo)), (AV.int (IntKind.u64) ((v_r03_add (v_r03_up (v_r03_part (c.ad >>> min (BitVec.signExtend 64 (c.e + 14#64)).toNat 64) (v_r03_one ((c.t + (c.b.sdiv 4096#64 + v_r03_one (c.t.slt (c.b.srem 4096#64)) + v_r03_one c.big).srem 4#64 * 4096#64).slt ((c.b.sdiv 2048#64 + 7#64).srem 8#64 * 2048#64)) - v_r03_one ((BitVec.setWidth 64 (c.ad >>> min (BitVec.signExtend 64 c.e).toNat 64 % 16384#64)).slt ((c.b.sdiv 2048#64 + 7#64).srem 8#64 * 2048#64)))).fst (v_r03_part (c.ad >>> min (BitVec.signExtend 64 (c.e + 14#64)).toNat 64) (v_r03_one ((c.t + (c.b.sdiv 4096#64 + v_r03_one (c.t.slt (c.b.srem 4096#64)) + v_r03_one c.big).srem 4#64 * 4096#64).slt ((c.b.sdiv 2048#64 + 7#64).srem 8#64 * 2048#64)) - v_r03_one ((BitVec.setWidth 64 (c.ad >>> min (BitVec.signExtend 64 c.e).toNat 64 % 16384#64)).slt ((c.b.sdiv 2048#64 + 7#64).srem 8#64 * 2048#64)))).snd (c.e + 14#64)) (v_r03_up (BitVec.signExtend 64 (c.t + (c.b.sdiv 4096#64 + v_r03_one (c.t.slt (c.b.srem 4096#64)) + v_r03_one c.big).srem 4#64 * 4096#64)) false c.e)).lo)), (AV.bool ((v_r03_add (v_r03_up (v_r03_part (c.ad >>> min (BitVec.signExtend 64 (c.e + 14#64)).toNat 64) (v_r03_one ((c.t + (c.b.sdiv 4096#64 + v_r03_one (c.t.slt (c.b.srem 4096#64)) + v_r03_one c.big).srem 4#64 * 4096#64).slt ((c.b.sdiv 2048#64 + 7#64).srem 8#64 * 2048#64)) - v_r03_one ((BitVec.setWidth 64 (c.ad >>> min (BitVec.signExtend 64 c.e).toNat 64 % 16384#64)).slt ((c.b.sdiv 2048#64 + 7#64).srem 8#64 * 2048#64)))).fst (v_r03_part (c.ad >>> min (BitVec.signExtend 64 (c.e + 14#64)).toNat 64) (v_r03_one ((c.t + (c.b.sdiv 4096#64 + v_r03_one (c.t.slt (c.b.srem 4096#64)) + v_r03_one c.big).srem 4#64 * 4096#64).slt ((c.b.sdiv 2048#64 + 7#64).srem 8#64 * 2048#64)) - v_r03_one ((BitVec.setWidth 64 (c.ad >>> min (BitVec.signExtend 64 c.e).toNat 64 % 16384#64)).slt ((c.b.sdiv 2048#64 + 7#64).srem 8#64 * 2048#64)))).snd (c.e + 14#64)) (v_r03_up (BitVec.signExtend 64 (c.t + (c.b.sdiv 4096#64 + v_r03_one (c.t.slt (c.b.srem 4096#64)) + v_r03_one c.big).srem 4#64 * 4096#64)) false c.e)).hi == 1#64))])))
 (cond (c.e.slt 51#64)
  (cond ((1#64).ult ((2#64 * (v_r03_add (v_r03_up (v_r03_part (0#64) (v_r03_one ((c.t + (c.b.sdiv 4096#64 + v_r03_one (c.t.slt (c.b.srem 4096#64)) + v_r03_one c.big).srem 4#64 * 4096#64).slt ((c.b.sdiv 2048#64 + 7#64).srem 8#64 * 2048#64)) - v_r03_one ((BitVec.setWidth 64 (c.ad >>> min (BitVec.signExtend 64 c.e).toNat 64 % 16384#64)).slt ((c.b.sdiv 2048#64 + 7#64).srem 8#64 * 2048#64)))).fst (v_r03_part (0#64) (v_r03_one ((c.t + (c.b.sdiv 4096#64 + v_r03_one (c.t.slt (c.b.srem 4096#64)) + v_r03_one c.big).srem 4#64 * 4096#64).slt ((c.b.sdiv 2048#64 + 7#64).srem 8#64 * 2048#64)) - v_r03_one ((BitVec.setWidth 64 (c.ad >>> min (BitVec.signExtend 64 c.e).toNat 64 % 16384#64)).slt ((c.b.sdiv 2048#64 + 7#64).srem 8#64 * 2048#64)))).snd (c.e + 14#64)) (v_r03_up (BitVec.signExtend 64 (c.t + (c.b.sdiv 4096#64 + v_r03_one (c.t.slt (c.b.srem 4096#64)) + v_r03_one c.big).srem 4#64 * 4096#64)) false c.e)).hi + (v_r03_add (v_r03_up (v_r03_part (0#64) (v_r03_one ((c.t + (c.b.sdiv 4096#64 + v_r03_one (c.t.slt (c.b.srem 4096#64)) + v_r03_one c.big).srem 4#64 * 4096#64).slt ((c.b.sdiv 2048#64 + 7#64).srem 8#64 * 2048#64)) - v_r03_one ((BitVec.setWidth 64 (c.ad >>> min (BitVec.signExtend 64 c.e).toNat 64 % 16384#64)).slt ((c.b.sdiv 2048#64 + 7#64).srem 8#64 * 2048#64)))).fst (v_r03_part (0#64) (v_r03_one ((c.t + (c.b.sdiv 4096#64 + v_r03_one (c.t.slt (c.b.srem 4096#64)) + v_r03_one c.big).srem 4#64 * 4096#64).slt ((c.b.sdiv 2048#64 + 7#64).srem 8#64 * 2048#64)) - v_r03_one ((BitVec.setWidth 64 (c.ad >>> min (BitVec.signExtend 64 c.e).toNat 64 % 16384#64)).slt ((c.b.sdiv 2048#64 + 7#64).srem 8#64 * 2048#64)))).snd (c.e + 14#64)) (v_r03_up (BitVec.signExtend 64 (c.t + (c.b.sdiv 4096#64 + v_r03_one (c.t.slt (c.b.srem 4096#64)) + v_r03_one c.big).srem 4#64 * 4096#64)) false c.e)).lo >>> 63 + 4#64 - (v_r03_add (v_r03_up (v_r03_part (0#64) (v_r03_one (c.b.slt ((c.b.sdiv 2048#64 + 7#64).srem 8#64 * 2048#64)) - v_r03_one ((BitVec.setWidth 64 (c.ad >>> min (BitVec.signExtend 64 c.e).toNat 64 % 16384#64)).slt ((c.b.sdiv 2048#64 + 7#64).srem 8#64 * 2048#64)))).fst (v_r03_part (0#64) (v_r03_one (c.b.slt ((c.b.sdiv 2048#64 + 7#64).srem 8#64 * 2048#64)) - v_r03_one ((BitVec.setWidth 64 (c.ad >>> min (BitVec.signExtend 64 c.e).toNat 64 % 16384#64)).slt ((c.b.sdiv 2048#64 + 7#64).srem 8#64 * 2048#64)))).snd (c.e + 14#64)) (v_r03_up (BitVec.signExtend 64 c.b) false c.e)).lo >>> 63) % 4#64))
   (some (AV.agg [(AV.int (IntKind.u64) ((v_r03_add (v_r03_up (v_r03_part (0#64) (v_r03_one (c.b.slt ((c.b.sdiv 2048#64 + 7#64).srem 8#64 * 2048#64)) - v_r03_one ((BitVec.setWidth 64 (c.ad >>> min (BitVec.signExtend 64 c.e).toNat 64 % 16384#64)).slt ((c.b.sdiv 2048#64 + 7#64).srem 8#64 * 2048#64)))).fst (v_r03_part (0#64) (v_r03_one (c.b.slt ((c.b.sdiv 2048#64 + 7#64).srem 8#64 * 2048#64)) - v_r03_one ((BitVec.setWidth 64 (c.ad >>> min (BitVec.signExtend 64 c.e).toNat 64 % 16384#64)).slt ((c.b.sdiv 2048#64 + 7#64).srem 8#64 * 2048#64)))).snd (c.e + 14#64)) (v_r03_up (BitVec.signExtend 64 c.b) false c.e)).lo)), (AV.int (IntKind.u64) ((v_r03_add (v_r03_up (v_r03_part (0#64) (v_r03_one ((c.t + (c.b.sdiv 4096#64 + v_r03_one (c.t.slt (c.b.srem 4096#64)) + v_r03_one c.big).srem 4#64 * 4096#64).slt ((c.b.sdiv 2048#64 + 7#64).srem 8#64 * 2048#64)) - v_r03_one ((BitVec.setWidth 64 (c.ad >>> min (BitVec.signExtend 64 c.e).toNat 64 % 16384#64)).slt ((c.b.sdiv 2048#64 + 7#64).srem 8#64 * 2048#64)))).fst (v_r03_part (0#64) (v_r03_one ((c.t + (c.b.sdiv 4096#64 + v_r03_one (c.t.slt (c.b.srem 4096#64)) + v_r03_one c.big).srem 4#64 * 4096#64).slt ((c.b.sdiv 2048#64 + 7#64).srem 8#64 * 2048#64)) - v_r03_one ((BitVec.setWidth 64 (c.ad >>> min (BitVec.signExtend 64 c.e).toNat 64 % 16384#64)).slt ((c.b.sdiv 2048#64 + 7#64).srem 8#64 * 2048#64)))).snd (c.e + 14#64)) (v_r03_up (BitVec.signExtend 64 (c.t + (c.b.sdiv 4096#64 + v_r03_one (c.t.slt (c.b.srem 4096#64)) + v_r03_one c.big).srem 4#64 * 4096#64)) false c.e)).lo)), (AV.bool (1#64 - (v_r03_add (v_r03_up (v_r03_part (0#64) (v_r03_one ((c.t + (c.b.sdiv 4096#64 + v_r03_one (c.t.slt (c.b.srem 4096#64)) + v_r03_one c.big).srem 4#64 * 4096#64).slt ((c.b.sdiv 2048#64 + 7#64).srem 8#64 * 2048#64)) - v_r03_one ((BitVec.setWidth 64 (c.ad >>> min (BitVec.signExtend 64 c.e).toNat 64 % 16384#64)).slt ((c.b.sdiv 2048#64 + 7#64).srem 8#64 * 2048#64)))).fst (v_r03_part (0#64) (v_r03_one ((c.t + (c.b.sdiv 4096#64 + v_r03_one (c.t.slt (c.b.srem 4096#64)) + v_r03_one c.big).srem 4#64 * 4096#64).slt ((c.b.sdiv 2048#64 + 7#64).srem 8#64 * 2048#64)) - v_r03_one ((BitVec.setWidth 64 (c.ad >>> min (BitVec.signExtend 64 c.e).toNat 64 % 16384#64)).slt ((c.b.sdiv 2048#64 + 7#64).srem 8#64 * 2048#64)))).snd (c.e + 14#64)) (v_r03_up (BitVec.signExtend 64 (c.t + (c.b.sdiv 4096#64 + v_r03_one (c.t.slt (c.b.srem 4096#64)) + v_r03_one c.big).srem 4#64 * 4096#64)) false c.e)).hi == 1#64))]))
   (some (AV.agg [(AV.int (IntKind.u64) ((v_r03_add (v_r03_up (v_r03_part (0#64) (v_r03_one (c.b.slt ((c.b.sdiv 2048#64 + 7#64).srem 8#64 * 2048#64)) - v_r03_one ((BitVec.setWidth 64 (c.ad >>> min (BitVec.signExtend 64 c.e).toNat 64 % 16384#64)).slt ((c.b.sdiv 2048#64 + 7#64).srem 8#64 * 2048#64)))).fst (v_r03_part (0#64) (v_r03_one (c.b.slt ((c.b.sdiv 2048#64 + 7#64).srem 8#64 * 2048#64)) - v_r03_one ((BitVec.setWidth 64 (c.ad >>> min (BitVec.signExtend 64 c.e).toNat 64 % 16384#64)).slt ((c.b.sdiv 2048#64 + 7#64).srem 8#64 * 2048#64)))).snd (c.e + 14#64)) (v_r03_up (BitVec.signExtend 64 c.b) false c.e)).lo)), (AV.int (IntKind.u64) ((v_r03_add (v_r03_up (v_r03_part (0#64) (v_r03_one ((c.t + (c.b.sdiv 4096#64 + v_r03_one (c.t.slt (c.b.srem 4096#64)) + v_r03_one c.big).srem 4#64 * 4096#64).slt ((c.b.sdiv 2048#64 + 7#64).srem 8#64 * 2048#64)) - v_r03_one ((BitVec.setWidth 64 (c.ad >>> min (BitVec.signExtend 64 c.e).toNat 64 % 16384#64)).slt ((c.b.sdiv 2048#64 + 7#64).srem 8#64 * 2048#64)))).fst (v_r03_part (0#64) (v_r03_one ((c.t + (c.b.sdiv 4096#64 + v_r03_one (c.t.slt (c.b.srem 4096#64)) + v_r03_one c.big).srem 4#64 * 4096#64).slt ((c.b.sdiv 2048#64 + 7#64).srem 8#64 * 2048#64)) - v_r03_one ((BitVec.setWidth 64 (c.ad >>> min (BitVec.signExtend 64 c.e).toNat 64 % 16384#64)).slt ((c.b.sdiv 2048#64 + 7#64).srem 8#64 * 2048#64)))).snd (c.e + 14#64)) (v_r03_up (BitVec.signExtend 64 (c.t + (c.b.sdiv 4096#64 + v_r03_one (c.t.slt (c.b.srem 4096#64)) + v_r03_one c.big).srem 4#64 * 4096#64)) false c.e)).lo)), (AV.bool ((v_r03_add (v_r03_up (v_r03_part (0#64) (v_r03_one ((c.t + (c.b.sdiv 4096#64 + v_r03_one (c.t.slt (c.b.srem 4096#64)) + v_r03_one c.big).srem 4#64 * 4096#64).slt ((c.b.sdiv 2048#64 + 7#64).srem 8#64 * 2048#64)) - v_r03_one ((BitVec.setWidth 64 (c.ad >>> min (BitVec.signExtend 64 c.e).toNat 64 % 16384#64)).slt ((c.b.sdiv 2048#64 + 7#64).srem 8#64 * 2048#64)))).fst (v_r03_part (0#64) (v_r03_one ((c.t + (c.b.sdiv 4096#64 + v_r03_one (c.t.slt (c.b.srem 4096#64)) + v_r03_one c.big).srem 4#64 * 4096#64).slt ((c.b.sdiv 2048#64 + 7#64).srem 8#64 * 2048#64)) - v_r03_one ((BitVec.setWidth 64 (c.ad >>> min (BitVec.signExtend 64 c.e).toNat 64 % 16384#64)).slt ((c.b.sdiv 2048#64 + 7#64).srem 8#64 * 2048#64)))).snd (c.e + 14#64)) (v_r03_up (BitVec.signExtend 64 (c.t + (c.b.sdiv 4096#64 + v_r03_one (c.t.slt (c.b.srem 4096#64)) + v_r03_one c.big).srem 4#64 * 4096#64)) false c.e)).hi == 1#64))])))
  (some (AV.agg [(AV.int (IntKind.u64) ((v_r03_add (v_r03_up (v_r03_part (0#64) (v_r03_one (c.b.slt ((c.b.sdiv 2048#64 + 7#64).srem 8#64 * 2048#64)) - v_r03_one ((BitVec.setWidth 64 (c.ad >>> min (BitVec.signExtend 64 c.e).toNat 64 % 16384#64)).slt ((c.b.sdiv 2048#64 + 7#64).srem 8#64 * 2048#64)))).fst (v_r03_part (0#64) (v_r03_one (c.b.slt ((c.b.sdiv 2048#64 + 7#64).srem 8#64 * 2048#64)) - v_r03_one ((BitVec.setWidth 64 (c.ad >>> min (BitVec.signExtend 64 c.e).toNat 64 % 16384#64)).slt ((c.b.sdiv 2048#64 + 7#64).srem 8#64 * 2048#64)))).snd (c.e + 14#64)) (v_r03_up (BitVec.signExtend 64 c.b) false c.e)).lo)), (AV.int (IntKind.u64) ((v_r03_add (v_r03_up (v_r03_part (0#64) (v_r03_one ((c.t + (c.b.sdiv 4096#64 + v_r03_one (c.t.slt (c.b.srem 4096#64)) + v_r03_one c.big).srem 4#64 * 4096#64).slt ((c.b.sdiv 2048#64 + 7#64).srem 8#64 * 2048#64)) - v_r03_one ((BitVec.setWidth 64 (c.ad >>> min (BitVec.signExtend 64 c.e).toNat 64 % 16384#64)).slt ((c.b.sdiv 2048#64 + 7#64).srem 8#64 * 2048#64)))).fst (v_r03_part (0#64) (v_r03_one ((c.t + (c.b.sdiv 4096#64 + v_r03_one (c.t.slt (c.b.srem 4096#64)) + v_r03_one c.big).srem 4#64 * 4096#64).slt ((c.b.sdiv 2048#64 + 7#64).srem 8#64 * 2048#64)) - v_r03_one ((BitVec.setWidth 64 (c.ad >>> min (BitVec.signExtend 64 c.e).toNat 64 % 16384#64)).slt ((c.b.sdiv 2048#64 + 7#64).srem 8#64 * 2048#64)))).snd (c.e + 14#64)) (v_r03_up (BitVec.signExtend 64 (c.t + (c.b.sdiv 4096#64 + v_r03_one (c.t.slt (c.b.srem 4096#64)) + v_r03_one c.big).srem 4#64 * 4096#64)) false c.e)).lo)), (AV.bool ((v_r03_add (v_r03_up (v_r03_part (0#64) (v_r03_one ((c.t + (c.b.sdiv 4096#64 + v_r03_one (c.t.slt (c.b.srem 4096#64)) + v_r03_one c.big).srem 4#64 * 4096#64).slt ((c.b.sdiv 2048#64 + 7#64).srem 8#64 * 2048#64)) - v_r03_one ((BitVec.setWidth 64 (c.ad >>> min (BitVec.signExtend 64 c.e).toNat 64 % 16384#64)).slt ((c.b.sdiv 2048#64 + 7#64).srem 8#64 * 2048#64)))).fst (v_r03_part (0#64) (v_r03_one ((c.t + (c.b.sdiv 4096#64 + v_r03_one (c.t.slt (c.b.srem 4096#64)) + v_r03_one c.big).srem 4#64 * 4096#64).slt ((c.b.sdiv 2048#64 + 7#64).srem 8#64 * 2048#64)) - v_r03_one ((BitVec.setWidth 64 (c.ad >>> min (BitVec.signExtend 64 c.e).toNat 64 % 16384#64)).slt ((c.b.sdiv 2048#64 + 7#64).srem 8#64 * 2048#64)))).snd (c.e + 14#64)) (v_r03_up (BitVec.signExtend 64 (c.t + (c.b.sdiv 4096#64 + v_r03_one (c.t.slt (c.b.srem 4096#64)) + v_r03_one c.big).srem 4#64 * 4096#64)) false c.e)).hi == 1#64))])))) by kernel_rfl).trans ((mer _ (Rg.av) (mer _ (Rg.av) (mer _ (Rg.av) rfl rfl) rfl) (mer _ (Rg.av) (mer _ (Rg.av) rfl rfl) rfl)))
noncomputable def C_50 : Oracle := pureE 50 (pure1 dCp (fun c => (v_r03_Of c).av)) (C_91)
theorem C_50_snd : Snd Try.prog C_50 := pureE_snd (pure1_ok (F := F50) (C_91_snd) Try.func50 (by kernel_rfl) run_50 (fun _ => rfl)) (C_91_snd)

/- ravelin/ravelinref05.can -/
def F72 : Cfg := { F := 400, roots := [0, 1, 2], fl := ⟨true, false⟩ }
theorem run_72 : ∀ (xby : Cp) (perm : BitVec 64), pureRun Try.prog C_50 F72 Try.f72 [xby.av, .int .i64 perm] = some (.bool (v_r05_can xby perm)) := fun xby perm =>
 (show pureRun Try.prog C_50 F72 Try.f72 [xby.av, .int .i64 perm] = (cond (xby.tag)
 (cond (!v_r05_Sealed xby)
  (cond (v_r03_In (v_r03_Of xby) xby.ad 1#64)
   (some (AV.bool (!xby.per &&& perm == 0#64)))
   (some (AV.bool (false))))
  (some (AV.bool (false))))
 (some (AV.bool (false)))) by kernel_rfl).trans ((mer _ (fun p => .bool p) (mer _ (fun p => .bool p) (mer _ (fun p => .bool p) rfl rfl) rfl) rfl))
noncomputable def C_72 : Oracle := pureE 72 (pure2 dCp dI64 (fun xby perm => .bool (v_r05_can xby perm))) (C_50)
theorem C_72_snd : Snd Try.prog C_72 := pureE_snd (pure2_ok (F := F72) (C_50_snd) Try.func72 (by kernel_rfl) run_72 (fun _ _ => rfl)) (C_50_snd)

/- ravelin/ravelinref05.with -/
def F68 : Cfg := { F := 400, roots := [0, 1, 2], fl := ⟨true, false⟩ }
theorem run_68 : ∀ (c : Cp) (tag : Bool), pureRun Try.prog C_72 F68 Try.f68 [c.av, .bool tag] = some ((v_r05_with c tag).av) := fun c tag =>
 (show pureRun Try.prog C_72 F68 Try.f68 [c.av, .bool tag] = (some (AV.agg [(AV.bool (tag)), (AV.int (IntKind.i64) (c.per)), (AV.int (IntKind.i64) (c.ty)), (AV.int (IntKind.i64) (c.mo)), (AV.int (IntKind.i64) (c.e)), (AV.int (IntKind.i64) (c.b)), (AV.int (IntKind.i64) (c.t)), (AV.bool (c.big)), (AV.int (IntKind.u64) (c.ad))])) by kernel_rfl).trans (rfl)
noncomputable def C_68 : Oracle := pureE 68 (pure2 dCp dBool (fun c tag => (v_r05_with c tag).av)) (C_72)
theorem C_68_snd : Snd Try.prog C_68 := pureE_snd (pure2_ok (F := F68) (C_72_snd) Try.func68 (by kernel_rfl) run_68 (fun _ _ => rfl)) (C_72_snd)

/- ravelin/ravelinref05.Seal -/
def F34 : Cfg := { F := 400, roots := [0, 1, 2], fl := ⟨true, false⟩ }
theorem run_34 : ∀ (c : Cp) (xby : Cp), pureRun Try.prog C_68 F34 Try.f34 [c.av, xby.av] = some ((v_r05_Seal c xby).av) := fun c xby =>
 (show pureRun Try.prog C_68 F34 Try.f34 [c.av, xby.av] = (cond (!c.tag)
 (some (AV.agg [(AV.bool ((v_r05_with c false).tag)), (AV.int (IntKind.i64) ((v_r05_with c false).per)), (AV.int (IntKind.i64) ((v_r05_with c false).ty)), (AV.int (IntKind.i64) ((v_r05_with c false).mo)), (AV.int (IntKind.i64) ((v_r05_with c false).e)), (AV.int (IntKind.i64) ((v_r05_with c false).b)), (AV.int (IntKind.i64) ((v_r05_with c false).t)), (AV.bool ((v_r05_with c false).big)), (AV.int (IntKind.u64) ((v_r05_with c false).ad))]))
 (cond (v_r05_Sealed c)
  (some (AV.agg [(AV.bool ((v_r05_with c false).tag)), (AV.int (IntKind.i64) ((v_r05_with c false).per)), (AV.int (IntKind.i64) ((v_r05_with c false).ty)), (AV.int (IntKind.i64) ((v_r05_with c false).mo)), (AV.int (IntKind.i64) ((v_r05_with c false).e)), (AV.int (IntKind.i64) ((v_r05_with c false).b)), (AV.int (IntKind.i64) ((v_r05_with c false).t)), (AV.bool ((v_r05_with c false).big)), (AV.int (IntKind.u64) ((v_r05_with c false).ad))]))
  (cond (!v_r05_can xby 128#64)
   (some (AV.agg [(AV.bool ((v_r05_with c false).tag)), (AV.int (IntKind.i64) ((v_r05_with c false).per)), (AV.int (IntKind.i64) ((v_r05_with c false).ty)), (AV.int (IntKind.i64) ((v_r05_with c false).mo)), (AV.int (IntKind.i64) ((v_r05_with c false).e)), (AV.int (IntKind.i64) ((v_r05_with c false).b)), (AV.int (IntKind.i64) ((v_r05_with c false).t)), (AV.bool ((v_r05_with c false).big)), (AV.int (IntKind.u64) ((v_r05_with c false).ad))]))
   (cond ((262135#64).ult xby.ad)
    (some (AV.agg [(AV.bool ((v_r05_with c false).tag)), (AV.int (IntKind.i64) ((v_r05_with c false).per)), (AV.int (IntKind.i64) ((v_r05_with c false).ty)), (AV.int (IntKind.i64) ((v_r05_with c false).mo)), (AV.int (IntKind.i64) ((v_r05_with c false).e)), (AV.int (IntKind.i64) ((v_r05_with c false).b)), (AV.int (IntKind.i64) ((v_r05_with c false).t)), (AV.bool ((v_r05_with c false).big)), (AV.int (IntKind.u64) ((v_r05_with c false).ad))]))
    (some (AV.agg [(AV.bool (c.tag)), (AV.int (IntKind.i64) (c.per)), (AV.int (IntKind.i64) (BitVec.setWidth 64 xby.ad)), (AV.int (IntKind.i64) (c.mo)), (AV.int (IntKind.i64) (c.e)), (AV.int (IntKind.i64) (c.b)), (AV.int (IntKind.i64) (c.t)), (AV.bool (c.big)), (AV.int (IntKind.u64) (c.ad))])))))) by kernel_rfl).trans ((mer _ (Cp.av) rfl (mer _ (Cp.av) rfl (mer _ (Cp.av) rfl (mer _ (Cp.av) rfl rfl)))))
noncomputable def C_34 : Oracle := pureE 34 (pure2 dCp dCp (fun c xby => (v_r05_Seal c xby).av)) (C_68)
theorem C_34_snd : Snd Try.prog C_34 := pureE_snd (pure2_ok (F := F34) (C_68_snd) Try.func34 (by kernel_rfl) run_34 (fun _ _ => rfl)) (C_68_snd)

/- ravelin/capops.Unseal -/
def F19 : Cfg := { F := 400, roots := [0, 1, 2], fl := ⟨true, false⟩ }
theorem run_19 : ∀ (c : Cp) (xby : Cp), pureRun Try.prog C_34 F19 Try.f19 [c.av, xby.av] = cond (g_capops_Unseal c xby) (some ((v_capops_Unseal c xby).av)) none := fun c xby =>
 (show pureRun Try.prog C_34 F19 Try.f19 [c.av, xby.av] = (cond ((262135#64).slt c.ty)
 (some (AV.agg [(AV.bool ((v_capops_keep c false).tag)), (AV.int (IntKind.i64) ((v_capops_keep c false).per)), (AV.int (IntKind.i64) ((v_capops_keep c false).ty)), (AV.int (IntKind.i64) ((v_capops_keep c false).mo)), (AV.int (IntKind.i64) ((v_capops_keep c false).e)), (AV.int (IntKind.i64) ((v_capops_keep c false).b)), (AV.int (IntKind.i64) ((v_capops_keep c false).t)), (AV.bool ((v_capops_keep c false).big)), (AV.int (IntKind.u64) ((v_capops_keep c false).ad))]))
 (cond (g_capops_seals xby 256#64)
  (cond (!v_capops_seals xby 256#64)
   (some (AV.agg [(AV.bool ((v_capops_keep c false).tag)), (AV.int (IntKind.i64) ((v_capops_keep c false).per)), (AV.int (IntKind.i64) ((v_capops_keep c false).ty)), (AV.int (IntKind.i64) ((v_capops_keep c false).mo)), (AV.int (IntKind.i64) ((v_capops_keep c false).e)), (AV.int (IntKind.i64) ((v_capops_keep c false).b)), (AV.int (IntKind.i64) ((v_capops_keep c false).t)), (AV.bool ((v_capops_keep c false).big)), (AV.int (IntKind.u64) ((v_capops_keep c false).ad))]))
   (cond (!xby.ad == BitVec.signExtend 64 c.ty)
    (some (AV.agg [(AV.bool ((v_capops_keep c false).tag)), (AV.int (IntKind.i64) ((v_capops_keep c false).per)), (AV.int (IntKind.i64) ((v_capops_keep c false).ty)), (AV.int (IntKind.i64) ((v_capops_keep c false).mo)), (AV.int (IntKind.i64) ((v_capops_keep c false).e)), (AV.int (IntKind.i64) ((v_capops_keep c false).b)), (AV.int (IntKind.i64) ((v_capops_keep c false).t)), (AV.bool ((v_capops_keep c false).big)), (AV.int (IntKind.u64) ((v_capops_keep c false).ad))]))
    (cond (!c.tag)
     (some (AV.agg [(AV.bool ((v_capops_keep c false).tag)), (AV.int (IntKind.i64) ((v_capops_keep c false).per)), (AV.int (IntKind.i64) ((v_capops_keep c false).ty)), (AV.int (IntKind.i64) ((v_capops_keep c false).mo)), (AV.int (IntKind.i64) ((v_capops_keep c false).e)), (AV.int (IntKind.i64) ((v_capops_keep c false).b)), (AV.int (IntKind.i64) ((v_capops_keep c false).t)), (AV.bool ((v_capops_keep c false).big)), (AV.int (IntKind.u64) ((v_capops_keep c false).ad))]))
     (some (AV.agg [(AV.bool (c.tag)), (AV.int (IntKind.i64) (c.per &&& (xby.per ||| 18446744073709551614#64))), (AV.int (IntKind.i64) (262143#64)), (AV.int (IntKind.i64) (c.mo)), (AV.int (IntKind.i64) (c.e)), (AV.int (IntKind.i64) (c.b)), (AV.int (IntKind.i64) (c.t)), (AV.bool (c.big)), (AV.int (IntKind.u64) (c.ad))])))))
  none)) by kernel_rfl).trans ((merG _ (Cp.av) rfl (merR _ (Cp.av) (merG _ (Cp.av) rfl (merG _ (Cp.av) rfl (merG _ (Cp.av) rfl rfl))))))
noncomputable def C_19 : Oracle := pureGE 19 (pure2 dCp dCp (fun c xby => .tup [.bool (g_capops_Unseal c xby), (v_capops_Unseal c xby).av])) (C_34)
theorem C_19_snd : Snd Try.prog C_19 := pureGE_snd (pure2_gok (F := F19) (C_34_snd) Try.func19 (by kernel_rfl) run_19 (fun _ _ => rfl)) (C_34_snd)

/- ravelin/ravelinref05.Unseal -/
def F35 : Cfg := { F := 400, roots := [0, 1, 2], fl := ⟨true, false⟩ }
theorem run_35 : ∀ (c : Cp) (xby : Cp), pureRun Try.prog C_19 F35 Try.f35 [c.av, xby.av] = some ((v_r05_Unseal c xby).av) := fun c xby =>
 (show pureRun Try.prog C_19 F35 Try.f35 [c.av, xby.av] = (cond (!c.tag)
 (some (AV.agg [(AV.bool ((v_r05_with c false).tag)), (AV.int (IntKind.i64) ((v_r05_with c false).per)), (AV.int (IntKind.i64) ((v_r05_with c false).ty)), (AV.int (IntKind.i64) ((v_r05_with c false).mo)), (AV.int (IntKind.i64) ((v_r05_with c false).e)), (AV.int (IntKind.i64) ((v_r05_with c false).b)), (AV.int (IntKind.i64) ((v_r05_with c false).t)), (AV.bool ((v_r05_with c false).big)), (AV.int (IntKind.u64) ((v_r05_with c false).ad))]))
 (cond ((262135#64).slt c.ty)
  (some (AV.agg [(AV.bool ((v_r05_with c false).tag)), (AV.int (IntKind.i64) ((v_r05_with c false).per)), (AV.int (IntKind.i64) ((v_r05_with c false).ty)), (AV.int (IntKind.i64) ((v_r05_with c false).mo)), (AV.int (IntKind.i64) ((v_r05_with c false).e)), (AV.int (IntKind.i64) ((v_r05_with c false).b)), (AV.int (IntKind.i64) ((v_r05_with c false).t)), (AV.bool ((v_r05_with c false).big)), (AV.int (IntKind.u64) ((v_r05_with c false).ad))]))
  (cond (!v_r05_can xby 256#64)
   (some (AV.agg [(AV.bool ((v_r05_with c false).tag)), (AV.int (IntKind.i64) ((v_r05_with c false).per)), (AV.int (IntKind.i64) ((v_r05_with c false).ty)), (AV.int (IntKind.i64) ((v_r05_with c false).mo)), (AV.int (IntKind.i64) ((v_r05_with c false).e)), (AV.int (IntKind.i64) ((v_r05_with c false).b)), (AV.int (IntKind.i64) ((v_r05_with c false).t)), (AV.bool ((v_r05_with c false).big)), (AV.int (IntKind.u64) ((v_r05_with c false).ad))]))
   (cond (!xby.ad == BitVec.signExtend 64 c.ty)
    (some (AV.agg [(AV.bool ((v_r05_with c false).tag)), (AV.int (IntKind.i64) ((v_r05_with c false).per)), (AV.int (IntKind.i64) ((v_r05_with c false).ty)), (AV.int (IntKind.i64) ((v_r05_with c false).mo)), (AV.int (IntKind.i64) ((v_r05_with c false).e)), (AV.int (IntKind.i64) ((v_r05_with c false).b)), (AV.int (IntKind.i64) ((v_r05_with c false).t)), (AV.bool ((v_r05_with c false).big)), (AV.int (IntKind.u64) ((v_r05_with c false).ad))]))
    (cond (xby.per &&& 1#64 == 0#64)
     (some (AV.agg [(AV.bool (c.tag)), (AV.int (IntKind.i64) (c.per &&& 18446744073709551614#64)), (AV.int (IntKind.i64) (262143#64)), (AV.int (IntKind.i64) (c.mo)), (AV.int (IntKind.i64) (c.e)), (AV.int (IntKind.i64) (c.b)), (AV.int (IntKind.i64) (c.t)), (AV.bool (c.big)), (AV.int (IntKind.u64) (c.ad))]))
     (some (AV.agg [(AV.bool (c.tag)), (AV.int (IntKind.i64) (c.per)), (AV.int (IntKind.i64) (262143#64)), (AV.int (IntKind.i64) (c.mo)), (AV.int (IntKind.i64) (c.e)), (AV.int (IntKind.i64) (c.b)), (AV.int (IntKind.i64) (c.t)), (AV.bool (c.big)), (AV.int (IntKind.u64) (c.ad))]))))))) by kernel_rfl).trans ((mer _ (Cp.av) rfl (mer _ (Cp.av) rfl (mer _ (Cp.av) rfl (mer _ (Cp.av) rfl (mer _ (Cp.av) rfl rfl))))))
noncomputable def C_35 : Oracle := pureE 35 (pure2 dCp dCp (fun c xby => (v_r05_Unseal c xby).av)) (C_19)
theorem C_35_snd : Snd Try.prog C_35 := pureE_snd (pure2_ok (F := F35) (C_19_snd) Try.func35 (by kernel_rfl) run_35 (fun _ _ => rfl)) (C_19_snd)

/- ravelin/bounds.Within -/
def F64 : Cfg := { F := 400, roots := [0, 1, 2], fl := ⟨true, false⟩ }
theorem run_64 : ∀ (a : Rg) (xb : Rg), pureRun Try.prog C_35 F64 Try.f64 [a.av, xb.av] = some (.bool (v_bounds_Within a xb)) := fun a xb =>
 (show pureRun Try.prog C_35 F64 Try.f64 [a.av, xb.av] = (cond (xb.base.ule a.base)
 (some (AV.bool (!v_bounds_number_above (v_bounds_top a) (v_bounds_top xb))))
 (some (AV.bool (false)))) by kernel_rfl).trans ((mer _ (fun p => .bool p) rfl rfl))
noncomputable def C_64 : Oracle := pureE 64 (pure2 dRg dRg (fun a xb => .bool (v_bounds_Within a xb))) (C_35)
theorem C_64_snd : Snd Try.prog C_64 := pureE_snd (pure2_ok (F := F64) (C_35_snd) Try.func64 (by kernel_rfl) run_64 (fun _ _ => rfl)) (C_35_snd)

/- ravelin/capops.Build -/
def F36 : Cfg := { F := 400, roots := [0, 1, 2, 3, 4], fl := ⟨true, false⟩ }
theorem run_36 : ∀ (xby : Cp) (c : Cp), pureRun Try.prog C_64 F36 Try.f36 [xby.av, c.av] = cond (g_capops_Build xby c) (some ((v_capops_Build xby c).av)) none := fun xby c =>
 (show pureRun Try.prog C_64 F36 Try.f36 [xby.av, c.av] = (cond (g_bounds_Of c)
 (cond ((v_bounds_Of c).over)
  (cond (!xby.tag)
   (some (AV.agg [(AV.bool ((v_capops_keep c false).tag)), (AV.int (IntKind.i64) ((v_capops_keep c false).per)), (AV.int (IntKind.i64) ((v_capops_keep c false).ty)), (AV.int (IntKind.i64) ((v_capops_keep c false).mo)), (AV.int (IntKind.i64) ((v_capops_keep c false).e)), (AV.int (IntKind.i64) ((v_capops_keep c false).b)), (AV.int (IntKind.i64) ((v_capops_keep c false).t)), (AV.bool ((v_capops_keep c false).big)), (AV.int (IntKind.u64) ((v_capops_keep c false).ad))]))
   (cond (v_capops_Sealed xby)
    (some (AV.agg [(AV.bool ((v_capops_keep c false).tag)), (AV.int (IntKind.i64) ((v_capops_keep c false).per)), (AV.int (IntKind.i64) ((v_capops_keep c false).ty)), (AV.int (IntKind.i64) ((v_capops_keep c false).mo)), (AV.int (IntKind.i64) ((v_capops_keep c false).e)), (AV.int (IntKind.i64) ((v_capops_keep c false).b)), (AV.int (IntKind.i64) ((v_capops_keep c false).t)), (AV.bool ((v_capops_keep c false).big)), (AV.int (IntKind.u64) ((v_capops_keep c false).ad))]))
    (cond (g_bounds_Of xby)
     (cond (!v_bounds_Within (v_bounds_Of c) (v_bounds_Of xby))
      (some (AV.agg [(AV.bool ((v_capops_keep c false).tag)), (AV.int (IntKind.i64) ((v_capops_keep c false).per)), (AV.int (IntKind.i64) ((v_capops_keep c false).ty)), (AV.int (IntKind.i64) ((v_capops_keep c false).mo)), (AV.int (IntKind.i64) ((v_capops_keep c false).e)), (AV.int (IntKind.i64) ((v_capops_keep c false).b)), (AV.int (IntKind.i64) ((v_capops_keep c false).t)), (AV.bool ((v_capops_keep c false).big)), (AV.int (IntKind.u64) ((v_capops_keep c false).ad))]))
      (cond (!c.per &&& ~~~xby.per == 0#64)
       (some (AV.agg [(AV.bool ((v_capops_keep c false).tag)), (AV.int (IntKind.i64) ((v_capops_keep c false).per)), (AV.int (IntKind.i64) ((v_capops_keep c false).ty)), (AV.int (IntKind.i64) ((v_capops_keep c false).mo)), (AV.int (IntKind.i64) ((v_capops_keep c false).e)), (AV.int (IntKind.i64) ((v_capops_keep c false).b)), (AV.int (IntKind.i64) ((v_capops_keep c false).t)), (AV.bool ((v_capops_keep c false).big)), (AV.int (IntKind.u64) ((v_capops_keep c false).ad))]))
       (cond (!c.ty == 262142#64)
        (some (AV.agg [(AV.bool (true)), (AV.int (IntKind.i64) (c.per)), (AV.int (IntKind.i64) (262143#64)), (AV.int (IntKind.i64) (c.mo)), (AV.int (IntKind.i64) (c.e)), (AV.int (IntKind.i64) (c.b)), (AV.int (IntKind.i64) (c.t)), (AV.bool (c.big)), (AV.int (IntKind.u64) (c.ad))]))
        (cond (c.per &&& 2#64 == 0#64)
         (some (AV.agg [(AV.bool (true)), (AV.int (IntKind.i64) (c.per)), (AV.int (IntKind.i64) (262143#64)), (AV.int (IntKind.i64) (c.mo)), (AV.int (IntKind.i64) (c.e)), (AV.int (IntKind.i64) (c.b)), (AV.int (IntKind.i64) (c.t)), (AV.bool (c.big)), (AV.int (IntKind.u64) (c.ad))]))
         (some (AV.agg [(AV.bool (true)), (AV.int (IntKind.i64) (c.per)), (AV.int (IntKind.i64) (c.ty)), (AV.int (IntKind.i64) (c.mo)), (AV.int (IntKind.i64) (c.e)), (AV.int (IntKind.i64) (c.b)), (AV.int (IntKind.i64) (c.t)), (AV.bool (c.big)), (AV.int (IntKind.u64) (c.ad))]))))))
     none)))
  (cond (!xby.tag)
   (some (AV.agg [(AV.bool ((v_capops_keep c false).tag)), (AV.int (IntKind.i64) ((v_capops_keep c false).per)), (AV.int (IntKind.i64) ((v_capops_keep c false).ty)), (AV.int (IntKind.i64) ((v_capops_keep c false).mo)), (AV.int (IntKind.i64) ((v_capops_keep c false).e)), (AV.int (IntKind.i64) ((v_capops_keep c false).b)), (AV.int (IntKind.i64) ((v_capops_keep c false).t)), (AV.bool ((v_capops_keep c false).big)), (AV.int (IntKind.u64) ((v_capops_keep c false).ad))]))
   (cond (v_capops_Sealed xby)
    (some (AV.agg [(AV.bool ((v_capops_keep c false).tag)), (AV.int (IntKind.i64) ((v_capops_keep c false).per)), (AV.int (IntKind.i64) ((v_capops_keep c false).ty)), (AV.int (IntKind.i64) ((v_capops_keep c false).mo)), (AV.int (IntKind.i64) ((v_capops_keep c false).e)), (AV.int (IntKind.i64) ((v_capops_keep c false).b)), (AV.int (IntKind.i64) ((v_capops_keep c false).t)), (AV.bool ((v_capops_keep c false).big)), (AV.int (IntKind.u64) ((v_capops_keep c false).ad))]))
    (cond (!(v_bounds_Of c).base.ule (v_bounds_Of c).top)
     (some (AV.agg [(AV.bool ((v_capops_keep c false).tag)), (AV.int (IntKind.i64) ((v_capops_keep c false).per)), (AV.int (IntKind.i64) ((v_capops_keep c false).ty)), (AV.int (IntKind.i64) ((v_capops_keep c false).mo)), (AV.int (IntKind.i64) ((v_capops_keep c false).e)), (AV.int (IntKind.i64) ((v_capops_keep c false).b)), (AV.int (IntKind.i64) ((v_capops_keep c false).t)), (AV.bool ((v_capops_keep c false).big)), (AV.int (IntKind.u64) ((v_capops_keep c false).ad))]))
     (cond (g_bounds_Of xby)
      (cond (!v_bounds_Within (v_bounds_Of c) (v_bounds_Of xby))
       (some (AV.agg [(AV.bool ((v_capops_keep c false).tag)), (AV.int (IntKind.i64) ((v_capops_keep c false).per)), (AV.int (IntKind.i64) ((v_capops_keep c false).ty)), (AV.int (IntKind.i64) ((v_capops_keep c false).mo)), (AV.int (IntKind.i64) ((v_capops_keep c false).e)), (AV.int (IntKind.i64) ((v_capops_keep c false).b)), (AV.int (IntKind.i64) ((v_capops_keep c false).t)), (AV.bool ((v_capops_keep c false).big)), (AV.int (IntKind.u64) ((v_capops_keep c false).ad))]))
       (cond (!c.per &&& ~~~xby.per == 0#64)
        (some (AV.agg [(AV.bool ((v_capops_keep c false).tag)), (AV.int (IntKind.i64) ((v_capops_keep c false).per)), (AV.int (IntKind.i64) ((v_capops_keep c false).ty)), (AV.int (IntKind.i64) ((v_capops_keep c false).mo)), (AV.int (IntKind.i64) ((v_capops_keep c false).e)), (AV.int (IntKind.i64) ((v_capops_keep c false).b)), (AV.int (IntKind.i64) ((v_capops_keep c false).t)), (AV.bool ((v_capops_keep c false).big)), (AV.int (IntKind.u64) ((v_capops_keep c false).ad))]))
        (cond (!c.ty == 262142#64)
         (some (AV.agg [(AV.bool (true)), (AV.int (IntKind.i64) (c.per)), (AV.int (IntKind.i64) (262143#64)), (AV.int (IntKind.i64) (c.mo)), (AV.int (IntKind.i64) (c.e)), (AV.int (IntKind.i64) (c.b)), (AV.int (IntKind.i64) (c.t)), (AV.bool (c.big)), (AV.int (IntKind.u64) (c.ad))]))
         (cond (c.per &&& 2#64 == 0#64)
          (some (AV.agg [(AV.bool (true)), (AV.int (IntKind.i64) (c.per)), (AV.int (IntKind.i64) (262143#64)), (AV.int (IntKind.i64) (c.mo)), (AV.int (IntKind.i64) (c.e)), (AV.int (IntKind.i64) (c.b)), (AV.int (IntKind.i64) (c.t)), (AV.bool (c.big)), (AV.int (IntKind.u64) (c.ad))]))
          (some (AV.agg [(AV.bool (true)), (AV.int (IntKind.i64) (c.per)), (AV.int (IntKind.i64) (c.ty)), (AV.int (IntKind.i64) (c.mo)), (AV.int (IntKind.i64) (c.e)), (AV.int (IntKind.i64) (c.b)), (AV.int (IntKind.i64) (c.t)), (AV.bool (c.big)), (AV.int (IntKind.u64) (c.ad))]))))))
      none)))))
 none) by kernel_rfl).trans ((merR _ (Cp.av) (merG _ (Cp.av) (merG _ (Cp.av) rfl (merG _ (Cp.av) rfl (merR _ (Cp.av) (merG _ (Cp.av) rfl (merG _ (Cp.av) rfl (merG _ (Cp.av) rfl (merG _ (Cp.av) rfl rfl))))))) (merG _ (Cp.av) rfl (merG _ (Cp.av) rfl (merG _ (Cp.av) rfl (merR _ (Cp.av) (merG _ (Cp.av) rfl (merG _ (Cp.av) rfl (merG _ (Cp.av) rfl (merG _ (Cp.av) rfl rfl)))))))))))
noncomputable def C_36 : Oracle := pureGE 36 (pure2 dCp dCp (fun xby c => .tup [.bool (g_capops_Build xby c), (v_capops_Build xby c).av])) (C_64)
theorem C_36_snd : Snd Try.prog C_36 := pureGE_snd (pure2_gok (F := F36) (C_64_snd) Try.func36 (by kernel_rfl) run_36 (fun _ _ => rfl)) (C_64_snd)

/- ravelin/ravelinref03.Within -/
def F70 : Cfg := { F := 400, roots := [0, 1, 2], fl := ⟨true, false⟩ }
theorem run_70 : ∀ (a : Rg) (xb : Rg), pureRun Try.prog C_36 F70 Try.f70 [a.av, xb.av] = some (.bool (v_r03_Within a xb)) := fun a xb =>
 (show pureRun Try.prog C_36 F70 Try.f70 [a.av, xb.av] = (cond (xb.base.ule a.base)
 (some (AV.bool (v_r03_notAbove (v_r03_top a) (v_r03_top xb))))
 (some (AV.bool (false)))) by kernel_rfl).trans ((mer _ (fun p => .bool p) rfl rfl))
noncomputable def C_70 : Oracle := pureE 70 (pure2 dRg dRg (fun a xb => .bool (v_r03_Within a xb))) (C_36)
theorem C_70_snd : Snd Try.prog C_70 := pureE_snd (pure2_ok (F := F70) (C_36_snd) Try.func70 (by kernel_rfl) run_70 (fun _ _ => rfl)) (C_36_snd)

/- ravelin/ravelinref05.Build -/
def F37 : Cfg := { F := 400, roots := [0, 1, 2, 3, 4], fl := ⟨true, false⟩ }
theorem run_37 : ∀ (xby : Cp) (c : Cp), pureRun Try.prog C_70 F37 Try.f37 [xby.av, c.av] = some ((v_r05_Build xby c).av) := fun xby c =>
 (show pureRun Try.prog C_70 F37 Try.f37 [xby.av, c.av] = (cond (!xby.tag)
 (some (AV.agg [(AV.bool ((v_r05_with c false).tag)), (AV.int (IntKind.i64) ((v_r05_with c false).per)), (AV.int (IntKind.i64) ((v_r05_with c false).ty)), (AV.int (IntKind.i64) ((v_r05_with c false).mo)), (AV.int (IntKind.i64) ((v_r05_with c false).e)), (AV.int (IntKind.i64) ((v_r05_with c false).b)), (AV.int (IntKind.i64) ((v_r05_with c false).t)), (AV.bool ((v_r05_with c false).big)), (AV.int (IntKind.u64) ((v_r05_with c false).ad))]))
 (cond (v_r05_Sealed xby)
  (some (AV.agg [(AV.bool ((v_r05_with c false).tag)), (AV.int (IntKind.i64) ((v_r05_with c false).per)), (AV.int (IntKind.i64) ((v_r05_with c false).ty)), (AV.int (IntKind.i64) ((v_r05_with c false).mo)), (AV.int (IntKind.i64) ((v_r05_with c false).e)), (AV.int (IntKind.i64) ((v_r05_with c false).b)), (AV.int (IntKind.i64) ((v_r05_with c false).t)), (AV.bool ((v_r05_with c false).big)), (AV.int (IntKind.u64) ((v_r05_with c false).ad))]))
  (cond (!v_r03_Within { base := (v_r03_Of c).base, top := (v_r03_Of c).base, over := false } (v_r03_Of c))
   (some (AV.agg [(AV.bool ((v_r05_with c false).tag)), (AV.int (IntKind.i64) ((v_r05_with c false).per)), (AV.int (IntKind.i64) ((v_r05_with c false).ty)), (AV.int (IntKind.i64) ((v_r05_with c false).mo)), (AV.int (IntKind.i64) ((v_r05_with c false).e)), (AV.int (IntKind.i64) ((v_r05_with c false).b)), (AV.int (IntKind.i64) ((v_r05_with c false).t)), (AV.bool ((v_r05_with c false).big)), (AV.int (IntKind.u64) ((v_r05_with c false).ad))]))
   (cond (!v_r03_Within (v_r03_Of c) (v_r03_Of xby))
    (some (AV.agg [(AV.bool ((v_r05_with c false).tag)), (AV.int (IntKind.i64) ((v_r05_with c false).per)), (AV.int (IntKind.i64) ((v_r05_with c false).ty)), (AV.int (IntKind.i64) ((v_r05_with c false).mo)), (AV.int (IntKind.i64) ((v_r05_with c false).e)), (AV.int (IntKind.i64) ((v_r05_with c false).b)), (AV.int (IntKind.i64) ((v_r05_with c false).t)), (AV.bool ((v_r05_with c false).big)), (AV.int (IntKind.u64) ((v_r05_with c false).ad))]))
    (cond (!c.per &&& ~~~xby.per == 0#64)
     (some (AV.agg [(AV.bool ((v_r05_with c false).tag)), (AV.int (IntKind.i64) ((v_r05_with c false).per)), (AV.int (IntKind.i64) ((v_r05_with c false).ty)), (AV.int (IntKind.i64) ((v_r05_with c false).mo)), (AV.int (IntKind.i64) ((v_r05_with c false).e)), (AV.int (IntKind.i64) ((v_r05_with c false).b)), (AV.int (IntKind.i64) ((v_r05_with c false).t)), (AV.bool ((v_r05_with c false).big)), (AV.int (IntKind.u64) ((v_r05_with c false).ad))]))
     (cond (!c.ty == 262142#64)
      (some (AV.agg [(AV.bool ((v_r05_with { tag := c.tag, per := c.per, ty := 262143#64, mo := c.mo, e := c.e, b := c.b, t := c.t, big := c.big, ad := c.ad } true).tag)), (AV.int (IntKind.i64) ((v_r05_with { tag := c.tag, per := c.per, ty := 262143#64, mo := c.mo, e := c.e, b := c.b, t := c.t, big := c.big, ad := c.ad } true).per)), (AV.int (IntKind.i64) ((v_r05_with { tag := c.tag, per := c.per, ty := 262143#64, mo := c.mo, e := c.e, b := c.b, t := c.t, big := c.big, ad := c.ad } true).ty)), (AV.int (IntKind.i64) ((v_r05_with { tag := c.tag, per := c.per, ty := 262143#64, mo := c.mo, e := c.e, b := c.b, t := c.t, big := c.big, ad := c.ad } true).mo)), (AV.int (IntKind.i64) ((v_r05_with { tag := c.tag, per := c.per, ty := 262143#64, mo := c.mo, e := c.e, b := c.b, t := c.t, big := c.big, ad := c.ad } true).e)), (AV.int (IntKind.i64) ((v_r05_with { tag := c.tag, per := c.per, ty := 262143#64, mo := c.mo, e := c.e, b := c.b, t := c.t, big := c.big, ad := c.ad } true).b)), (AV.int (IntKind.i64) ((v_r05_with { tag := c.tag, per := c.per, ty := 262143#64, mo := c.mo, e := c.e, b := c.b, t := c.t, big := c.big, ad := c.ad } true).t)), (AV.bool ((v_r05_with { tag := c.tag, per := c.per, ty := 262143#64, mo := c.mo, e := c.e, b := c.b, t := c.t, big := c.big, ad := c.ad } true).big)), (AV.int (IntKind.u64) ((v_r05_with { tag := c.tag, per := c.per, ty := 262143#64, mo := c.mo, e := c.e, b := c.b, t := c.t, big := c.big, ad := c.ad } true).ad))]))
      (cond (c.per &&& 2#64 == 0#64)
       (some (AV.agg [(AV.bool ((v_r05_with { tag := c.tag, per := c.per, ty := 262143#64, mo := c.mo, e := c.e, b := c.b, t := c.t, big := c.big, ad := c.ad } true).tag)), (AV.int (IntKind.i64) ((v_r05_with { tag := c.tag, per := c.per, ty := 262143#64, mo := c.mo, e := c.e, b := c.b, t := c.t, big := c.big, ad := c.ad } true).per)), (AV.int (IntKind.i64) ((v_r05_with { tag := c.tag, per := c.per, ty := 262143#64, mo := c.mo, e := c.e, b := c.b, t := c.t, big := c.big, ad := c.ad } true).ty)), (AV.int (IntKind.i64) ((v_r05_with { tag := c.tag, per := c.per, ty := 262143#64, mo := c.mo, e := c.e, b := c.b, t := c.t, big := c.big, ad := c.ad } true).mo)), (AV.int (IntKind.i64) ((v_r05_with { tag := c.tag, per := c.per, ty := 262143#64, mo := c.mo, e := c.e, b := c.b, t := c.t, big := c.big, ad := c.ad } true).e)), (AV.int (IntKind.i64) ((v_r05_with { tag := c.tag, per := c.per, ty := 262143#64, mo := c.mo, e := c.e, b := c.b, t := c.t, big := c.big, ad := c.ad } true).b)), (AV.int (IntKind.i64) ((v_r05_with { tag := c.tag, per := c.per, ty := 262143#64, mo := c.mo, e := c.e, b := c.b, t := c.t, big := c.big, ad := c.ad } true).t)), (AV.bool ((v_r05_with { tag := c.tag, per := c.per, ty := 262143#64, mo := c.mo, e := c.e, b := c.b, t := c.t, big := c.big, ad := c.ad } true).big)), (AV.int (IntKind.u64) ((v_r05_with { tag := c.tag, per := c.per, ty := 262143#64, mo := c.mo, e := c.e, b := c.b, t := c.t, big := c.big, ad := c.ad } true).ad))]))
       (some (AV.agg [(AV.bool ((v_r05_with c true).tag)), (AV.int (IntKind.i64) ((v_r05_with c true).per)), (AV.int (IntKind.i64) ((v_r05_with c true).ty)), (AV.int (IntKind.i64) ((v_r05_with c true).mo)), (AV.int (IntKind.i64) ((v_r05_with c true).e)), (AV.int (IntKind.i64) ((v_r05_with c true).b)), (AV.int (IntKind.i64) ((v_r05_with c true).t)), (AV.bool ((v_r05_with c true).big)), (AV.int (IntKind.u64) ((v_r05_with c true).ad))]))))))))) by kernel_rfl).trans ((mer _ (Cp.av) rfl (mer _ (Cp.av) rfl (mer _ (Cp.av) rfl (mer _ (Cp.av) rfl (mer _ (Cp.av) rfl (mer _ (Cp.av) rfl (mer _ (Cp.av) rfl rfl))))))))
noncomputable def C_37 : Oracle := pureE 37 (pure2 dCp dCp (fun xby c => (v_r05_Build xby c).av)) (C_70)
theorem C_37_snd : Snd Try.prog C_37 := pureE_snd (pure2_ok (F := F37) (C_70_snd) Try.func37 (by kernel_rfl) run_37 (fun _ _ => rfl)) (C_70_snd)

/- ravelin/capenc.Number -/
def F44 : Cfg := { F := 400, roots := [0, 1], fl := ⟨true, false⟩ }
theorem run_44 : ∀ (n : BitVec 64), pureRun Try.prog C_37 F44 Try.f44 [.int .u64 n] = some ((v_capenc_Number n).av) := fun n =>
 (show pureRun Try.prog C_37 F44 Try.f44 [.int .u64 n] = (some (AV.agg [(AV.bool (false)), (AV.int (IntKind.i64) (0#64)), (AV.int (IntKind.i64) (262143#64)), (AV.int (IntKind.i64) (0#64)), (AV.int (IntKind.i64) (52#64)), (AV.int (IntKind.i64) (0#64)), (AV.int (IntKind.i64) (0#64)), (AV.bool (true)), (AV.int (IntKind.u64) (n))])) by kernel_rfl).trans (rfl)
noncomputable def C_44 : Oracle := pureE 44 (pure1 dU64 (fun n => (v_capenc_Number n).av)) (C_37)
theorem C_44_snd : Snd Try.prog C_44 := pureE_snd (pure1_ok (F := F44) (C_37_snd) Try.func44 (by kernel_rfl) run_44 (fun _ => rfl)) (C_37_snd)

/- ravelin/bounds.Fits -/
def F65 : Cfg := { F := 400, roots := [0, 1, 2, 3], fl := ⟨true, false⟩ }
theorem run_65 : ∀ (c : Cp) (xat : BitVec 64), pureRun Try.prog C_44 F65 Try.f65 [c.av, .int .u64 xat] = cond (g_bounds_Fits c xat) (some (.bool (v_bounds_Fits c xat))) none := fun c xat =>
 (show pureRun Try.prog C_44 F65 Try.f65 [c.av, .int .u64 xat] = (cond (g_bounds_Of c)
 (cond (g_bounds_Of { tag := c.tag, per := c.per, ty := c.ty, mo := c.mo, e := c.e, b := c.b, t := c.t, big := c.big, ad := xat })
  (some (AV.bool ((v_bounds_Of { tag := c.tag, per := c.per, ty := c.ty, mo := c.mo, e := c.e, b := c.b, t := c.t, big := c.big, ad := xat }).base == (v_bounds_Of c).base && ((v_bounds_Of { tag := c.tag, per := c.per, ty := c.ty, mo := c.mo, e := c.e, b := c.b, t := c.t, big := c.big, ad := xat }).top == (v_bounds_Of c).top && ((v_bounds_Of { tag := c.tag, per := c.per, ty := c.ty, mo := c.mo, e := c.e, b := c.b, t := c.t, big := c.big, ad := xat }).over == (v_bounds_Of c).over && true)))))
  none)
 none) by kernel_rfl).trans ((merR _ (fun p => .bool p) (merR _ (fun p => .bool p) rfl)))
noncomputable def C_65 : Oracle := pureGE 65 (pure2 dCp dU64 (fun c xat => .tup [.bool (g_bounds_Fits c xat), .bool (v_bounds_Fits c xat)])) (C_44)
theorem C_65_snd : Snd Try.prog C_65 := pureGE_snd (pure2_gok (F := F65) (C_44_snd) Try.func65 (by kernel_rfl) run_65 (fun _ _ => rfl)) (C_44_snd)

/- ravelin/capops.Move -/
def F21 : Cfg := { F := 400, roots := [0, 1, 2, 3], fl := ⟨true, false⟩ }
theorem run_21 : ∀ (c : Cp) (xat : BitVec 64), pureRun Try.prog C_65 F21 Try.f21 [c.av, .int .u64 xat] = cond (g_capops_Move c xat) (some ((v_capops_Move c xat).av)) none := fun c xat =>
 (show pureRun Try.prog C_65 F21 Try.f21 [c.av, .int .u64 xat] = (cond (!v_capops_Sealed c)
 (cond (g_bounds_Fits c xat)
  (some (AV.agg [(AV.bool ((v_capops_keep { tag := c.tag, per := c.per, ty := c.ty, mo := c.mo, e := c.e, b := c.b, t := c.t, big := c.big, ad := xat } (v_bounds_Fits c xat)).tag)), (AV.int (IntKind.i64) ((v_capops_keep { tag := c.tag, per := c.per, ty := c.ty, mo := c.mo, e := c.e, b := c.b, t := c.t, big := c.big, ad := xat } (v_bounds_Fits c xat)).per)), (AV.int (IntKind.i64) ((v_capops_keep { tag := c.tag, per := c.per, ty := c.ty, mo := c.mo, e := c.e, b := c.b, t := c.t, big := c.big, ad := xat } (v_bounds_Fits c xat)).ty)), (AV.int (IntKind.i64) ((v_capops_keep { tag := c.tag, per := c.per, ty := c.ty, mo := c.mo, e := c.e, b := c.b, t := c.t, big := c.big, ad := xat } (v_bounds_Fits c xat)).mo)), (AV.int (IntKind.i64) ((v_capops_keep { tag := c.tag, per := c.per, ty := c.ty, mo := c.mo, e := c.e, b := c.b, t := c.t, big := c.big, ad := xat } (v_bounds_Fits c xat)).e)), (AV.int (IntKind.i64) ((v_capops_keep { tag := c.tag, per := c.per, ty := c.ty, mo := c.mo, e := c.e, b := c.b, t := c.t, big := c.big, ad := xat } (v_bounds_Fits c xat)).b)), (AV.int (IntKind.i64) ((v_capops_keep { tag := c.tag, per := c.per, ty := c.ty, mo := c.mo, e := c.e, b := c.b, t := c.t, big := c.big, ad := xat } (v_bounds_Fits c xat)).t)), (AV.bool ((v_capops_keep { tag := c.tag, per := c.per, ty := c.ty, mo := c.mo, e := c.e, b := c.b, t := c.t, big := c.big, ad := xat } (v_bounds_Fits c xat)).big)), (AV.int (IntKind.u64) ((v_capops_keep { tag := c.tag, per := c.per, ty := c.ty, mo := c.mo, e := c.e, b := c.b, t := c.t, big := c.big, ad := xat } (v_bounds_Fits c xat)).ad))]))
  none)
 (some (AV.agg [(AV.bool ((v_capops_keep { tag := c.tag, per := c.per, ty := c.ty, mo := c.mo, e := c.e, b := c.b, t := c.t, big := c.big, ad := xat } false).tag)), (AV.int (IntKind.i64) ((v_capops_keep { tag := c.tag, per := c.per, ty := c.ty, mo := c.mo, e := c.e, b := c.b, t := c.t, big := c.big, ad := xat } false).per)), (AV.int (IntKind.i64) ((v_capops_keep { tag := c.tag, per := c.per, ty := c.ty, mo := c.mo, e := c.e, b := c.b, t := c.t, big := c.big, ad := xat } false).ty)), (AV.int (IntKind.i64) ((v_capops_keep { tag := c.tag, per := c.per, ty := c.ty, mo := c.mo, e := c.e, b := c.b, t := c.t, big := c.big, ad := xat } false).mo)), (AV.int (IntKind.i64) ((v_capops_keep { tag := c.tag, per := c.per, ty := c.ty, mo := c.mo, e := c.e, b := c.b, t := c.t, big := c.big, ad := xat } false).e)), (AV.int (IntKind.i64) ((v_capops_keep { tag := c.tag, per := c.per, ty := c.ty, mo := c.mo, e := c.e, b := c.b, t := c.t, big := c.big, ad := xat } false).b)), (AV.int (IntKind.i64) ((v_capops_keep { tag := c.tag, per := c.per, ty := c.ty, mo := c.mo, e := c.e, b := c.b, t := c.t, big := c.big, ad := xat } false).t)), (AV.bool ((v_capops_keep { tag := c.tag, per := c.per, ty := c.ty, mo := c.mo, e := c.e, b := c.b, t := c.t, big := c.big, ad := xat } false).big)), (AV.int (IntKind.u64) ((v_capops_keep { tag := c.tag, per := c.per, ty := c.ty, mo := c.mo, e := c.e, b := c.b, t := c.t, big := c.big, ad := xat } false).ad))]))) by kernel_rfl).trans ((merG _ (Cp.av) (merR _ (Cp.av) rfl) rfl))
noncomputable def C_21 : Oracle := pureGE 21 (pure2 dCp dU64 (fun c xat => .tup [.bool (g_capops_Move c xat), (v_capops_Move c xat).av])) (C_65)
theorem C_21_snd : Snd Try.prog C_21 := pureGE_snd (pure2_gok (F := F21) (C_65_snd) Try.func21 (by kernel_rfl) run_21 (fun _ _ => rfl)) (C_65_snd)

/- ravelin/capops.Typed -/
def F38 : Cfg := { F := 400, roots := [0, 1, 2], fl := ⟨true, false⟩ }
theorem run_38 : ∀ (c : Cp) (xof : Cp), pureRun Try.prog C_21 F38 Try.f38 [c.av, xof.av] = cond (g_capops_Typed c xof) (some ((v_capops_Typed c xof).av)) none := fun c xof =>
 (show pureRun Try.prog C_21 F38 Try.f38 [c.av, xof.av] = (cond ((262135#64).slt xof.ty)
 (some (AV.agg [(AV.bool (false)), (AV.int (IntKind.i64) (0#64)), (AV.int (IntKind.i64) (262143#64)), (AV.int (IntKind.i64) (0#64)), (AV.int (IntKind.i64) (52#64)), (AV.int (IntKind.i64) (0#64)), (AV.int (IntKind.i64) (0#64)), (AV.bool (true)), (AV.int (IntKind.u64) (18446744073709551615#64))]))
 (cond (g_capops_Move c (BitVec.signExtend 64 xof.ty))
  (some (AV.agg [(AV.bool ((v_capops_Move c (BitVec.signExtend 64 xof.ty)).tag)), (AV.int (IntKind.i64) ((v_capops_Move c (BitVec.signExtend 64 xof.ty)).per)), (AV.int (IntKind.i64) ((v_capops_Move c (BitVec.signExtend 64 xof.ty)).ty)), (AV.int (IntKind.i64) ((v_capops_Move c (BitVec.signExtend 64 xof.ty)).mo)), (AV.int (IntKind.i64) ((v_capops_Move c (BitVec.signExtend 64 xof.ty)).e)), (AV.int (IntKind.i64) ((v_capops_Move c (BitVec.signExtend 64 xof.ty)).b)), (AV.int (IntKind.i64) ((v_capops_Move c (BitVec.signExtend 64 xof.ty)).t)), (AV.bool ((v_capops_Move c (BitVec.signExtend 64 xof.ty)).big)), (AV.int (IntKind.u64) ((v_capops_Move c (BitVec.signExtend 64 xof.ty)).ad))]))
  none)) by kernel_rfl).trans ((merG _ (Cp.av) rfl (merR _ (Cp.av) rfl)))
noncomputable def C_38 : Oracle := pureGE 38 (pure2 dCp dCp (fun c xof => .tup [.bool (g_capops_Typed c xof), (v_capops_Typed c xof).av])) (C_21)
theorem C_38_snd : Snd Try.prog C_38 := pureGE_snd (pure2_gok (F := F38) (C_21_snd) Try.func38 (by kernel_rfl) run_38 (fun _ _ => rfl)) (C_21_snd)

/- ravelin/ravelinref04.Number -/
def F71 : Cfg := { F := 400, roots := [0, 1], fl := ⟨true, false⟩ }
theorem run_71 : ∀ (n : BitVec 64), pureRun Try.prog C_38 F71 Try.f71 [.int .u64 n] = some ((v_r04_Number n).av) := fun n =>
 (show pureRun Try.prog C_38 F71 Try.f71 [.int .u64 n] = (some (AV.agg [(AV.bool (false)), (AV.int (IntKind.i64) (0#64)), (AV.int (IntKind.i64) (262143#64)), (AV.int (IntKind.i64) (0#64)), (AV.int (IntKind.i64) (52#64)), (AV.int (IntKind.i64) (0#64)), (AV.int (IntKind.i64) (0#64)), (AV.bool (true)), (AV.int (IntKind.u64) (n))])) by kernel_rfl).trans (rfl)
noncomputable def C_71 : Oracle := pureE 71 (pure1 dU64 (fun n => (v_r04_Number n).av)) (C_38)
theorem C_71_snd : Snd Try.prog C_71 := pureE_snd (pure1_ok (F := F71) (C_38_snd) Try.func71 (by kernel_rfl) run_71 (fun _ => rfl)) (C_38_snd)

/- ravelin/ravelinref03.Fits -/
def F67 : Cfg := { F := 400, roots := [0, 1, 2, 3], fl := ⟨true, false⟩ }
theorem run_67 : ∀ (c : Cp) (xat : BitVec 64), pureRun Try.prog C_71 F67 Try.f67 [c.av, .int .u64 xat] = some (.bool (v_r03_Fits c xat)) := fun c xat =>
 (show pureRun Try.prog C_71 F67 Try.f67 [c.av, .int .u64 xat] = (some (AV.bool ((v_r03_Of c).base == (v_r03_Of { tag := c.tag, per := c.per, ty := c.ty, mo := c.mo, e := c.e, b := c.b, t := c.t, big := c.big, ad := xat }).base && ((v_r03_Of c).top == (v_r03_Of { tag := c.tag, per := c.per, ty := c.ty, mo := c.mo, e := c.e, b := c.b, t := c.t, big := c.big, ad := xat }).top && ((v_r03_Of c).over == (v_r03_Of { tag := c.tag, per := c.per, ty := c.ty, mo := c.mo, e := c.e, b := c.b, t := c.t, big := c.big, ad := xat }).over && true))))) by kernel_rfl).trans (rfl)
noncomputable def C_67 : Oracle := pureE 67 (pure2 dCp dU64 (fun c xat => .bool (v_r03_Fits c xat))) (C_71)
theorem C_67_snd : Snd Try.prog C_67 := pureE_snd (pure2_ok (F := F67) (C_71_snd) Try.func67 (by kernel_rfl) run_67 (fun _ _ => rfl)) (C_71_snd)

/- ravelin/ravelinref05.Move -/
def F25 : Cfg := { F := 400, roots := [0, 1, 2, 3], fl := ⟨true, false⟩ }
theorem run_25 : ∀ (c : Cp) (xat : BitVec 64), pureRun Try.prog C_67 F25 Try.f25 [c.av, .int .u64 xat] = some ((v_r05_Move c xat).av) := fun c xat =>
 (show pureRun Try.prog C_67 F25 Try.f25 [c.av, .int .u64 xat] = (cond (c.tag)
 (cond (!v_r05_Sealed c)
  (some (AV.agg [(AV.bool ((v_r05_with { tag := c.tag, per := c.per, ty := c.ty, mo := c.mo, e := c.e, b := c.b, t := c.t, big := c.big, ad := xat } (v_r03_Fits c xat)).tag)), (AV.int (IntKind.i64) ((v_r05_with { tag := c.tag, per := c.per, ty := c.ty, mo := c.mo, e := c.e, b := c.b, t := c.t, big := c.big, ad := xat } (v_r03_Fits c xat)).per)), (AV.int (IntKind.i64) ((v_r05_with { tag := c.tag, per := c.per, ty := c.ty, mo := c.mo, e := c.e, b := c.b, t := c.t, big := c.big, ad := xat } (v_r03_Fits c xat)).ty)), (AV.int (IntKind.i64) ((v_r05_with { tag := c.tag, per := c.per, ty := c.ty, mo := c.mo, e := c.e, b := c.b, t := c.t, big := c.big, ad := xat } (v_r03_Fits c xat)).mo)), (AV.int (IntKind.i64) ((v_r05_with { tag := c.tag, per := c.per, ty := c.ty, mo := c.mo, e := c.e, b := c.b, t := c.t, big := c.big, ad := xat } (v_r03_Fits c xat)).e)), (AV.int (IntKind.i64) ((v_r05_with { tag := c.tag, per := c.per, ty := c.ty, mo := c.mo, e := c.e, b := c.b, t := c.t, big := c.big, ad := xat } (v_r03_Fits c xat)).b)), (AV.int (IntKind.i64) ((v_r05_with { tag := c.tag, per := c.per, ty := c.ty, mo := c.mo, e := c.e, b := c.b, t := c.t, big := c.big, ad := xat } (v_r03_Fits c xat)).t)), (AV.bool ((v_r05_with { tag := c.tag, per := c.per, ty := c.ty, mo := c.mo, e := c.e, b := c.b, t := c.t, big := c.big, ad := xat } (v_r03_Fits c xat)).big)), (AV.int (IntKind.u64) ((v_r05_with { tag := c.tag, per := c.per, ty := c.ty, mo := c.mo, e := c.e, b := c.b, t := c.t, big := c.big, ad := xat } (v_r03_Fits c xat)).ad))]))
  (some (AV.agg [(AV.bool ((v_r05_with { tag := c.tag, per := c.per, ty := c.ty, mo := c.mo, e := c.e, b := c.b, t := c.t, big := c.big, ad := xat } false).tag)), (AV.int (IntKind.i64) ((v_r05_with { tag := c.tag, per := c.per, ty := c.ty, mo := c.mo, e := c.e, b := c.b, t := c.t, big := c.big, ad := xat } false).per)), (AV.int (IntKind.i64) ((v_r05_with { tag := c.tag, per := c.per, ty := c.ty, mo := c.mo, e := c.e, b := c.b, t := c.t, big := c.big, ad := xat } false).ty)), (AV.int (IntKind.i64) ((v_r05_with { tag := c.tag, per := c.per, ty := c.ty, mo := c.mo, e := c.e, b := c.b, t := c.t, big := c.big, ad := xat } false).mo)), (AV.int (IntKind.i64) ((v_r05_with { tag := c.tag, per := c.per, ty := c.ty, mo := c.mo, e := c.e, b := c.b, t := c.t, big := c.big, ad := xat } false).e)), (AV.int (IntKind.i64) ((v_r05_with { tag := c.tag, per := c.per, ty := c.ty, mo := c.mo, e := c.e, b := c.b, t := c.t, big := c.big, ad := xat } false).b)), (AV.int (IntKind.i64) ((v_r05_with { tag := c.tag, per := c.per, ty := c.ty, mo := c.mo, e := c.e, b := c.b, t := c.t, big := c.big, ad := xat } false).t)), (AV.bool ((v_r05_with { tag := c.tag, per := c.per, ty := c.ty, mo := c.mo, e := c.e, b := c.b, t := c.t, big := c.big, ad := xat } false).big)), (AV.int (IntKind.u64) ((v_r05_with { tag := c.tag, per := c.per, ty := c.ty, mo := c.mo, e := c.e, b := c.b, t := c.t, big := c.big, ad := xat } false).ad))])))
 (some (AV.agg [(AV.bool ((v_r05_with { tag := c.tag, per := c.per, ty := c.ty, mo := c.mo, e := c.e, b := c.b, t := c.t, big := c.big, ad := xat } false).tag)), (AV.int (IntKind.i64) ((v_r05_with { tag := c.tag, per := c.per, ty := c.ty, mo := c.mo, e := c.e, b := c.b, t := c.t, big := c.big, ad := xat } false).per)), (AV.int (IntKind.i64) ((v_r05_with { tag := c.tag, per := c.per, ty := c.ty, mo := c.mo, e := c.e, b := c.b, t := c.t, big := c.big, ad := xat } false).ty)), (AV.int (IntKind.i64) ((v_r05_with { tag := c.tag, per := c.per, ty := c.ty, mo := c.mo, e := c.e, b := c.b, t := c.t, big := c.big, ad := xat } false).mo)), (AV.int (IntKind.i64) ((v_r05_with { tag := c.tag, per := c.per, ty := c.ty, mo := c.mo, e := c.e, b := c.b, t := c.t, big := c.big, ad := xat } false).e)), (AV.int (IntKind.i64) ((v_r05_with { tag := c.tag, per := c.per, ty := c.ty, mo := c.mo, e := c.e, b := c.b, t := c.t, big := c.big, ad := xat } false).b)), (AV.int (IntKind.i64) ((v_r05_with { tag := c.tag, per := c.per, ty := c.ty, mo := c.mo, e := c.e, b := c.b, t := c.t, big := c.big, ad := xat } false).t)), (AV.bool ((v_r05_with { tag := c.tag, per := c.per, ty := c.ty, mo := c.mo, e := c.e, b := c.b, t := c.t, big := c.big, ad := xat } false).big)), (AV.int (IntKind.u64) ((v_r05_with { tag := c.tag, per := c.per, ty := c.ty, mo := c.mo, e := c.e, b := c.b, t := c.t, big := c.big, ad := xat } false).ad))]))) by kernel_rfl).trans ((mer _ (Cp.av) (mer _ (Cp.av) rfl rfl) rfl))
noncomputable def C_25 : Oracle := pureE 25 (pure2 dCp dU64 (fun c xat => (v_r05_Move c xat).av)) (C_67)
theorem C_25_snd : Snd Try.prog C_25 := pureE_snd (pure2_ok (F := F25) (C_67_snd) Try.func25 (by kernel_rfl) run_25 (fun _ _ => rfl)) (C_67_snd)

/- ravelin/ravelinref05.Typed -/
def F39 : Cfg := { F := 400, roots := [0, 1, 2], fl := ⟨true, false⟩ }
theorem run_39 : ∀ (c : Cp) (xof : Cp), pureRun Try.prog C_25 F39 Try.f39 [c.av, xof.av] = some ((v_r05_Typed c xof).av) := fun c xof =>
 (show pureRun Try.prog C_25 F39 Try.f39 [c.av, xof.av] = (cond ((262135#64).slt xof.ty)
 (some (AV.agg [(AV.bool (false)), (AV.int (IntKind.i64) (0#64)), (AV.int (IntKind.i64) (262143#64)), (AV.int (IntKind.i64) (0#64)), (AV.int (IntKind.i64) (52#64)), (AV.int (IntKind.i64) (0#64)), (AV.int (IntKind.i64) (0#64)), (AV.bool (true)), (AV.int (IntKind.u64) (18446744073709551615#64))]))
 (some (AV.agg [(AV.bool ((v_r05_Move c (BitVec.signExtend 64 xof.ty)).tag)), (AV.int (IntKind.i64) ((v_r05_Move c (BitVec.signExtend 64 xof.ty)).per)), (AV.int (IntKind.i64) ((v_r05_Move c (BitVec.signExtend 64 xof.ty)).ty)), (AV.int (IntKind.i64) ((v_r05_Move c (BitVec.signExtend 64 xof.ty)).mo)), (AV.int (IntKind.i64) ((v_r05_Move c (BitVec.signExtend 64 xof.ty)).e)), (AV.int (IntKind.i64) ((v_r05_Move c (BitVec.signExtend 64 xof.ty)).b)), (AV.int (IntKind.i64) ((v_r05_Move c (BitVec.signExtend 64 xof.ty)).t)), (AV.bool ((v_r05_Move c (BitVec.signExtend 64 xof.ty)).big)), (AV.int (IntKind.u64) ((v_r05_Move c (BitVec.signExtend 64 xof.ty)).ad))]))) by kernel_rfl).trans ((mer _ (Cp.av) rfl rfl))
noncomputable def C_39 : Oracle := pureE 39 (pure2 dCp dCp (fun c xof => (v_r05_Typed c xof).av)) (C_25)
theorem C_39_snd : Snd Try.prog C_39 := pureE_snd (pure2_ok (F := F39) (C_25_snd) Try.func39 (by kernel_rfl) run_39 (fun _ _ => rfl)) (C_25_snd)

/- ravelin/capops.Subset -/
def F20 : Cfg := { F := 400, roots := [0, 1, 2], fl := ⟨true, false⟩ }
theorem run_20 : ∀ (a : Cp) (xb : Cp), pureRun Try.prog C_39 F20 Try.f20 [a.av, xb.av] = cond (g_capops_Subset a xb) (some (.bool (v_capops_Subset a xb))) none := fun a xb =>
 (show pureRun Try.prog C_39 F20 Try.f20 [a.av, xb.av] = (cond (a.tag == xb.tag)
 (cond (xb.per &&& ~~~a.per == 0#64)
  (cond (g_bounds_Of xb)
   (cond (g_bounds_Of a)
    (some (AV.bool (v_bounds_Within (v_bounds_Of xb) (v_bounds_Of a))))
    none)
   none)
  (some (AV.bool (false))))
 (some (AV.bool (false)))) by kernel_rfl).trans ((merG _ (fun p => .bool p) (merG _ (fun p => .bool p) (merR _ (fun p => .bool p) (merR _ (fun p => .bool p) rfl)) rfl) rfl))
noncomputable def C_20 : Oracle := pureGE 20 (pure2 dCp dCp (fun a xb => .tup [.bool (g_capops_Subset a xb), .bool (v_capops_Subset a xb)])) (C_39)
theorem C_20_snd : Snd Try.prog C_20 := pureGE_snd (pure2_gok (F := F20) (C_39_snd) Try.func20 (by kernel_rfl) run_20 (fun _ _ => rfl)) (C_39_snd)

/- ravelin/ravelinref05.Subset -/
def F40 : Cfg := { F := 400, roots := [0, 1, 2], fl := ⟨true, false⟩ }
theorem run_40 : ∀ (a : Cp) (xb : Cp), pureRun Try.prog C_20 F40 Try.f40 [a.av, xb.av] = some (.bool (v_r05_Subset a xb)) := fun a xb =>
 (show pureRun Try.prog C_20 F40 Try.f40 [a.av, xb.av] = (cond (a.tag == xb.tag)
 (cond (v_r03_Within (v_r03_Of xb) (v_r03_Of a))
  (some (AV.bool (xb.per &&& ~~~a.per == 0#64)))
  (some (AV.bool (false))))
 (some (AV.bool (false)))) by kernel_rfl).trans ((mer _ (fun p => .bool p) (mer _ (fun p => .bool p) rfl rfl) rfl))
noncomputable def C_40 : Oracle := pureE 40 (pure2 dCp dCp (fun a xb => .bool (v_r05_Subset a xb))) (C_20)
theorem C_40_snd : Snd Try.prog C_40 := pureE_snd (pure2_ok (F := F40) (C_20_snd) Try.func40 (by kernel_rfl) run_40 (fun _ _ => rfl)) (C_20_snd)

/- ravelin/capops.To -/
def F41 : Cfg := { F := 400, roots := [0, 1, 2], fl := ⟨true, false⟩ }
theorem run_41 : ∀ (c : Cp) (xof : Cp), pureRun Try.prog C_40 F41 Try.f41 [c.av, xof.av] = cond (g_capops_To c xof) (some (.int .u64 (v_capops_To c xof))) none := fun c xof =>
 (show pureRun Try.prog C_40 F41 Try.f41 [c.av, xof.av] = (cond (!c.tag)
 (some (AV.int (IntKind.u64) (0#64)))
 (cond (g_bounds_Of xof)
  (some (AV.int (IntKind.u64) (c.ad - (v_bounds_Of xof).base)))
  none)) by kernel_rfl).trans ((merG _ (fun p => .int .u64 p) rfl (merR _ (fun p => .int .u64 p) rfl)))
noncomputable def C_41 : Oracle := pureGE 41 (pure2 dCp dCp (fun c xof => .tup [.bool (g_capops_To c xof), .int .u64 (v_capops_To c xof)])) (C_40)
theorem C_41_snd : Snd Try.prog C_41 := pureGE_snd (pure2_gok (F := F41) (C_40_snd) Try.func41 (by kernel_rfl) run_41 (fun _ _ => rfl)) (C_40_snd)

/- ravelin/ravelinref05.To -/
def F42 : Cfg := { F := 400, roots := [0, 1, 2], fl := ⟨true, false⟩ }
theorem run_42 : ∀ (c : Cp) (xof : Cp), pureRun Try.prog C_41 F42 Try.f42 [c.av, xof.av] = some (.int .u64 (v_r05_To c xof)) := fun c xof =>
 (show pureRun Try.prog C_41 F42 Try.f42 [c.av, xof.av] = (cond (!c.tag)
 (some (AV.int (IntKind.u64) (0#64)))
 (some (AV.int (IntKind.u64) (c.ad - (v_r03_Of xof).base)))) by kernel_rfl).trans ((mer _ (fun p => .int .u64 p) rfl rfl))
noncomputable def C_42 : Oracle := pureE 42 (pure2 dCp dCp (fun c xof => .int .u64 (v_r05_To c xof))) (C_41)
theorem C_42_snd : Snd Try.prog C_42 := pureE_snd (pure2_ok (F := F42) (C_41_snd) Try.func42 (by kernel_rfl) run_42 (fun _ _ => rfl)) (C_41_snd)

/- math/bits.Len64 -/
def F95 : Cfg := { F := 400, roots := [0, 1], fl := ⟨true, false⟩ }
noncomputable def C_95 : Oracle := pureE 95 (pure1 dU64 (fun a => .int .i64 (v_bits_Len64 a))) (C_42)
theorem run_95 : ∀ a : BitVec 64, pureRun Try.prog C_42 F95 Try.f95 [.int .u64 a] = some (.int .i64 (v_bits_Len64 a)) := fun a => (show pureRun Try.prog C_42 F95 Try.f95 [.int .u64 a] = ltree a by kernel_rfl).trans (ltree_eq a)
theorem C_95_snd : Snd Try.prog C_95 := pureE_snd (pure1_ok (F := F95) (C_42_snd) Try.func95 (by kernel_rfl) run_95 (fun _ => rfl)) (C_42_snd)

/- (ravelin/bounds.number).down -/
def F99 : Cfg := { F := 400, roots := [0, 1, 2, 3], fl := ⟨true, false⟩ }
theorem run_99 : ∀ (a : W2) (n : BitVec 64), pureRun Try.prog C_95 F99 Try.f99 [a.av, .int .i64 n] = cond (g_bounds_number_down a n) (some ((fun (p : W2 × Bool) => .tup [((p.1)).av, .bool (p.2)]) (v_bounds_number_down a n))) none := fun a n =>
 (show pureRun Try.prog C_95 F99 Try.f99 [a.av, .int .i64 n] = (cond (n == 0#64)
 (some (AV.tup [(AV.agg [(AV.int (IntKind.u64) (a.hi)), (AV.int (IntKind.u64) (a.lo))]), (AV.bool (false))]))
 (cond (nonneg IntKind.i64 n)
  (cond (nonneg IntKind.i64 (64#64 - n))
   (cond (nonneg IntKind.i64 (64#64 - n))
    (some (AV.tup [(AV.agg [(AV.int (IntKind.u64) (0#64)), (AV.int (IntKind.u64) (a.lo >>> min n.toNat 64 ||| a.hi <<< min (64#64 - n).toNat 64))]), (AV.bool (!a.lo <<< min (64#64 - n).toNat 64 == 0#64))]))
    none)
   none)
  none)) by kernel_rfl).trans ((merG _ (fun (p : W2 × Bool) => .tup [((p.1)).av, .bool (p.2)]) rfl (merR _ (fun (p : W2 × Bool) => .tup [((p.1)).av, .bool (p.2)]) (merR _ (fun (p : W2 × Bool) => .tup [((p.1)).av, .bool (p.2)]) (merR _ (fun (p : W2 × Bool) => .tup [((p.1)).av, .bool (p.2)]) rfl)))))
noncomputable def C_99 : Oracle := pureGE 99 (pure2 dW2 dI64 (fun a n => .tup [.bool (g_bounds_number_down a n), (fun (p : W2 × Bool) => .tup [((p.1)).av, .bool (p.2)]) (v_bounds_number_down a n)])) (C_95)
theorem C_99_snd : Snd Try.prog C_99 := pureGE_snd (pure2_gok (F := F99) (C_95_snd) Try.func99 (by kernel_rfl) run_99 (fun _ _ => rfl)) (C_95_snd)

/- ravelin/bounds.mantissas -/
def F96 : Cfg := { F := 400, roots := [0, 1, 2, 3, 4, 5, 6, 7, 8], fl := ⟨true, false⟩ }
theorem run_96 : ∀ (xfrom : W2) (xto : W2) (xe : BitVec 64), pureRun Try.prog C_99 F96 Try.f96 [xfrom.av, xto.av, .int .i64 xe] = cond (g_bounds_mantissas xfrom xto xe) (some ((fun (p : BitVec 64 × BitVec 64 × Bool × Bool) => .tup [.int .i64 (p.1), .int .i64 (p.2.1), .bool (p.2.2.1), .bool (p.2.2.2)]) (v_bounds_mantissas xfrom xto xe))) none := fun xfrom xto xe =>
 (show pureRun Try.prog C_99 F96 Try.f96 [xfrom.av, xto.av, .int .i64 xe] = (cond (g_bounds_number_down xfrom (xe + 3#64))
 (cond (g_bounds_number_down xto (xe + 3#64))
  (some (AV.tup [(AV.int (IntKind.i64) (BitVec.setWidth 64 ((v_bounds_number_down xfrom (xe + 3#64)).fst.lo &&& 2047#64))), (AV.int (IntKind.i64) (BitVec.setWidth 64 ((v_bounds_number_down xto (xe + 3#64)).fst.lo &&& 2047#64) + v_bounds_truth (v_bounds_number_down xto (xe + 3#64)).snd &&& 2047#64)), (AV.bool ((v_bounds_number_down xfrom (xe + 3#64)).snd)), (AV.bool ((v_bounds_number_down xto (xe + 3#64)).snd))]))
  none)
 none) by kernel_rfl).trans ((merR _ (fun (p : BitVec 64 × BitVec 64 × Bool × Bool) => .tup [.int .i64 (p.1), .int .i64 (p.2.1), .bool (p.2.2.1), .bool (p.2.2.2)]) (merR _ (fun (p : BitVec 64 × BitVec 64 × Bool × Bool) => .tup [.int .i64 (p.1), .int .i64 (p.2.1), .bool (p.2.2.1), .bool (p.2.2.2)]) rfl)))
noncomputable def C_96 : Oracle := pureGE 96 (pure3 dW2 dW2 dI64 (fun xfrom xto xe => .tup [.bool (g_bounds_mantissas xfrom xto xe), (fun (p : BitVec 64 × BitVec 64 × Bool × Bool) => .tup [.int .i64 (p.1), .int .i64 (p.2.1), .bool (p.2.2.1), .bool (p.2.2.2)]) (v_bounds_mantissas xfrom xto xe)])) (C_99)
theorem C_96_snd : Snd Try.prog C_96 := pureGE_snd (pure3_gok (F := F96) (C_99_snd) Try.func96 (by kernel_rfl) run_96 (fun _ _ _ => rfl)) (C_99_snd)

/- ravelin/bounds.Lay -/
def F66 : Cfg := { F := 400, roots := [0, 1, 2, 3, 4, 5, 6, 7, 8, 9, 10], fl := ⟨true, false⟩ }
theorem run_66 : ∀ (c : Cp) (n : BitVec 64), pureRun Try.prog C_96 F66 Try.f66 [c.av, .int .u64 n] = cond (g_bounds_Lay c n) (some ((fun (p : Cp × Bool) => .tup [((p.1)).av, .bool (p.2)]) (v_bounds_Lay c n))) none := fun c n =>
 (show pureRun Try.prog C_96 F66 Try.f66 [c.av, .int .u64 n] = (cond ((0#64).slt (bif (0#64).slt (v_bits_Len64 n - 13#64) then v_bits_Len64 n - 13#64 else 0#64))
 (cond (g_bounds_mantissas { hi := 0#64, lo := c.ad } (v_bounds_number_plus { hi := 0#64, lo := c.ad } { hi := 0#64, lo := n }) (bif (0#64).slt (v_bits_Len64 n - 13#64) then v_bits_Len64 n - 13#64 else 0#64))
  (cond (!(v_bounds_mantissas { hi := 0#64, lo := c.ad } (v_bounds_number_plus { hi := 0#64, lo := c.ad } { hi := 0#64, lo := n }) (bif (0#64).slt (v_bits_Len64 n - 13#64) then v_bits_Len64 n - 13#64 else 0#64)).snd.fst - (v_bounds_mantissas { hi := 0#64, lo := c.ad } (v_bounds_number_plus { hi := 0#64, lo := c.ad } { hi := 0#64, lo := n }) (bif (0#64).slt (v_bits_Len64 n - 13#64) then v_bits_Len64 n - 13#64 else 0#64)).fst &&& 1024#64 == 0#64)
   (cond (g_bounds_mantissas { hi := 0#64, lo := c.ad } (v_bounds_number_plus { hi := 0#64, lo := c.ad } { hi := 0#64, lo := n }) ((bif (0#64).slt (v_bits_Len64 n - 13#64) then v_bits_Len64 n - 13#64 else 0#64) + 1#64))
    (cond (!(v_bounds_mantissas { hi := 0#64, lo := c.ad } (v_bounds_number_plus { hi := 0#64, lo := c.ad } { hi := 0#64, lo := n }) ((bif (0#64).slt (v_bits_Len64 n - 13#64) then v_bits_Len64 n - 13#64 else 0#64) + 1#64)).snd.snd.fst)
     (some (AV.tup [(AV.agg [(AV.bool (c.tag)), (AV.int (IntKind.i64) (c.per)), (AV.int (IntKind.i64) (c.ty)), (AV.int (IntKind.i64) (c.mo)), (AV.int (IntKind.i64) ((bif (0#64).slt (v_bits_Len64 n - 13#64) then v_bits_Len64 n - 13#64 else 0#64) + 1#64)), (AV.int (IntKind.i64) ((v_bounds_mantissas { hi := 0#64, lo := c.ad } (v_bounds_number_plus { hi := 0#64, lo := c.ad } { hi := 0#64, lo := n }) ((bif (0#64).slt (v_bits_Len64 n - 13#64) then v_bits_Len64 n - 13#64 else 0#64) + 1#64)).fst <<< 3)), (AV.int (IntKind.i64) ((v_bounds_mantissas { hi := 0#64, lo := c.ad } (v_bounds_number_plus { hi := 0#64, lo := c.ad } { hi := 0#64, lo := n }) ((bif (0#64).slt (v_bits_Len64 n - 13#64) then v_bits_Len64 n - 13#64 else 0#64) + 1#64)).snd.fst <<< 3 &&& 4095#64)), (AV.bool (true)), (AV.int (IntKind.u64) (c.ad))]), (AV.bool (!(v_bounds_mantissas { hi := 0#64, lo := c.ad } (v_bounds_number_plus { hi := 0#64, lo := c.ad } { hi := 0#64, lo := n }) ((bif (0#64).slt (v_bits_Len64 n - 13#64) then v_bits_Len64 n - 13#64 else 0#64) + 1#64)).snd.snd.snd))]))
     (some (AV.tup [(AV.agg [(AV.bool (c.tag)), (AV.int (IntKind.i64) (c.per)), (AV.int (IntKind.i64) (c.ty)), (AV.int (IntKind.i64) (c.mo)), (AV.int (IntKind.i64) ((bif (0#64).slt (v_bits_Len64 n - 13#64) then v_bits_Len64 n - 13#64 else 0#64) + 1#64)), (AV.int (IntKind.i64) ((v_bounds_mantissas { hi := 0#64, lo := c.ad } (v_bounds_number_plus { hi := 0#64, lo := c.ad } { hi := 0#64, lo := n }) ((bif (0#64).slt (v_bits_Len64 n - 13#64) then v_bits_Len64 n - 13#64 else 0#64) + 1#64)).fst <<< 3)), (AV.int (IntKind.i64) ((v_bounds_mantissas { hi := 0#64, lo := c.ad } (v_bounds_number_plus { hi := 0#64, lo := c.ad } { hi := 0#64, lo := n }) ((bif (0#64).slt (v_bits_Len64 n - 13#64) then v_bits_Len64 n - 13#64 else 0#64) + 1#64)).snd.fst <<< 3 &&& 4095#64)), (AV.bool (true)), (AV.int (IntKind.u64) (c.ad))]), (AV.bool (false))])))
    none)
   (cond (!(v_bounds_mantissas { hi := 0#64, lo := c.ad } (v_bounds_number_plus { hi := 0#64, lo := c.ad } { hi := 0#64, lo := n }) (bif (0#64).slt (v_bits_Len64 n - 13#64) then v_bits_Len64 n - 13#64 else 0#64)).snd.snd.fst)
    (some (AV.tup [(AV.agg [(AV.bool (c.tag)), (AV.int (IntKind.i64) (c.per)), (AV.int (IntKind.i64) (c.ty)), (AV.int (IntKind.i64) (c.mo)), (AV.int (IntKind.i64) (bif (0#64).slt (v_bits_Len64 n - 13#64) then v_bits_Len64 n - 13#64 else 0#64)), (AV.int (IntKind.i64) ((v_bounds_mantissas { hi := 0#64, lo := c.ad } (v_bounds_number_plus { hi := 0#64, lo := c.ad } { hi := 0#64, lo := n }) (bif (0#64).slt (v_bits_Len64 n - 13#64) then v_bits_Len64 n - 13#64 else 0#64)).fst <<< 3)), (AV.int (IntKind.i64) ((v_bounds_mantissas { hi := 0#64, lo := c.ad } (v_bounds_number_plus { hi := 0#64, lo := c.ad } { hi := 0#64, lo := n }) (bif (0#64).slt (v_bits_Len64 n - 13#64) then v_bits_Len64 n - 13#64 else 0#64)).snd.fst <<< 3 &&& 4095#64)), (AV.bool (true)), (AV.int (IntKind.u64) (c.ad))]), (AV.bool (!(v_bounds_mantissas { hi := 0#64, lo := c.ad } (v_bounds_number_plus { hi := 0#64, lo := c.ad } { hi := 0#64, lo := n }) (bif (0#64).slt (v_bits_Len64 n - 13#64) then v_bits_Len64 n - 13#64 else 0#64)).snd.snd.snd))]))
    (some (AV.tup [(AV.agg [(AV.bool (c.tag)), (AV.int (IntKind.i64) (c.per)), (AV.int (IntKind.i64) (c.ty)), (AV.int (IntKind.i64) (c.mo)), (AV.int (IntKind.i64) (bif (0#64).slt (v_bits_Len64 n - 13#64) then v_bits_Len64 n - 13#64 else 0#64)), (AV.int (IntKind.i64) ((v_bounds_mantissas { hi := 0#64, lo := c.ad } (v_bounds_number_plus { hi := 0#64, lo := c.ad } { hi := 0#64, lo := n }) (bif (0#64).slt (v_bits_Len64 n - 13#64) then v_bits_Len64 n - 13#64 else 0#64)).fst <<< 3)), (AV.int (IntKind.i64) ((v_bounds_mantissas { hi := 0#64, lo := c.ad } (v_bounds_number_plus { hi := 0#64, lo := c.ad } { hi := 0#64, lo := n }) (bif (0#64).slt (v_bits_Len64 n - 13#64) then v_bits_Len64 n - 13#64 else 0#64)).snd.fst <<< 3 &&& 4095#64)), (AV.bool (true)), (AV.int (IntKind.u64) (c.ad))]), (AV.bool (false))]))))
  none)
 (cond (!n >>> 12 &&& 1#64 == 1#64)
  (some (AV.tup [(AV.agg [(AV.bool (c.tag)), (AV.int (IntKind.i64) (c.per)), (AV.int (IntKind.i64) (c.ty)), (AV.int (IntKind.i64) (c.mo)), (AV.int (IntKind.i64) (0#64)), (AV.int (IntKind.i64) (BitVec.setWidth 64 (c.ad &&& 16383#64))), (AV.int (IntKind.i64) (BitVec.setWidth 64 ((v_bounds_number_plus { hi := 0#64, lo := c.ad } { hi := 0#64, lo := n }).lo &&& 4095#64))), (AV.bool (n >>> 12 &&& 1#64 == 1#64)), (AV.int (IntKind.u64) (c.ad))]), (AV.bool (true))]))
  (cond (g_bounds_mantissas { hi := 0#64, lo := c.ad } (v_bounds_number_plus { hi := 0#64, lo := c.ad } { hi := 0#64, lo := n }) (bif (0#64).slt (v_bits_Len64 n - 13#64) then v_bits_Len64 n - 13#64 else 0#64))
   (cond (!(v_bounds_mantissas { hi := 0#64, lo := c.ad } (v_bounds_number_plus { hi := 0#64, lo := c.ad } { hi := 0#64, lo := n }) (bif (0#64).slt (v_bits_Len64 n - 13#64) then v_bits_Len64 n - 13#64 else 0#64)).snd.fst - (v_bounds_mantissas { hi := 0#64, lo := c.ad } (v_bounds_number_plus { hi := 0#64, lo := c.ad } { hi := 0#64, lo := n }) (bif (0#64).slt (v_bits_Len64 n - 13#64) then v_bits_Len64 n - 13#64 else 0#64)).fst &&& 1024#64 == 0#64)
    (cond (g_bounds_mantissas { hi := 0#64, lo := c.ad } (v_bounds_number_plus { hi := 0#64, lo := c.ad } { hi := 0#64, lo := n }) ((bif (0#64).slt (v_bits_Len64 n - 13#64) then v_bits_Len64 n - 13#64 else 0#64) + 1#64))
     (cond (!(v_bounds_mantissas { hi := 0#64, lo := c.ad } (v_bounds_number_plus { hi := 0#64, lo := c.ad } { hi := 0#64, lo := n }) ((bif (0#64).slt (v_bits_Len64 n - 13#64) then v_bits_Len64 n - 13#64 else 0#64) + 1#64)).snd.snd.fst)
      (some (AV.tup [(AV.agg [(AV.bool (c.tag)), (AV.int (IntKind.i64) (c.per)), (AV.int (IntKind.i64) (c.ty)), (AV.int (IntKind.i64) (c.mo)), (AV.int (IntKind.i64) ((bif (0#64).slt (v_bits_Len64 n - 13#64) then v_bits_Len64 n - 13#64 else 0#64) + 1#64)), (AV.int (IntKind.i64) ((v_bounds_mantissas { hi := 0#64, lo := c.ad } (v_bounds_number_plus { hi := 0#64, lo := c.ad } { hi := 0#64, lo := n }) ((bif (0#64).slt (v_bits_Len64 n - 13#64) then v_bits_Len64 n - 13#64 else 0#64) + 1#64)).fst <<< 3)), (AV.int (IntKind.i64) ((v_bounds_mantissas { hi := 0#64, lo := c.ad } (v_bounds_number_plus { hi := 0#64, lo := c.ad } { hi := 0#64, lo := n }) ((bif (0#64).slt (v_bits_Len64 n - 13#64) then v_bits_Len64 n - 13#64 else 0#64) + 1#64)).snd.fst <<< 3 &&& 4095#64)), (AV.bool (n >>> 12 &&& 1#64 == 1#64)), (AV.int (IntKind.u64) (c.ad))]), (AV.bool (!(v_bounds_mantissas { hi := 0#64, lo := c.ad } (v_bounds_number_plus { hi := 0#64, lo := c.ad } { hi := 0#64, lo := n }) ((bif (0#64).slt (v_bits_Len64 n - 13#64) then v_bits_Len64 n - 13#64 else 0#64) + 1#64)).snd.snd.snd))]))
      (some (AV.tup [(AV.agg [(AV.bool (c.tag)), (AV.int (IntKind.i64) (c.per)), (AV.int (IntKind.i64) (c.ty)), (AV.int (IntKind.i64) (c.mo)), (AV.int (IntKind.i64) ((bif (0#64).slt (v_bits_Len64 n - 13#64) then v_bits_Len64 n - 13#64 else 0#64) + 1#64)), (AV.int (IntKind.i64) ((v_bounds_mantissas { hi := 0#64, lo := c.ad } (v_bounds_number_plus { hi := 0#64, lo := c.ad } { hi := 0#64, lo := n }) ((bif (0#64).slt (v_bits_Len64 n - 13#64) then v_bits_Len64 n - 13#64 else 0#64) + 1#64)).fst <<< 3)), (AV.int (IntKind.i64) ((v_bounds_mantissas { hi := 0#64, lo := c.ad } (v_bounds_number_plus { hi := 0#64, lo := c.ad } { hi := 0#64, lo := n }) ((bif (0#64).slt (v_bits_Len64 n - 13#64) then v_bits_Len64 n - 13#64 else 0#64) + 1#64)).snd.fst <<< 3 &&& 4095#64)), (AV.bool (n >>> 12 &&& 1#64 == 1#64)), (AV.int (IntKind.u64) (c.ad))]), (AV.bool (false))])))
     none)
    (cond (!(v_bounds_mantissas { hi := 0#64, lo := c.ad } (v_bounds_number_plus { hi := 0#64, lo := c.ad } { hi := 0#64, lo := n }) (bif (0#64).slt (v_bits_Len64 n - 13#64) then v_bits_Len64 n - 13#64 else 0#64)).snd.snd.fst)
     (some (AV.tup [(AV.agg [(AV.bool (c.tag)), (AV.int (IntKind.i64) (c.per)), (AV.int (IntKind.i64) (c.ty)), (AV.int (IntKind.i64) (c.mo)), (AV.int (IntKind.i64) (bif (0#64).slt (v_bits_Len64 n - 13#64) then v_bits_Len64 n - 13#64 else 0#64)), (AV.int (IntKind.i64) ((v_bounds_mantissas { hi := 0#64, lo := c.ad } (v_bounds_number_plus { hi := 0#64, lo := c.ad } { hi := 0#64, lo := n }) (bif (0#64).slt (v_bits_Len64 n - 13#64) then v_bits_Len64 n - 13#64 else 0#64)).fst <<< 3)), (AV.int (IntKind.i64) ((v_bounds_mantissas { hi := 0#64, lo := c.ad } (v_bounds_number_plus { hi := 0#64, lo := c.ad } { hi := 0#64, lo := n }) (bif (0#64).slt (v_bits_Len64 n - 13#64) then v_bits_Len64 n - 13#64 else 0#64)).snd.fst <<< 3 &&& 4095#64)), (AV.bool (n >>> 12 &&& 1#64 == 1#64)), (AV.int (IntKind.u64) (c.ad))]), (AV.bool (!(v_bounds_mantissas { hi := 0#64, lo := c.ad } (v_bounds_number_plus { hi := 0#64, lo := c.ad } { hi := 0#64, lo := n }) (bif (0#64).slt (v_bits_Len64 n - 13#64) then v_bits_Len64 n - 13#64 else 0#64)).snd.snd.snd))]))
     (some (AV.tup [(AV.agg [(AV.bool (c.tag)), (AV.int (IntKind.i64) (c.per)), (AV.int (IntKind.i64) (c.ty)), (AV.int (IntKind.i64) (c.mo)), (AV.int (IntKind.i64) (bif (0#64).slt (v_bits_Len64 n - 13#64) then v_bits_Len64 n - 13#64 else 0#64)), (AV.int (IntKind.i64) ((v_bounds_mantissas { hi := 0#64, lo := c.ad } (v_bounds_number_plus { hi := 0#64, lo := c.ad } { hi := 0#64, lo := n }) (bif (0#64).slt (v_bits_Len64 n - 13#64) then v_bits_Len64 n - 13#64 else 0#64)).fst <<< 3)), (AV.int (IntKind.i64) ((v_bounds_mantissas { hi := 0#64, lo := c.ad } (v_bounds_number_plus { hi := 0#64, lo := c.ad } { hi := 0#64, lo := n }) (bif (0#64).slt (v_bits_Len64 n - 13#64) then v_bits_Len64 n - 13#64 else 0#64)).snd.fst <<< 3 &&& 4095#64)), (AV.bool (n >>> 12 &&& 1#64 == 1#64)), (AV.int (IntKind.u64) (c.ad))]), (AV.bool (false))]))))
   none))) by kernel_rfl).trans ((merG _ (fun (p : Cp × Bool) => .tup [((p.1)).av, .bool (p.2)]) (merR _ (fun (p : Cp × Bool) => .tup [((p.1)).av, .bool (p.2)]) (merG _ (fun (p : Cp × Bool) => .tup [((p.1)).av, .bool (p.2)]) (merR _ (fun (p : Cp × Bool) => .tup [((p.1)).av, .bool (p.2)]) (merG _ (fun (p : Cp × Bool) => .tup [((p.1)).av, .bool (p.2)]) rfl rfl)) (merG _ (fun (p : Cp × Bool) => .tup [((p.1)).av, .bool (p.2)]) rfl rfl))) (merG _ (fun (p : Cp × Bool) => .tup [((p.1)).av, .bool (p.2)]) rfl (merR _ (fun (p : Cp × Bool) => .tup [((p.1)).av, .bool (p.2)]) (merG _ (fun (p : Cp × Bool) => .tup [((p.1)).av, .bool (p.2)]) (merR _ (fun (p : Cp × Bool) => .tup [((p.1)).av, .bool (p.2)]) (merG _ (fun (p : Cp × Bool) => .tup [((p.1)).av, .bool (p.2)]) rfl rfl)) (merG _ (fun (p : Cp × Bool) => .tup [((p.1)).av, .bool (p.2)]) rfl rfl))))))
noncomputable def C_66 : Oracle := pureGE 66 (pure2 dCp dU64 (fun c n => .tup [.bool (g_bounds_Lay c n), (fun (p : Cp × Bool) => .tup [((p.1)).av, .bool (p.2)]) (v_bounds_Lay c n)])) (C_96)
theorem C_66_snd : Snd Try.prog C_66 := pureGE_snd (pure2_gok (F := F66) (C_96_snd) Try.func66 (by kernel_rfl) run_66 (fun _ _ => rfl)) (C_96_snd)

/- ravelin/capops.Bound -/
def F23 : Cfg := { F := 400, roots := [0, 1, 2, 3, 4, 5, 6, 7, 8], fl := ⟨true, false⟩ }
theorem run_23 : ∀ (c : Cp) (n : BitVec 64) (exact : Bool), pureRun Try.prog C_66 F23 Try.f23 [c.av, .int .u64 n, .bool exact] = cond (g_capops_Bound c n exact) (some ((v_capops_Bound c n exact).av)) none := fun c n exact =>
 (show pureRun Try.prog C_66 F23 Try.f23 [c.av, .int .u64 n, .bool exact] = (cond (g_bounds_Lay c n)
 (cond (g_bounds_Of (v_bounds_Lay c n).fst)
  (cond (!v_capops_Sealed c)
   (cond ((v_bounds_Of (v_bounds_Lay c n).fst).base == c.ad && ((v_bounds_Of (v_bounds_Lay c n).fst).top == c.ad + n && ((v_bounds_Of (v_bounds_Lay c n).fst).over == (c.ad + n).ult c.ad && true)))
    (cond (v_bounds_Within { base := c.ad, top := c.ad + n, over := (c.ad + n).ult c.ad } (v_bounds_Of (v_bounds_Lay c n).fst))
     (cond (g_bounds_Of c)
      (some (AV.agg [(AV.bool ((v_capops_keep (v_bounds_Lay c n).fst (v_bounds_Within (v_bounds_Of (v_bounds_Lay c n).fst) (v_bounds_Of c))).tag)), (AV.int (IntKind.i64) ((v_capops_keep (v_bounds_Lay c n).fst (v_bounds_Within (v_bounds_Of (v_bounds_Lay c n).fst) (v_bounds_Of c))).per)), (AV.int (IntKind.i64) ((v_capops_keep (v_bounds_Lay c n).fst (v_bounds_Within (v_bounds_Of (v_bounds_Lay c n).fst) (v_bounds_Of c))).ty)), (AV.int (IntKind.i64) ((v_capops_keep (v_bounds_Lay c n).fst (v_bounds_Within (v_bounds_Of (v_bounds_Lay c n).fst) (v_bounds_Of c))).mo)), (AV.int (IntKind.i64) ((v_capops_keep (v_bounds_Lay c n).fst (v_bounds_Within (v_bounds_Of (v_bounds_Lay c n).fst) (v_bounds_Of c))).e)), (AV.int (IntKind.i64) ((v_capops_keep (v_bounds_Lay c n).fst (v_bounds_Within (v_bounds_Of (v_bounds_Lay c n).fst) (v_bounds_Of c))).b)), (AV.int (IntKind.i64) ((v_capops_keep (v_bounds_Lay c n).fst (v_bounds_Within (v_bounds_Of (v_bounds_Lay c n).fst) (v_bounds_Of c))).t)), (AV.bool ((v_capops_keep (v_bounds_Lay c n).fst (v_bounds_Within (v_bounds_Of (v_bounds_Lay c n).fst) (v_bounds_Of c))).big)), (AV.int (IntKind.u64) ((v_capops_keep (v_bounds_Lay c n).fst (v_bounds_Within (v_bounds_Of (v_bounds_Lay c n).fst) (v_bounds_Of c))).ad))]))
      none)
     (some (AV.agg [(AV.bool ((v_capops_keep (v_bounds_Lay c n).fst false).tag)), (AV.int (IntKind.i64) ((v_capops_keep (v_bounds_Lay c n).fst false).per)), (AV.int (IntKind.i64) ((v_capops_keep (v_bounds_Lay c n).fst false).ty)), (AV.int (IntKind.i64) ((v_capops_keep (v_bounds_Lay c n).fst false).mo)), (AV.int (IntKind.i64) ((v_capops_keep (v_bounds_Lay c n).fst false).e)), (AV.int (IntKind.i64) ((v_capops_keep (v_bounds_Lay c n).fst false).b)), (AV.int (IntKind.i64) ((v_capops_keep (v_bounds_Lay c n).fst false).t)), (AV.bool ((v_capops_keep (v_bounds_Lay c n).fst false).big)), (AV.int (IntKind.u64) ((v_capops_keep (v_bounds_Lay c n).fst false).ad))])))
    (cond (!exact)
     (cond (v_bounds_Within { base := c.ad, top := c.ad + n, over := (c.ad + n).ult c.ad } (v_bounds_Of (v_bounds_Lay c n).fst))
      (cond (g_bounds_Of c)
       (some (AV.agg [(AV.bool ((v_capops_keep (v_bounds_Lay c n).fst (v_bounds_Within (v_bounds_Of (v_bounds_Lay c n).fst) (v_bounds_Of c))).tag)), (AV.int (IntKind.i64) ((v_capops_keep (v_bounds_Lay c n).fst (v_bounds_Within (v_bounds_Of (v_bounds_Lay c n).fst) (v_bounds_Of c))).per)), (AV.int (IntKind.i64) ((v_capops_keep (v_bounds_Lay c n).fst (v_bounds_Within (v_bounds_Of (v_bounds_Lay c n).fst) (v_bounds_Of c))).ty)), (AV.int (IntKind.i64) ((v_capops_keep (v_bounds_Lay c n).fst (v_bounds_Within (v_bounds_Of (v_bounds_Lay c n).fst) (v_bounds_Of c))).mo)), (AV.int (IntKind.i64) ((v_capops_keep (v_bounds_Lay c n).fst (v_bounds_Within (v_bounds_Of (v_bounds_Lay c n).fst) (v_bounds_Of c))).e)), (AV.int (IntKind.i64) ((v_capops_keep (v_bounds_Lay c n).fst (v_bounds_Within (v_bounds_Of (v_bounds_Lay c n).fst) (v_bounds_Of c))).b)), (AV.int (IntKind.i64) ((v_capops_keep (v_bounds_Lay c n).fst (v_bounds_Within (v_bounds_Of (v_bounds_Lay c n).fst) (v_bounds_Of c))).t)), (AV.bool ((v_capops_keep (v_bounds_Lay c n).fst (v_bounds_Within (v_bounds_Of (v_bounds_Lay c n).fst) (v_bounds_Of c))).big)), (AV.int (IntKind.u64) ((v_capops_keep (v_bounds_Lay c n).fst (v_bounds_Within (v_bounds_Of (v_bounds_Lay c n).fst) (v_bounds_Of c))).ad))]))
       none)
      (some (AV.agg [(AV.bool ((v_capops_keep (v_bounds_Lay c n).fst false).tag)), (AV.int (IntKind.i64) ((v_capops_keep (v_bounds_Lay c n).fst false).per)), (AV.int (IntKind.i64) ((v_capops_keep (v_bounds_Lay c n).fst false).ty)), (AV.int (IntKind.i64) ((v_capops_keep (v_bounds_Lay c n).fst false).mo)), (AV.int (IntKind.i64) ((v_capops_keep (v_bounds_Lay c n).fst false).e)), (AV.int (IntKind.i64) ((v_capops_keep (v_bounds_Lay c n).fst false).b)), (AV.int (IntKind.i64) ((v_capops_keep (v_bounds_Lay c n).fst false).t)), (AV.bool ((v_capops_keep (v_bounds_Lay c n).fst false).big)), (AV.int (IntKind.u64) ((v_capops_keep (v_bounds_Lay c n).fst false).ad))])))
     (some (AV.agg [(AV.bool ((v_capops_keep (v_bounds_Lay c n).fst false).tag)), (AV.int (IntKind.i64) ((v_capops_keep (v_bounds_Lay c n).fst false).per)), (AV.int (IntKind.i64) ((v_capops_keep (v_bounds_Lay c n).fst false).ty)), (AV.int (IntKind.i64) ((v_capops_keep (v_bounds_Lay c n).fst false).mo)), (AV.int (IntKind.i64) ((v_capops_keep (v_bounds_Lay c n).fst false).e)), (AV.int (IntKind.i64) ((v_capops_keep (v_bounds_Lay c n).fst false).b)), (AV.int (IntKind.i64) ((v_capops_keep (v_bounds_Lay c n).fst false).t)), (AV.bool ((v_capops_keep (v_bounds_Lay c n).fst false).big)), (AV.int (IntKind.u64) ((v_capops_keep (v_bounds_Lay c n).fst false).ad))]))))
   (some (AV.agg [(AV.bool ((v_capops_keep (v_bounds_Lay c n).fst false).tag)), (AV.int (IntKind.i64) ((v_capops_keep (v_bounds_Lay c n).fst false).per)), (AV.int (IntKind.i64) ((v_capops_keep (v_bounds_Lay c n).fst false).ty)), (AV.int (IntKind.i64) ((v_capops_keep (v_bounds_Lay c n).fst false).mo)), (AV.int (IntKind.i64) ((v_capops_keep (v_bounds_Lay c n).fst false).e)), (AV.int (IntKind.i64) ((v_capops_keep (v_bounds_Lay c n).fst false).b)), (AV.int (IntKind.i64) ((v_capops_keep (v_bounds_Lay c n).fst false).t)), (AV.bool ((v_capops_keep (v_bounds_Lay c n).fst false).big)), (AV.int (IntKind.u64) ((v_capops_keep (v_bounds_Lay c n).fst false).ad))])))
  none)
 none) by kernel_rfl).trans ((merR _ (Cp.av) (merR _ (Cp.av) (merG _ (Cp.av) (merG _ (Cp.av) (merG _ (Cp.av) (merR _ (Cp.av) rfl) rfl) (merG _ (Cp.av) (merG _ (Cp.av) (merR _ (Cp.av) rfl) rfl) rfl)) rfl))))
noncomputable def C_23 : Oracle := pureGE 23 (pure3 dCp dU64 dBool (fun c n exact => .tup [.bool (g_capops_Bound c n exact), (v_capops_Bound c n exact).av])) (C_66)
theorem C_23_snd : Snd Try.prog C_23 := pureGE_snd (pure3_gok (F := F23) (C_66_snd) Try.func23 (by kernel_rfl) run_23 (fun _ _ _ => rfl)) (C_66_snd)

/- ravelin/capenc.Root -/
def F43 : Cfg := { F := 400, roots := [0, 1, 2, 3], fl := ⟨true, false⟩ }
theorem run_43 : ∀ (mode : BitVec 64) (xat : BitVec 64), pureRun Try.prog C_23 F43 Try.f43 [.int .i64 mode, .int .u64 xat] = some ((v_capenc_Root mode xat).av) := fun mode xat =>
 (show pureRun Try.prog C_23 F43 Try.f43 [.int .i64 mode, .int .u64 xat] = (cond (mode == 1#64)
 (some (AV.agg [(AV.bool (true)), (AV.int (IntKind.i64) (65535#64)), (AV.int (IntKind.i64) ((v_capenc_Number xat).ty)), (AV.int (IntKind.i64) (1#64)), (AV.int (IntKind.i64) ((v_capenc_Number xat).e)), (AV.int (IntKind.i64) ((v_capenc_Number xat).b)), (AV.int (IntKind.i64) ((v_capenc_Number xat).t)), (AV.bool ((v_capenc_Number xat).big)), (AV.int (IntKind.u64) ((v_capenc_Number xat).ad))]))
 (some (AV.agg [(AV.bool (true)), (AV.int (IntKind.i64) (65535#64)), (AV.int (IntKind.i64) ((v_capenc_Number xat).ty)), (AV.int (IntKind.i64) ((v_capenc_Number xat).mo)), (AV.int (IntKind.i64) ((v_capenc_Number xat).e)), (AV.int (IntKind.i64) ((v_capenc_Number xat).b)), (AV.int (IntKind.i64) ((v_capenc_Number xat).t)), (AV.bool ((v_capenc_Number xat).big)), (AV.int (IntKind.u64) ((v_capenc_Number xat).ad))]))) by kernel_rfl).trans ((mer _ (Cp.av) rfl rfl))
noncomputable def C_43 : Oracle := pureE 43 (pure2 dI64 dU64 (fun mode xat => (v_capenc_Root mode xat).av)) (C_23)
theorem C_43_snd : Snd Try.prog C_43 := pureE_snd (pure2_ok (F := F43) (C_23_snd) Try.func43 (by kernel_rfl) run_43 (fun _ _ => rfl)) (C_23_snd)

/- ravelin/capops.asked$1 -/
def F73 : Cfg := { F := 400, roots := [0, 1], fl := ⟨true, false⟩ }
theorem run_73 : ∀ (c : Cp), pureRun Try.prog C_43 F73 Try.f73 [c.av] = some (.int .u64 (v_capops_asked_1 c)) := fun c =>
 (show pureRun Try.prog C_43 F73 Try.f73 [c.av] = (some (AV.int (IntKind.u64) (BitVec.signExtend 64 c.per))) by kernel_rfl).trans (rfl)
noncomputable def C_73 : Oracle := pureE 73 (pure1 dCp (fun c => .int .u64 (v_capops_asked_1 c))) (C_43)
theorem C_73_snd : Snd Try.prog C_73 := pureE_snd (pure1_ok (F := F73) (C_43_snd) Try.func73 (by kernel_rfl) run_73 (fun _ => rfl)) (C_43_snd)

/- ravelin/capops.asked$2 -/
def F74 : Cfg := { F := 400, roots := [0, 1], fl := ⟨true, false⟩ }
theorem run_74 : ∀ (c : Cp), pureRun Try.prog C_73 F74 Try.f74 [c.av] = some (.int .u64 (v_capops_asked_2 c)) := fun c =>
 (show pureRun Try.prog C_73 F74 Try.f74 [c.av] = (cond ((262142#64).sle c.ty)
 (some (AV.int (IntKind.u64) (BitVec.signExtend 64 c.ty ||| 18446744073709289472#64)))
 (some (AV.int (IntKind.u64) (BitVec.signExtend 64 c.ty)))) by kernel_rfl).trans ((mer _ (fun p => .int .u64 p) rfl rfl))
noncomputable def C_74 : Oracle := pureE 74 (pure1 dCp (fun c => .int .u64 (v_capops_asked_2 c))) (C_73)
theorem C_74_snd : Snd Try.prog C_74 := pureE_snd (pure1_ok (F := F74) (C_73_snd) Try.func74 (by kernel_rfl) run_74 (fun _ => rfl)) (C_73_snd)

/- ravelin/capops.asked$3 -/
def F75 : Cfg := { F := 400, roots := [0, 1], fl := ⟨true, false⟩ }
theorem run_75 : ∀ (c : Cp), pureRun Try.prog C_74 F75 Try.f75 [c.av] = cond (g_capops_asked_3 c) (some (.int .u64 (v_capops_asked_3 c))) none := fun c =>
 (show pureRun Try.prog C_74 F75 Try.f75 [c.av] = (cond (g_bounds_Of c)
 (some (AV.int (IntKind.u64) ((v_bounds_Of c).base)))
 none) by kernel_rfl).trans ((merR _ (fun p => .int .u64 p) rfl))
noncomputable def C_75 : Oracle := pureGE 75 (pure1 dCp (fun c => .tup [.bool (g_capops_asked_3 c), .int .u64 (v_capops_asked_3 c)])) (C_74)
theorem C_75_snd : Snd Try.prog C_75 := pureGE_snd (pure1_gok (F := F75) (C_74_snd) Try.func75 (by kernel_rfl) run_75 (fun _ => rfl)) (C_74_snd)

/- ravelin/bounds.Len -/
def F46 : Cfg := { F := 400, roots := [0, 1], fl := ⟨true, false⟩ }
theorem run_46 : ∀ (r : Rg), pureRun Try.prog C_75 F46 Try.f46 [r.av] = some (.int .u64 (v_bounds_Len r)) := fun r =>
 (show pureRun Try.prog C_75 F46 Try.f46 [r.av] = (cond (!v_bounds_number_above (v_bounds_top r) { hi := 0#64, lo := r.base })
 (some (AV.int (IntKind.u64) (0#64)))
 (cond (r.over)
  (cond (r.base.ule r.top)
   (some (AV.int (IntKind.u64) (18446744073709551615#64)))
   (some (AV.int (IntKind.u64) (r.top - r.base))))
  (some (AV.int (IntKind.u64) (r.top - r.base))))) by kernel_rfl).trans ((mer _ (fun p => .int .u64 p) rfl (mer _ (fun p => .int .u64 p) (mer _ (fun p => .int .u64 p) rfl rfl) rfl)))
noncomputable def C_46 : Oracle := pureE 46 (pure1 dRg (fun r => .int .u64 (v_bounds_Len r))) (C_75)
theorem C_46_snd : Snd Try.prog C_46 := pureE_snd (pure1_ok (F := F46) (C_75_snd) Try.func46 (by kernel_rfl) run_46 (fun _ => rfl)) (C_75_snd)

/- ravelin/capops.asked$4 -/
def F76 : Cfg := { F := 400, roots := [0, 1], fl := ⟨true, false⟩ }
theorem run_76 : ∀ (c : Cp), pureRun Try.prog C_46 F76 Try.f76 [c.av] = cond (g_capops_asked_4 c) (some (.int .u64 (v_capops_asked_4 c))) none := fun c =>
 (show pureRun Try.prog C_46 F76 Try.f76 [c.av] = (cond (g_bounds_Of c)
 (some (AV.int (IntKind.u64) (v_bounds_Len (v_bounds_Of c))))
 none) by kernel_rfl).trans ((merR _ (fun p => .int .u64 p) rfl))
noncomputable def C_76 : Oracle := pureGE 76 (pure1 dCp (fun c => .tup [.bool (g_capops_asked_4 c), .int .u64 (v_capops_asked_4 c)])) (C_46)
theorem C_76_snd : Snd Try.prog C_76 := pureGE_snd (pure1_gok (F := F76) (C_46_snd) Try.func76 (by kernel_rfl) run_76 (fun _ => rfl)) (C_46_snd)

/- ravelin/capops.truth -/
def F78 : Cfg := { F := 400, roots := [0, 1], fl := ⟨true, false⟩ }
theorem run_78 : ∀ (xis : Bool), pureRun Try.prog C_76 F78 Try.f78 [.bool xis] = some (.int .u64 (v_capops_truth xis)) := fun xis =>
 (show pureRun Try.prog C_76 F78 Try.f78 [.bool xis] = (cond (xis)
 (some (AV.int (IntKind.u64) (1#64)))
 (some (AV.int (IntKind.u64) (0#64)))) by kernel_rfl).trans ((mer _ (fun p => .int .u64 p) rfl rfl))
noncomputable def C_78 : Oracle := pureE 78 (pure1 dBool (fun xis => .int .u64 (v_capops_truth xis))) (C_76)
theorem C_78_snd : Snd Try.prog C_78 := pureE_snd (pure1_ok (F := F78) (C_76_snd) Try.func78 (by kernel_rfl) run_78 (fun _ => rfl)) (C_76_snd)

/- ravelin/capops.asked$5 -/
def F77 : Cfg := { F := 400, roots := [0, 1], fl := ⟨true, false⟩ }
theorem run_77 : ∀ (c : Cp), pureRun Try.prog C_78 F77 Try.f77 [c.av] = some (.int .u64 (v_capops_asked_5 c)) := fun c =>
 (show pureRun Try.prog C_78 F77 Try.f77 [c.av] = (some (AV.int (IntKind.u64) (v_capops_truth c.tag))) by kernel_rfl).trans (rfl)
noncomputable def C_77 : Oracle := pureE 77 (pure1 dCp (fun c => .int .u64 (v_capops_asked_5 c))) (C_78)
theorem C_77_snd : Snd Try.prog C_77 := pureE_snd (pure1_ok (F := F77) (C_78_snd) Try.func77 (by kernel_rfl) run_77 (fun _ => rfl)) (C_78_snd)

/- ravelin/capops.asked$6 -/
def F79 : Cfg := { F := 400, roots := [0, 1], fl := ⟨true, false⟩ }
theorem run_79 : ∀ (c : Cp), pureRun Try.prog C_77 F79 Try.f79 [c.av] = some (.int .u64 (v_capops_asked_6 c)) := fun c =>
 (show pureRun Try.prog C_77 F79 Try.f79 [c.av] = (some (AV.int (IntKind.u64) (v_capops_truth (v_capops_Sealed c)))) by kernel_rfl).trans (rfl)
noncomputable def C_79 : Oracle := pureE 79 (pure1 dCp (fun c => .int .u64 (v_capops_asked_6 c))) (C_77)
theorem C_79_snd : Snd Try.prog C_79 := pureE_snd (pure1_ok (F := F79) (C_77_snd) Try.func79 (by kernel_rfl) run_79 (fun _ => rfl)) (C_77_snd)

/- ravelin/capops.asked$7 -/
def F80 : Cfg := { F := 400, roots := [0, 1], fl := ⟨true, false⟩ }
theorem run_80 : ∀ (c : Cp), pureRun Try.prog C_79 F80 Try.f80 [c.av] = cond (g_capops_asked_7 c) (some (.int .u64 (v_capops_asked_7 c))) none := fun c =>
 (show pureRun Try.prog C_79 F80 Try.f80 [c.av] = (cond (g_bounds_Of c)
 (some (AV.int (IntKind.u64) (c.ad - (v_bounds_Of c).base)))
 none) by kernel_rfl).trans ((merR _ (fun p => .int .u64 p) rfl))
noncomputable def C_80 : Oracle := pureGE 80 (pure1 dCp (fun c => .tup [.bool (g_capops_asked_7 c), .int .u64 (v_capops_asked_7 c)])) (C_79)
theorem C_80_snd : Snd Try.prog C_80 := pureGE_snd (pure1_gok (F := F80) (C_79_snd) Try.func80 (by kernel_rfl) run_80 (fun _ => rfl)) (C_79_snd)

/- ravelin/capops.asked$8 -/
def F81 : Cfg := { F := 400, roots := [0, 1], fl := ⟨true, false⟩ }
theorem run_81 : ∀ (c : Cp), pureRun Try.prog C_80 F81 Try.f81 [c.av] = some (.int .u64 (v_capops_asked_8 c)) := fun c =>
 (show pureRun Try.prog C_80 F81 Try.f81 [c.av] = (some (AV.int (IntKind.u64) (BitVec.signExtend 64 c.mo))) by kernel_rfl).trans (rfl)
noncomputable def C_81 : Oracle := pureE 81 (pure1 dCp (fun c => .int .u64 (v_capops_asked_8 c))) (C_80)
theorem C_81_snd : Snd Try.prog C_81 := pureE_snd (pure1_ok (F := F81) (C_80_snd) Try.func81 (by kernel_rfl) run_81 (fun _ => rfl)) (C_80_snd)

/- ravelin/bounds.Mask -/
def F85 : Cfg := { F := 400, roots := [0, 1, 2, 3], fl := ⟨true, false⟩ }
theorem run_85 : ∀ (n : BitVec 64), pureRun Try.prog C_81 F85 Try.f85 [.int .u64 n] = cond (g_bounds_Mask n) (some (.int .u64 (v_bounds_Mask n))) none := fun n =>
 (show pureRun Try.prog C_81 F85 Try.f85 [.int .u64 n] = (cond (g_bounds_Lay { tag := false, per := BitVec.ofInt IntKind.i64.bits 0, ty := BitVec.ofInt IntKind.i64.bits 0, mo := BitVec.ofInt IntKind.i64.bits 0, e := BitVec.ofInt IntKind.i64.bits 0, b := BitVec.ofInt IntKind.i64.bits 0, t := BitVec.ofInt IntKind.i64.bits 0, big := false, ad := BitVec.ofInt IntKind.u64.bits 0 } n)
 (cond (!(v_bounds_Lay { tag := false, per := BitVec.ofInt IntKind.i64.bits 0, ty := BitVec.ofInt IntKind.i64.bits 0, mo := BitVec.ofInt IntKind.i64.bits 0, e := BitVec.ofInt IntKind.i64.bits 0, b := BitVec.ofInt IntKind.i64.bits 0, t := BitVec.ofInt IntKind.i64.bits 0, big := false, ad := BitVec.ofInt IntKind.u64.bits 0 } n).fst.big)
  (some (AV.int (IntKind.u64) (18446744073709551615#64)))
  (cond (nonneg IntKind.i64 ((v_bounds_Lay { tag := false, per := BitVec.ofInt IntKind.i64.bits 0, ty := BitVec.ofInt IntKind.i64.bits 0, mo := BitVec.ofInt IntKind.i64.bits 0, e := BitVec.ofInt IntKind.i64.bits 0, b := BitVec.ofInt IntKind.i64.bits 0, t := BitVec.ofInt IntKind.i64.bits 0, big := false, ad := BitVec.ofInt IntKind.u64.bits 0 } n).fst.e + 3#64))
   (some (AV.int (IntKind.u64) (18446744073709551615#64 <<< min ((v_bounds_Lay { tag := false, per := BitVec.ofInt IntKind.i64.bits 0, ty := BitVec.ofInt IntKind.i64.bits 0, mo := BitVec.ofInt IntKind.i64.bits 0, e := BitVec.ofInt IntKind.i64.bits 0, b := BitVec.ofInt IntKind.i64.bits 0, t := BitVec.ofInt IntKind.i64.bits 0, big := false, ad := BitVec.ofInt IntKind.u64.bits 0 } n).fst.e + 3#64).toNat 64)))
   none))
 none) by kernel_rfl).trans ((merR _ (fun p => .int .u64 p) (merG _ (fun p => .int .u64 p) rfl (merR _ (fun p => .int .u64 p) rfl))))
noncomputable def C_85 : Oracle := pureGE 85 (pure1 dU64 (fun n => .tup [.bool (g_bounds_Mask n), .int .u64 (v_bounds_Mask n)])) (C_81)
theorem C_85_snd : Snd Try.prog C_85 := pureGE_snd (pure1_gok (F := F85) (C_81_snd) Try.func85 (by kernel_rfl) run_85 (fun _ => rfl)) (C_81_snd)

/- ravelin/bounds.Round -/
def F83 : Cfg := { F := 400, roots := [0, 1, 2], fl := ⟨true, false⟩ }
theorem run_83 : ∀ (n : BitVec 64), pureRun Try.prog C_85 F83 Try.f83 [.int .u64 n] = cond (g_bounds_Round n) (some (.int .u64 (v_bounds_Round n))) none := fun n =>
 (show pureRun Try.prog C_85 F83 Try.f83 [.int .u64 n] = (cond (g_bounds_Mask n)
 (some (AV.int (IntKind.u64) (n + ~~~v_bounds_Mask n &&& v_bounds_Mask n)))
 none) by kernel_rfl).trans ((merR _ (fun p => .int .u64 p) rfl))
noncomputable def C_83 : Oracle := pureGE 83 (pure1 dU64 (fun n => .tup [.bool (g_bounds_Round n), .int .u64 (v_bounds_Round n)])) (C_85)
theorem C_83_snd : Snd Try.prog C_83 := pureGE_snd (pure1_gok (F := F83) (C_85_snd) Try.func83 (by kernel_rfl) run_83 (fun _ => rfl)) (C_85_snd)

/- ravelin/capops.asked$9 -/
def F82 : Cfg := { F := 400, roots := [0, 1], fl := ⟨true, false⟩ }
theorem run_82 : ∀ (c : Cp), pureRun Try.prog C_83 F82 Try.f82 [c.av] = cond (g_capops_asked_9 c) (some (.int .u64 (v_capops_asked_9 c))) none := fun c =>
 (show pureRun Try.prog C_83 F82 Try.f82 [c.av] = (cond (g_bounds_Round c.ad)
 (some (AV.int (IntKind.u64) (v_bounds_Round c.ad)))
 none) by kernel_rfl).trans ((merR _ (fun p => .int .u64 p) rfl))
noncomputable def C_82 : Oracle := pureGE 82 (pure1 dCp (fun c => .tup [.bool (g_capops_asked_9 c), .int .u64 (v_capops_asked_9 c)])) (C_83)
theorem C_82_snd : Snd Try.prog C_82 := pureGE_snd (pure1_gok (F := F82) (C_83_snd) Try.func82 (by kernel_rfl) run_82 (fun _ => rfl)) (C_83_snd)

/- ravelin/capops.asked$10 -/
def F84 : Cfg := { F := 400, roots := [0, 1], fl := ⟨true, false⟩ }
theorem run_84 : ∀ (c : Cp), pureRun Try.prog C_82 F84 Try.f84 [c.av] = cond (g_capops_asked_10 c) (some (.int .u64 (v_capops_asked_10 c))) none := fun c =>
 (show pureRun Try.prog C_82 F84 Try.f84 [c.av] = (cond (g_bounds_Mask c.ad)
 (some (AV.int (IntKind.u64) (v_bounds_Mask c.ad)))
 none) by kernel_rfl).trans ((merR _ (fun p => .int .u64 p) rfl))
noncomputable def C_84 : Oracle := pureGE 84 (pure1 dCp (fun c => .tup [.bool (g_capops_asked_10 c), .int .u64 (v_capops_asked_10 c)])) (C_82)
theorem C_84_snd : Snd Try.prog C_84 := pureGE_snd (pure1_gok (F := F84) (C_82_snd) Try.func84 (by kernel_rfl) run_84 (fun _ => rfl)) (C_82_snd)

/- ravelin/capops.asked$11 -/
def F86 : Cfg := { F := 400, roots := [0, 1], fl := ⟨true, false⟩ }
theorem run_86 : ∀ (c : Cp), pureRun Try.prog C_84 F86 Try.f86 [c.av] = some (.int .u64 (v_capops_asked_11 c)) := fun c =>
 (show pureRun Try.prog C_84 F86 Try.f86 [c.av] = (some (AV.int (IntKind.u64) (c.ad))) by kernel_rfl).trans (rfl)
noncomputable def C_86 : Oracle := pureE 86 (pure1 dCp (fun c => .int .u64 (v_capops_asked_11 c))) (C_84)
theorem C_86_snd : Snd Try.prog C_86 := pureE_snd (pure1_ok (F := F86) (C_84_snd) Try.func86 (by kernel_rfl) run_86 (fun _ => rfl)) (C_84_snd)

/- ravelin/capops.asked$12 -/
def F87 : Cfg := { F := 400, roots := [0, 1, 2], fl := ⟨true, false⟩ }
theorem run_87 : ∀ (c : Cp), pureRun Try.prog C_86 F87 Try.f87 [c.av] = cond (g_capops_asked_12 c) (some (.int .u64 (v_capops_asked_12 c))) none := fun c =>
 (show pureRun Try.prog C_86 F87 Try.f87 [c.av] = (cond (g_bounds_Of c)
 (cond (!(v_bounds_Of c).over)
  (some (AV.int (IntKind.u64) ((v_bounds_Of c).top)))
  (some (AV.int (IntKind.u64) (18446744073709551615#64))))
 none) by kernel_rfl).trans ((merR _ (fun p => .int .u64 p) (merG _ (fun p => .int .u64 p) rfl rfl)))
noncomputable def C_87 : Oracle := pureGE 87 (pure1 dCp (fun c => .tup [.bool (g_capops_asked_12 c), .int .u64 (v_capops_asked_12 c)])) (C_86)
theorem C_87_snd : Snd Try.prog C_87 := pureGE_snd (pure1_gok (F := F87) (C_86_snd) Try.func87 (by kernel_rfl) run_87 (fun _ => rfl)) (C_86_snd)

def ents : List (Int × FuncId) := [(0, 73), (1, 74), (2, 75), (3, 76), (4, 77), (5, 79), (6, 80), (7, 81), (8, 82), (9, 84), (15, 86), (24, 87)]

/- ravelin/capops.Get -/
noncomputable def F12 : Cfg := { F := 400, roots := [0, 1, 2, 3, 4], fl := ⟨true, false⟩, laws := [(1000001, lookH ents 0 7 8 9 6)] }

noncomputable def gops : Array Oper := match subs 1000001 (bodyC Try.f12) with
  | [.region _ o _] => o
  | _ => #[]
noncomputable def aops (i : Nat) : Array Oper := match subs i (bodyC Try.f49) with
  | [.region _ o _] => o
  | _ => #[]
theorem asked_ok (w : World) : Calls Try.prog 49 #[] w (fun e w' => ∃ r es clock, e = .returned (.map (some r)) ∧ Fr w w' ∧ w'.heap[r]? = some (.map es clock) ∧ es.toList.map (fun e => (e.key, e.val)) = ents.map entOf) :=
  asked_calls (i0 := 0) (i1 := 1) (mty := 53) (kt := 3) (et := 52) (ops0 := aops 1000000) (ops1 := aops 1000001) (entries := ents) (by kernel_rfl) (by kernel_rfl) Try.func49 (by kernel_rfl) (by kernel_rfl) (by decide +kernel) (by kernel_rfl) (by kernel_rfl) (by decide) w
theorem fok_12 : FOK Try.prog Try.f12 F12 :=
  fok_one (b := .region 1 gops false) rfl (by kernel_rfl) (lookH_snd (mty := 53) (kt := 3) (et := 52) (by kernel_rfl) (by kernel_rfl) (fun w => by simp [zeroValue]; rfl) Try.func49 (by kernel_rfl) (by kernel_rfl) asked_ok (by kernel_rfl) (hasB (by decide +kernel)) (by decide +kernel) (by decide +kernel) (by decide +kernel) (by decide +kernel) (by decide) (by decide) (by decide))
theorem run_12 : ∀ (fn : BitVec 64) (c : Cp), pureRun Try.prog C_87 F12 Try.f12 [.int .i64 fn, c.av] = cond (g_capops_Get fn c) (some ((fun (p : BitVec 64 × Bool) => .tup [.int .u64 (p.1), .bool (p.2)]) (v_capops_Get fn c))) none := fun fn c =>
 (show pureRun Try.prog C_87 F12 Try.f12 [.int .i64 fn, c.av] = (cond (fn == 0#64)
 (some (AV.tup [(AV.int (IntKind.u64) (v_capops_asked_1 c)), (AV.bool (true))]))
 (cond (fn == 1#64)
  (some (AV.tup [(AV.int (IntKind.u64) (v_capops_asked_2 c)), (AV.bool (true))]))
  (cond (fn == 2#64)
   (cond (g_capops_asked_3 c)
    (some (AV.tup [(AV.int (IntKind.u64) (v_capops_asked_3 c)), (AV.bool (true))]))
    none)
   (cond (fn == 3#64)
    (cond (g_capops_asked_4 c)
     (some (AV.tup [(AV.int (IntKind.u64) (v_capops_asked_4 c)), (AV.bool (true))]))
     none)
    (cond (fn == 4#64)
     (some (AV.tup [(AV.int (IntKind.u64) (v_capops_asked_5 c)), (AV.bool (true))]))
     (cond (fn == 5#64)
      (some (AV.tup [(AV.int (IntKind.u64) (v_capops_asked_6 c)), (AV.bool (true))]))
      (cond (fn == 6#64)
       (cond (g_capops_asked_7 c)
        (some (AV.tup [(AV.int (IntKind.u64) (v_capops_asked_7 c)), (AV.bool (true))]))
        none)
       (cond (fn == 7#64)
        (some (AV.tup [(AV.int (IntKind.u64) (v_capops_asked_8 c)), (AV.bool (true))]))
        (cond (fn == 8#64)
         (cond (g_capops_asked_9 c)
          (some (AV.tup [(AV.int (IntKind.u64) (v_capops_asked_9 c)), (AV.bool (true))]))
          none)
         (cond (fn == 9#64)
          (cond (g_capops_asked_10 c)
           (some (AV.tup [(AV.int (IntKind.u64) (v_capops_asked_10 c)), (AV.bool (true))]))
           none)
          (cond (fn == 15#64)
           (some (AV.tup [(AV.int (IntKind.u64) (v_capops_asked_11 c)), (AV.bool (true))]))
           (cond (fn == 24#64)
            (cond (g_capops_asked_12 c)
             (some (AV.tup [(AV.int (IntKind.u64) (v_capops_asked_12 c)), (AV.bool (true))]))
             none)
            (some (AV.tup [(AV.int (IntKind.u64) (0#64)), (AV.bool (false))])))))))))))))) by kernel_rfl).trans ((merG _ (fun (p : BitVec 64 × Bool) => .tup [.int .u64 (p.1), .bool (p.2)]) rfl (merG _ (fun (p : BitVec 64 × Bool) => .tup [.int .u64 (p.1), .bool (p.2)]) rfl (merG _ (fun (p : BitVec 64 × Bool) => .tup [.int .u64 (p.1), .bool (p.2)]) (merR _ (fun (p : BitVec 64 × Bool) => .tup [.int .u64 (p.1), .bool (p.2)]) rfl) (merG _ (fun (p : BitVec 64 × Bool) => .tup [.int .u64 (p.1), .bool (p.2)]) (merR _ (fun (p : BitVec 64 × Bool) => .tup [.int .u64 (p.1), .bool (p.2)]) rfl) (merG _ (fun (p : BitVec 64 × Bool) => .tup [.int .u64 (p.1), .bool (p.2)]) rfl (merG _ (fun (p : BitVec 64 × Bool) => .tup [.int .u64 (p.1), .bool (p.2)]) rfl (merG _ (fun (p : BitVec 64 × Bool) => .tup [.int .u64 (p.1), .bool (p.2)]) (merR _ (fun (p : BitVec 64 × Bool) => .tup [.int .u64 (p.1), .bool (p.2)]) rfl) (merG _ (fun (p : BitVec 64 × Bool) => .tup [.int .u64 (p.1), .bool (p.2)]) rfl (merG _ (fun (p : BitVec 64 × Bool) => .tup [.int .u64 (p.1), .bool (p.2)]) (merR _ (fun (p : BitVec 64 × Bool) => .tup [.int .u64 (p.1), .bool (p.2)]) rfl) (merG _ (fun (p : BitVec 64 × Bool) => .tup [.int .u64 (p.1), .bool (p.2)]) (merR _ (fun (p : BitVec 64 × Bool) => .tup [.int .u64 (p.1), .bool (p.2)]) rfl) (merG _ (fun (p : BitVec 64 × Bool) => .tup [.int .u64 (p.1), .bool (p.2)]) rfl (merG _ (fun (p : BitVec 64 × Bool) => .tup [.int .u64 (p.1), .bool (p.2)]) (merR _ (fun (p : BitVec 64 × Bool) => .tup [.int .u64 (p.1), .bool (p.2)]) rfl) rfl)))))))))))))
noncomputable def C_12 : Oracle := pureGE 12 (pure2 dI64 dCp (fun fn c => .tup [.bool (g_capops_Get fn c), (fun (p : BitVec 64 × Bool) => .tup [.int .u64 (p.1), .bool (p.2)]) (v_capops_Get fn c)])) (C_87)
theorem C_12_snd : Snd Try.prog C_12 := pureGE_snd (pure2_gok (F := F12) (C_87_snd) Try.func12 (by kernel_rfl) run_12 (fun _ _ => rfl) (hF := fok_12)) (C_87_snd)

/- ravelin/ravelinlaw05.known -/
def F14 : Cfg := { F := 400, roots := [0, 1, 2, 3, 4, 5], fl := ⟨true, false⟩ }
theorem run_14 : pureRun Try.prog C_12 F14 Try.f14 [] = some (.bool v_l05_known) := (show pureRun Try.prog C_12 F14 Try.f14 [] = (some (AV.bool (true))) by kernel_rfl).trans (rfl)
noncomputable def C_14 : Oracle := pureE 14 (pure0  (.bool v_l05_known)) (C_12)
theorem C_14_snd : Snd Try.prog C_14 := pureE_snd (pure0_ok (F := F14) (C_12_snd) Try.func14 (by kernel_rfl) run_14 rfl) (C_12_snd)

/- ravelin/ravelinlaw05.CapopsTwo -/
def F7 : Cfg := { F := 400, roots := [0, 1, 2], fl := ⟨true, false⟩ }
theorem run_7 : ∀ (a : Cp) (xb : Cp), pureRun Try.prog C_14 F7 Try.f7 [a.av, xb.av] = t_l05_CapopsTwo a xb := fun a xb =>
  by kernel_rfl
theorem snd_7 : Snd Try.prog (C_14) := C_14_snd

end Go.Proofs.Ytampipogplbobaa

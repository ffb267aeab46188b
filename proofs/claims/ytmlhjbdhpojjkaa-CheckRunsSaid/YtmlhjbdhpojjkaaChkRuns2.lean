import Derived.Test.YtmlhjbdhpojjkaaSxW
import Derived.Test.YtmlhjbdhpojjkaaSxY
import Derived.Test.YtmlhjbdhpojjkaaSxLen2
import Derived.Test.YtmlhjbdhpojjkaaPlUp
import Derived.Test.YtmlhjbdhpojjkaaVa03
import Derived.Test.YtmlhjbdhpojjkaaVa05
import Derived.Test.YtmlhjbdhpojjkaaVa23
import Derived.KernelRfl
import Derived.Test.YtmlhjbdhpojjkaaProg
set_option linter.unusedSimpArgs false
set_option linter.unusedVariables false
set_option linter.unnecessarySimpa false
/- What the functions of the seat answer. -/
namespace Go.Proofs.Ytmlhjbdhpojjkaa
open Go Go.Sx Go.Proofs
set_option maxRecDepth 100000
set_option maxHeartbeats 4000000

/- ravelin/ravelinkit.Pick -/
def F19 : Cfg := { F := 400, roots := [0, 1, 2], fl := ⟨true, false⟩ }
theorem run_19 : ∀ (k : BitVec 64) (n : BitVec 64), pureRun Try.prog nothing F19 Try.f19 [.int .i64 k, .int .i64 n] = some (.int .i64 (v_kit_Pick k n)) := fun k n =>
 (show pureRun Try.prog nothing F19 Try.f19 [.int .i64 k, .int .i64 n] = t_kit_Pick k n by kernel_rfl).trans (t_kit_Pick_eq k n)
noncomputable def C_19 : Oracle := pureE 19 (pure2 dI64 dI64 (fun k n => .int .i64 (v_kit_Pick k n))) (nothing)
theorem C_19_snd : Snd Try.prog C_19 := pureE_snd (pure2_ok (F := F19) (nothing_snd) Try.func19 (by kernel_rfl) run_19 (fun _ _ => rfl)) (nothing_snd)

/- ravelin/ravelinlaw03.May -/
def F30 : Cfg := { F := 400, roots := [0, 1], fl := ⟨true, false⟩ }
theorem run_30 : ∀ (c : Cp), pureRun Try.prog C_19 F30 Try.f30 [c.av] = some ((v_l03_May c).av) := fun c =>
 (show pureRun Try.prog C_19 F30 Try.f30 [c.av] = (cond (!c.big)
 (some (AV.agg [(AV.bool (c.tag)), (AV.int (IntKind.i64) (c.per)), (AV.int (IntKind.i64) (c.ty)), (AV.int (IntKind.i64) (c.mo)), (AV.int (IntKind.i64) (0#64)), (AV.int (IntKind.i64) (v_kit_Pick c.b 16384#64)), (AV.int (IntKind.i64) (v_kit_Pick c.t 4096#64)), (AV.bool (c.big)), (AV.int (IntKind.u64) (c.ad))]))
 (some (AV.agg [(AV.bool (c.tag)), (AV.int (IntKind.i64) (c.per)), (AV.int (IntKind.i64) (c.ty)), (AV.int (IntKind.i64) (c.mo)), (AV.int (IntKind.i64) (v_kit_Pick c.e 53#64)), (AV.int (IntKind.i64) (v_kit_Pick c.b 16384#64)), (AV.int (IntKind.i64) (v_kit_Pick c.t 4096#64)), (AV.bool (c.big)), (AV.int (IntKind.u64) (c.ad))]))) by kernel_rfl).trans ((mer _ (Cp.av) rfl rfl))
noncomputable def C_30 : Oracle := pureE 30 (pure1 dCp (fun c => (v_l03_May c).av)) (C_19)
theorem C_30_snd : Snd Try.prog C_30 := pureE_snd (pure1_ok (F := F30) (C_19_snd) Try.func30 (by kernel_rfl) run_30 (fun _ => rfl)) (C_19_snd)

/- ravelin/ravelinlaw05.Right -/
def F10 : Cfg := { F := 400, roots := [0, 1], fl := ⟨true, false⟩ }
theorem run_10 : ∀ (c : Cp), pureRun Try.prog C_30 F10 Try.f10 [c.av] = some ((v_l05_Right c).av) := fun c =>
 (show pureRun Try.prog C_30 F10 Try.f10 [c.av] = (cond ((v_l03_May c).big)
 (some (AV.agg [(AV.bool ((v_l03_May c).tag)), (AV.int (IntKind.i64) (v_kit_Pick (v_l03_May c).per 65536#64)), (AV.int (IntKind.i64) (v_kit_Pick (v_l03_May c).ty 262144#64)), (AV.int (IntKind.i64) (v_kit_Pick (v_l03_May c).mo 2#64)), (AV.int (IntKind.i64) ((v_l03_May c).e)), (AV.int (IntKind.i64) ((v_l03_May c).b &&& 18446744073709551608#64)), (AV.int (IntKind.i64) ((v_l03_May c).t &&& 18446744073709551608#64)), (AV.bool ((v_l03_May c).big)), (AV.int (IntKind.u64) ((v_l03_May c).ad))]))
 (some (AV.agg [(AV.bool ((v_l03_May c).tag)), (AV.int (IntKind.i64) (v_kit_Pick (v_l03_May c).per 65536#64)), (AV.int (IntKind.i64) (v_kit_Pick (v_l03_May c).ty 262144#64)), (AV.int (IntKind.i64) (v_kit_Pick (v_l03_May c).mo 2#64)), (AV.int (IntKind.i64) ((v_l03_May c).e)), (AV.int (IntKind.i64) ((v_l03_May c).b)), (AV.int (IntKind.i64) ((v_l03_May c).t)), (AV.bool ((v_l03_May c).big)), (AV.int (IntKind.u64) ((v_l03_May c).ad))]))) by kernel_rfl).trans ((mer _ (Cp.av) rfl rfl))
noncomputable def C_10 : Oracle := pureE 10 (pure1 dCp (fun c => (v_l05_Right c).av)) (C_30)
theorem C_10_snd : Snd Try.prog C_10 := pureE_snd (pure1_ok (F := F10) (C_30_snd) Try.func10 (by kernel_rfl) run_10 (fun _ => rfl)) (C_30_snd)

/- ravelin/check.Refused -/
def F13 : Cfg := { F := 400, roots := [0, 1, 2], fl := ⟨true, false⟩ }
theorem run_13 : ∀ (xby : BitVec 64) (why : BitVec 64), pureRun Try.prog C_10 F13 Try.f13 [.int .i64 xby, .int .i64 why] = some ((v_check_Refused xby why).av) := fun xby why =>
 (show pureRun Try.prog C_10 F13 Try.f13 [.int .i64 xby, .int .i64 why] = (some (AV.agg [(AV.bool (true)), (AV.int (IntKind.i64) (28#64)), (AV.int (IntKind.u64) (BitVec.signExtend 64 xby <<< 5 + BitVec.signExtend 64 why))])) by kernel_rfl).trans (rfl)
noncomputable def C_13 : Oracle := pureE 13 (pure2 dI64 dI64 (fun xby why => (v_check_Refused xby why).av)) (C_10)
theorem C_13_snd : Snd Try.prog C_13 := pureE_snd (pure2_ok (F := F13) (C_10_snd) Try.func13 (by kernel_rfl) run_13 (fun _ _ => rfl)) (C_10_snd)

/- ravelin/check.ask -/
def F32 : Cfg := { F := 400, roots := [0, 1, 2, 3, 4], fl := ⟨true, false⟩ }
noncomputable def C_32 : Oracle := quietE Try.prog 32 Try.f32 F32 C_13 (C_13)
theorem C_32_snd : Snd Try.prog C_32 := quietE_snd Try.func32 (by kernel_rfl) C_13_snd C_13_snd

/- ravelin/bounds.truth -/
def F40 : Cfg := { F := 400, roots := [0, 1], fl := ⟨true, false⟩ }
theorem run_40 : ∀ (xis : Bool), pureRun Try.prog C_32 F40 Try.f40 [.bool xis] = some (.int .i64 (v_bounds_truth xis)) := fun xis =>
 (show pureRun Try.prog C_32 F40 Try.f40 [.bool xis] = (cond (xis)
 (some (AV.int (IntKind.i64) (1#64)))
 (some (AV.int (IntKind.i64) (0#64)))) by kernel_rfl).trans ((mer _ (fun p => .int .i64 p) rfl rfl))
noncomputable def C_40 : Oracle := pureE 40 (pure1 dBool (fun xis => .int .i64 (v_bounds_truth xis))) (C_32)
theorem C_40_snd : Snd Try.prog C_40 := pureE_snd (pure1_ok (F := F40) (C_32_snd) Try.func40 (by kernel_rfl) run_40 (fun _ => rfl)) (C_32_snd)

/- ravelin/bounds.top -/
def F39 : Cfg := { F := 400, roots := [0, 1], fl := ⟨true, false⟩ }
theorem run_39 : ∀ (r : Rg), pureRun Try.prog C_40 F39 Try.f39 [r.av] = some ((v_bounds_top r).av) := fun r =>
 (show pureRun Try.prog C_40 F39 Try.f39 [r.av] = (some (AV.agg [(AV.int (IntKind.u64) (BitVec.signExtend 64 (v_bounds_truth r.over))), (AV.int (IntKind.u64) (r.top))])) by kernel_rfl).trans (rfl)
noncomputable def C_39 : Oracle := pureE 39 (pure1 dRg (fun r => (v_bounds_top r).av)) (C_40)
theorem C_39_snd : Snd Try.prog C_39 := pureE_snd (pure1_ok (F := F39) (C_40_snd) Try.func39 (by kernel_rfl) run_39 (fun _ => rfl)) (C_40_snd)
noncomputable def C_57 : Oracle := pureE 57 add64S (C_39)
theorem C_57_snd : Snd Try.prog C_57 := pureE_snd (add64_ok Try.func57 (by kernel_rfl) (by kernel_rfl) (by kernel_rfl) (by kernel_rfl)) (C_39_snd)

/- (ravelin/bounds.number).plus -/
def F37 : Cfg := { F := 400, roots := [0, 1, 2, 3, 4], fl := ⟨true, false⟩ }
theorem run_37 : ∀ (a : W2) (xb : W2), pureRun Try.prog C_57 F37 Try.f37 [a.av, xb.av] = some ((v_bounds_number_plus a xb).av) := fun a xb =>
 (show pureRun Try.prog C_57 F37 Try.f37 [a.av, xb.av] = (some (AV.agg [(AV.int (IntKind.u64) ((a.hi + xb.hi + bif (a.lo + xb.lo).ult a.lo then 1#64 else 0#64) &&& 1#64)), (AV.int (IntKind.u64) (a.lo + xb.lo))])) by kernel_rfl).trans (rfl)
noncomputable def C_37 : Oracle := pureE 37 (pure2 dW2 dW2 (fun a xb => (v_bounds_number_plus a xb).av)) (C_57)
theorem C_37_snd : Snd Try.prog C_37 := pureE_snd (pure2_ok (F := F37) (C_57_snd) Try.func37 (by kernel_rfl) run_37 (fun _ _ => rfl)) (C_57_snd)

/- (ravelin/bounds.number).above -/
def F38 : Cfg := { F := 400, roots := [0, 1, 2], fl := ⟨true, false⟩ }
theorem run_38 : ∀ (a : W2) (xb : W2), pureRun Try.prog C_37 F38 Try.f38 [a.av, xb.av] = some (.bool (v_bounds_number_above a xb)) := fun a xb =>
 (show pureRun Try.prog C_37 F38 Try.f38 [a.av, xb.av] = (cond (xb.hi.ult a.hi)
 (some (AV.bool (true)))
 (cond (a.hi == xb.hi)
  (some (AV.bool (xb.lo.ult a.lo)))
  (some (AV.bool (false))))) by kernel_rfl).trans ((mer _ (fun p => .bool p) rfl (mer _ (fun p => .bool p) rfl rfl)))
noncomputable def C_38 : Oracle := pureE 38 (pure2 dW2 dW2 (fun a xb => .bool (v_bounds_number_above a xb))) (C_37)
theorem C_38_snd : Snd Try.prog C_38 := pureE_snd (pure2_ok (F := F38) (C_37_snd) Try.func38 (by kernel_rfl) run_38 (fun _ _ => rfl)) (C_37_snd)

/- ravelin/bounds.In -/
def F16 : Cfg := { F := 400, roots := [0, 1, 2, 3], fl := ⟨true, false⟩ }
theorem run_16 : ∀ (r : Rg) (xat : BitVec 64) (n : BitVec 64), pureRun Try.prog C_38 F16 Try.f16 [r.av, .int .u64 xat, .int .i64 n] = some (.bool (v_bounds_In r xat n)) := fun r xat n =>
 (show pureRun Try.prog C_38 F16 Try.f16 [r.av, .int .u64 xat, .int .i64 n] = (cond ((0#64).sle n)
 (cond (r.base.ule xat)
  (some (AV.bool (!v_bounds_number_above (v_bounds_number_plus { hi := 0#64, lo := xat } { hi := 0#64, lo := BitVec.signExtend 64 n }) (v_bounds_top r))))
  (some (AV.bool (false))))
 (some (AV.bool (false)))) by kernel_rfl).trans ((mer _ (fun p => .bool p) (mer _ (fun p => .bool p) rfl rfl) rfl))
noncomputable def C_16 : Oracle := pureE 16 (pure3 dRg dU64 dI64 (fun r xat n => .bool (v_bounds_In r xat n))) (C_38)
theorem C_16_snd : Snd Try.prog C_16 := pureE_snd (pure3_ok (F := F16) (C_38_snd) Try.func16 (by kernel_rfl) run_16 (fun _ _ _ => rfl)) (C_38_snd)

/- ravelin/bounds.signed -/
def F42 : Cfg := { F := 400, roots := [0, 1], fl := ⟨true, false⟩ }
theorem run_42 : ∀ (v : BitVec 64), pureRun Try.prog C_16 F42 Try.f42 [.int .i64 v] = some ((v_bounds_signed v).av) := fun v =>
 (show pureRun Try.prog C_16 F42 Try.f42 [.int .i64 v] = (some (AV.agg [(AV.int (IntKind.u64) (BitVec.signExtend 64 v >>> 63)), (AV.int (IntKind.u64) (BitVec.signExtend 64 v))])) by kernel_rfl).trans (rfl)
noncomputable def C_42 : Oracle := pureE 42 (pure1 dI64 (fun v => (v_bounds_signed v).av)) (C_16)
theorem C_42_snd : Snd Try.prog C_42 := pureE_snd (pure1_ok (F := F42) (C_16_snd) Try.func42 (by kernel_rfl) run_42 (fun _ => rfl)) (C_16_snd)

/- (ravelin/bounds.number).up -/
def F43 : Cfg := { F := 400, roots := [0, 1, 2], fl := ⟨true, false⟩ }
theorem run_43 : ∀ (a : W2) (n : BitVec 64), pureRun Try.prog C_42 F43 Try.f43 [a.av, .int .i64 n] = cond (g_bounds_number_up a n) (some ((v_bounds_number_up a n).av)) none := fun a n =>
 (show pureRun Try.prog C_42 F43 Try.f43 [a.av, .int .i64 n] = (cond (n == 0#64)
 (some (AV.agg [(AV.int (IntKind.u64) (a.hi)), (AV.int (IntKind.u64) (a.lo))]))
 (cond ((65#64).sle n)
  (some (AV.agg [(AV.int (IntKind.u64) (0#64)), (AV.int (IntKind.u64) (0#64))]))
  (cond (n == 64#64)
   (some (AV.agg [(AV.int (IntKind.u64) (a.lo &&& 1#64)), (AV.int (IntKind.u64) (0#64))]))
   (cond (nonneg IntKind.i64 (64#64 - n))
    (cond (nonneg IntKind.i64 n)
     (some (AV.agg [(AV.int (IntKind.u64) (a.lo >>> min (64#64 - n).toNat 64 &&& 1#64)), (AV.int (IntKind.u64) (a.lo <<< min n.toNat 64))]))
     none)
    none)))) by kernel_rfl).trans ((merG _ (W2.av) rfl (merG _ (W2.av) rfl (merG _ (W2.av) rfl (merR _ (W2.av) (merR _ (W2.av) rfl))))))
noncomputable def C_43 : Oracle := pureGE 43 (pure2 dW2 dI64 (fun a n => .tup [.bool (g_bounds_number_up a n), (v_bounds_number_up a n).av])) (C_42)
theorem C_43_snd : Snd Try.prog C_43 := pureGE_snd (pure2_gok (F := F43) (C_42_snd) Try.func43 (by kernel_rfl) run_43 (fun _ _ => rfl)) (C_42_snd)

/- ravelin/bounds.Of$1 -/
def F41 : Cfg := { F := 400, roots := [0, 1, 2], fl := ⟨true, false⟩ }
noncomputable def C_41 : Oracle := quietE Try.prog 41 Try.f41 F41 C_43 (C_43)
theorem C_41_snd : Snd Try.prog C_41 := quietE_snd Try.func41 (by kernel_rfl) C_43_snd C_43_snd

/- ravelin/bounds.Of -/
def F17 : Cfg := { F := 400, roots := [0, 1, 2, 3, 4, 5, 6, 7, 8], fl := ⟨true, false⟩ }
theorem run_17 : ∀ (c : Cp), pureRun Try.prog C_41 F17 Try.f17 [c.av] = cond (g_bounds_Of c) (some ((v_bounds_Of c).av)) none := fun c =>
 (show pureRun Try.prog C_41 F17 Try.f17 [c.av] = (cond (nonneg IntKind.i64 c.e)
 (cond ((c.e + 14#64).slt 64#64)
  (cond (nonneg IntKind.i64 (c.e + 14#64))
   (cond (g_bounds_number_up (v_bounds_signed (BitVec.setWidth 64 (c.ad >>> min (c.e + 14#64).toNat 64) + (v_bounds_truth (c.b.slt ((c.b.sshiftRight 11 - 1#64 &&& 7#64) <<< 11)) - v_bounds_truth ((BitVec.setWidth 64 (c.ad >>> min c.e.toNat 64) &&& 16383#64).slt ((c.b.sshiftRight 11 - 1#64 &&& 7#64) <<< 11))))) (c.e + 14#64))
    (cond (g_bounds_number_up { hi := 0#64, lo := BitVec.signExtend 64 c.b } c.e)
     (cond (g_bounds_number_up (v_bounds_signed (BitVec.setWidth 64 (c.ad >>> min (c.e + 14#64).toNat 64) + (v_bounds_truth ((c.t ||| (c.b.sshiftRight 12 + v_bounds_truth (c.t.slt (c.b &&& 4095#64)) + v_bounds_truth c.big &&& 3#64) <<< 12).slt ((c.b.sshiftRight 11 - 1#64 &&& 7#64) <<< 11)) - v_bounds_truth ((BitVec.setWidth 64 (c.ad >>> min c.e.toNat 64) &&& 16383#64).slt ((c.b.sshiftRight 11 - 1#64 &&& 7#64) <<< 11))))) (c.e + 14#64))
      (cond (g_bounds_number_up { hi := 0#64, lo := BitVec.signExtend 64 (c.t ||| (c.b.sshiftRight 12 + v_bounds_truth (c.t.slt (c.b &&& 4095#64)) + v_bounds_truth c.big &&& 3#64) <<< 12) } c.e)
       (cond (c.e.slt 51#64)
        (cond ((1#64).ult ((v_bounds_number_plus (v_bounds_number_up (v_bounds_signed (BitVec.setWidth 64 (c.ad >>> min (c.e + 14#64).toNat 64) + (v_bounds_truth ((c.t ||| (c.b.sshiftRight 12 + v_bounds_truth (c.t.slt (c.b &&& 4095#64)) + v_bounds_truth c.big &&& 3#64) <<< 12).slt ((c.b.sshiftRight 11 - 1#64 &&& 7#64) <<< 11)) - v_bounds_truth ((BitVec.setWidth 64 (c.ad >>> min c.e.toNat 64) &&& 16383#64).slt ((c.b.sshiftRight 11 - 1#64 &&& 7#64) <<< 11))))) (c.e + 14#64)) (v_bounds_number_up { hi := 0#64, lo := BitVec.signExtend 64 (c.t ||| (c.b.sshiftRight 12 + v_bounds_truth (c.t.slt (c.b &&& 4095#64)) + v_bounds_truth c.big &&& 3#64) <<< 12) } c.e)).hi <<< 1 + (v_bounds_number_plus (v_bounds_number_up (v_bounds_signed (BitVec.setWidth 64 (c.ad >>> min (c.e + 14#64).toNat 64) + (v_bounds_truth ((c.t ||| (c.b.sshiftRight 12 + v_bounds_truth (c.t.slt (c.b &&& 4095#64)) + v_bounds_truth c.big &&& 3#64) <<< 12).slt ((c.b.sshiftRight 11 - 1#64 &&& 7#64) <<< 11)) - v_bounds_truth ((BitVec.setWidth 64 (c.ad >>> min c.e.toNat 64) &&& 16383#64).slt ((c.b.sshiftRight 11 - 1#64 &&& 7#64) <<< 11))))) (c.e + 14#64)) (v_bounds_number_up { hi := 0#64, lo := BitVec.signExtend 64 (c.t ||| (c.b.sshiftRight 12 + v_bounds_truth (c.t.slt (c.b &&& 4095#64)) + v_bounds_truth c.big &&& 3#64) <<< 12) } c.e)).lo >>> 63 - (v_bounds_number_plus (v_bounds_number_up (v_bounds_signed (BitVec.setWidth 64 (c.ad >>> min (c.e + 14#64).toNat 64) + (v_bounds_truth (c.b.slt ((c.b.sshiftRight 11 - 1#64 &&& 7#64) <<< 11)) - v_bounds_truth ((BitVec.setWidth 64 (c.ad >>> min c.e.toNat 64) &&& 16383#64).slt ((c.b.sshiftRight 11 - 1#64 &&& 7#64) <<< 11))))) (c.e + 14#64)) (v_bounds_number_up { hi := 0#64, lo := BitVec.signExtend 64 c.b } c.e)).lo >>> 63 &&& 3#64))
         (some (AV.agg [(AV.int (IntKind.u64) ((v_bounds_number_plus (v_bounds_number_up (v_bounds_signed (BitVec.setWidth 64 (c.ad >>> min (c.e + 14#64).toNat 64) + (v_bounds_truth (c.b.slt ((c.b.sshiftRight 11 - 1#64 &&& 7#64) <<< 11)) - v_bounds_truth ((BitVec.setWidth 64 (c.ad >>> min c.e.toNat 64) &&& 16383#64).slt ((c.b.sshiftRight 11 - 1#64 &&& 7#64) <<< 11))))) (c.e + 14#64)) (v_bounds_number_up { hi := 0#64, lo := BitVec.signExtend 64 c.b } c.e)).lo)), (AV.int (IntKind.u64) ((v_bounds_number_plus (v_bounds_number_up (v_bounds_signed (BitVec.setWidth 64 (c.ad >>> min (c.e + 14#64).toNat 64) + (v_bounds_truth ((c.t ||| (c.b.sshiftRight 12 + v_bounds_truth (c.t.slt (c.b &&& 4095#64)) + v_bounds_truth c.big &&& 3#64) <<< 12).slt ((c.b.sshiftRight 11 - 1#64 &&& 7#64) <<< 11)) - v_bounds_truth ((BitVec.setWidth 64 (c.ad >>> min c.e.toNat 64) &&& 16383#64).slt ((c.b.sshiftRight 11 - 1#64 &&& 7#64) <<< 11))))) (c.e + 14#64)) (v_bounds_number_up { hi := 0#64, lo := BitVec.signExtend 64 (c.t ||| (c.b.sshiftRight 12 + v_bounds_truth (c.t.slt (c.b &&& 4095#64)) + v_bounds_truth c.big &&& 3#64) <<< 12) } c.e)).lo)), (AV.bool ((v_bounds_number_plus (v_bounds_number_up (v_bounds_signed (BitVec.setWidth 64 (c.ad >>> min (c.e + 14#64).toNat 64) + (v_bounds_truth ((c.t ||| (c.b.sshiftRight 12 + v_bounds_truth (c.t.slt (c.b &&& 4095#64)) + v_bounds_truth c.big &&& 3#64) <<< 12).slt ((c.b.sshiftRight 11 - 1#64 &&& 7#64) <<< 11)) - v_bounds_truth ((BitVec.setWidth 64 (c.ad >>> min c.e.toNat 64) &&& 16383#64).slt ((c.b.sshiftRight 11 - 1#64 &&& 7#64) <<< 11))))) (c.e + 14#64)) (v_bounds_number_up { hi := 0#64, lo := BitVec.signExtend 64 (c.t ||| (c.b.sshiftRight 12 + v_bounds_truth (c.t.slt (c.b &&& 4095#64)) + v_bounds_truth c.big &&& 3#64) <<< 12) } c.e)).hi ^^^ 1#64 == 1#64))]))
         (some (AV.agg [(AV.int (IntKind.u64) ((v_bounds_number_plus (v_bounds_number_up (v_bounds_signed (BitVec.setWidth 64 (c.ad >>> min (c.e + 14#64).toNat 64) + (v_bounds_truth (c.b.slt ((c.b.sshiftRight 11 - 1#64 &&& 7#64) <<< 11)) - v_bounds_truth ((BitVec.setWidth 64 (c.ad >>> min c.e.toNat 64) &&& 16383#64).slt ((c.b.sshiftRight 11 - 1#64 &&& 7#64) <<< 11))))) (c.e + 14#64)) (v_bounds_number_up { hi := 0#64, lo := BitVec.signExtend 64 c.b } c.e)).lo)), (AV.int (IntKind.u64) ((v_bounds_number_plus (v_bounds_number_up (v_bounds_signed (BitVec.setWidth 64 (c.ad >>> min (c.e + 14#64).toNat 64) + (v_bounds_truth ((c.t ||| (c.b.sshiftRight 12 + v_bounds_truth (c.t.slt (c.b &&& 4095#64)) + v_bounds_truth c.big &&& 3#64) <<< 12).slt ((c.b.sshiftRight 11 - 1#64 &&& 7#64) <<< 11)) - v_bounds_truth ((BitVec.setWidth 64 (c.ad >>> min c.e.toNat 64) &&& 16383#64).slt ((c.b.sshiftRight 11 - 1#64 &&& 7#64) <<< 11))))) (c.e + 14#64)) (v_bounds_number_up { hi := 0#64, lo := BitVec.signExtend 64 (c.t ||| (c.b.sshiftRight 12 + v_bounds_truth (c.t.slt (c.b &&& 4095#64)) + v_bounds_truth c.big &&& 3#64) <<< 12) } c.e)).lo)), (AV.bool ((v_bounds_number_plus (v_bounds_number_up (v_bounds_signed (BitVec.setWidth 64 (c.ad >>> min (c.e + 14#64).toNat 64) + (v_bounds_truth ((c.t ||| (c.b.sshiftRight 12 + v_bounds_truth (c.t.slt (c.b &&& 4095#64)) + v_bounds_truth c.big &&& 3#64) <<< 12).slt ((c.b.sshiftRight 11 - 1#64 &&& 7#64) <<< 11)) - v_bounds_truth ((BitVec.setWidth 64 (c.ad >>> min c.e.toNat 64) &&& 16383#64).slt ((c.b.sshiftRight 11 - 1#64 &&& 7#64) <<< 11))))) (c.e + 14#64)) (v_bounds_number_up { hi := 0#64, lo := BitVec.signExtend 64 (c.t ||| (c.b.sshiftRight 12 + v_bounds_truth (c.t.slt (c.b &&& 4095#64)) + v_bounds_truth c.big &&& 3#64) <<< 12) } c.e)).hi == 1#64))])))
        (some (AV.agg [(AV.int (IntKind.u64) ((v_bounds_number_plus (v_bounds_number_up (v_bounds_signed (BitVec.setWidth 64 (c.ad >>> min (c.e + 14#64).toNat 64) + (v_bounds_truth (c.b.slt ((c.b.sshiftRight 11 - 1#64 &&& 7#64) <<< 11)) - v_bounds_truth ((BitVec.setWidth 64 (c.ad >>> min c.e.toNat 64) &&& 16383#64).slt ((c.b.sshiftRight 11 - 1#64 &&& 7#64) <<< 11))))) (c.e + 14#64)) (v_bounds_number_up { hi := 0#64, lo := BitVec.signExtend 64 c.b } c.e)).lo)), (AV.int (IntKind.u64) ((v_bounds_number_plus (v_bounds_number_up (v_bounds_signed (BitVec.setWidth 64 (c.ad >>> min (c.e + 14#64).toNat 64) + (v_bounds_truth ((c.t ||| (c.b.sshiftRight 12 + v_bounds_truth (c.t.slt (c.b &&& 4095#64)) + v_bounds_truth c.big &&& 3#64) <<< 12).slt ((c.b.sshiftRight 11 - 1#64 &&& 7#64) <<< 11)) - v_bounds_truth ((BitVec.setWidth 64 (c.ad >>> min c.e.toNat 64) &&& 16383#64).slt ((c.b.sshiftRight 11 - 1#64 &&& 7#64) <<< 11))))) (c.e + 14#64)) (v_bounds_number_up { hi := 0#64, lo := BitVec.signExtend 64 (c.t ||| (c.b.sshiftRight 12 + v_bounds_truth (c.t.slt (c.b &&& 4095#64)) + v_bounds_truth c.big &&& 3#64) <<< 12) } c.e)).lo)), (AV.bool ((v_bounds_number_plus (v_bounds_number_up (v_bounds_signed (BitVec.setWidth 64 (c.ad >>> min (c.e + 14#64).toNat 64) + (v_bounds_truth ((c.t ||| (c.b.sshiftRight 12 + v_bounds_truth (c.t.slt (c.b &&& 4095#64)) + v_bounds_truth c.big &&& 3#64) <<< 12).slt ((c.b.sshiftRight 11 - 1#64 &&& 7#64) <<< 11)) - v_bounds_truth ((BitVec.setWidth 64 (c.ad >>> min c.e.toNat 64) &&& 16383#64).slt ((c.b.sshiftRight 11 - 1#64 &&& 7#64) <<< 11))))) (c.e + 14#64)) (v_bounds_number_up { hi := 0#64, lo := BitVec.signExtend 64 (c.t ||| (c.b.sshiftRight 12 + v_bounds_truth (c.t.slt (c.b &&& 4095#64)) + v_bounds_truth c.big &&& 3#64) <<< 12) } c.e)).hi == 1#64))])))
       none)
      none)
     none)
    none)
   none)
  (cond (g_bounds_number_up (v_bounds_signed (0#64 + (v_bounds_truth (c.b.slt ((c.b.sshiftRight 11 - 1#64 &&& 7#64) <<< 11)) - v_bounds_truth ((BitVec.setWidth 64 (c.ad >>> min c.e.toNat 64) &&& 16383#64).slt ((c.b.sshiftRight 11 - 1#64 &&& 7#64) <<< 11))))) (c.e + 14#64))
   (cond (g_bounds_number_up { hi := 0#64, lo := BitVec.signExtend 64 c.b } c.e)
    (cond (g_bounds_number_up (v_bounds_signed (0#64 + (v_bounds_truth ((c.t ||| (c.b.sshiftRight 12 + v_bounds_truth (c.t.slt (c.b &&& 4095#64)) + v_bounds_truth c.big &&& 3#64) <<< 12).slt ((c.b.sshiftRight 11 - 1#64 &&& 7#64) <<< 11)) - v_bounds_truth ((BitVec.setWidth 64 (c.ad >>> min c.e.toNat 64) &&& 16383#64).slt ((c.b.sshiftRight 11 - 1#64 &&& 7#64) <<< 11))))) (c.e + 14#64))
     (cond (g_bounds_number_up { hi := 0#64, lo := BitVec.signExtend 64 (c.t ||| (c.b.sshiftRight 12 + v_bounds_truth (c.t.slt (c.b &&& 4095#64)) + v_bounds_truth c.big &&& 3#64) <<< 12) } c.e)
      (cond (c.e.slt 51#64)
       (cond ((1#64).ult ((v_bounds_number_plus (v_bounds_number_up (v_bounds_signed (0#64 + (v_bounds_truth ((c.t ||| (c.b.sshiftRight 12 + v_bounds_truth (c.t.slt (c.b &&& 4095#64)) + v_bounds_truth c.big &&& 3#64) <<< 12).slt ((c.b.sshiftRight 11 - 1#64 &&& 7#64) <<< 11)) - v_bounds_truth ((BitVec.setWidth 64 (c.ad >>> min c.e.toNat 64) &&& 16383#64).slt ((c.b.sshiftRight 11 - 1#64 &&& 7#64) <<< 11))))) (c.e + 14#64)) (v_bounds_number_up { hi := 0#64, lo := BitVec.signExtend 64 (c.t ||| (c.b.sshiftRight 12 + v_bounds_truth (c.t.slt (c.b &&& 4095#64)) + v_bounds_truth c.big &&& 3#64) <<< 12) } c.e)).hi <<< 1 + (v_bounds_number_plus (v_bounds_number_up (v_bounds_signed (0#64 + (v_bounds_truth ((c.t ||| (c.b.sshiftRight 12 + v_bounds_truth (c.t.slt (c.b &&& 4095#64)) + v_bounds_truth c.big &&& 3#64) <<< 12).slt ((c.b.sshiftRight 11 - 1#64 &&& 7#64) <<< 11)) - v_bounds_truth ((BitVec.setWidth 64 (c.ad >>> min c.e.toNat 64) &&& 16383#64).slt ((c.b.sshiftRight 11 - 1#64 &&& 7#64) <<< 11))))) (c.e + 14#64)) (v_bounds_number_up { hi := 0#64, lo := BitVec.signExtend 64 (c.t ||| (c.b.sshiftRight 12 + v_bounds_truth (c.t.slt (c.b &&& 4095#64)) + v_bounds_truth c.big &&& 3#64) <<< 12) } c.e)).lo >>> 63 - (v_bounds_number_plus (v_bounds_number_up (v_bounds_signed (0#64 + (v_bounds_truth (c.b.slt ((c.b.sshiftRight 11 - 1#64 &&& 7#64) <<< 11)) - v_bounds_truth ((BitVec.setWidth 64 (c.ad >>> min c.e.toNat 64) &&& 16383#64).slt ((c.b.sshiftRight 11 - 1#64 &&& 7#64) <<< 11))))) (c.e + 14#64)) (v_bounds_number_up { hi := 0#64, lo := BitVec.signExtend 64 c.b } c.e)).lo >>> 63 &&& 3#64))
        (some (AV.agg [(AV.int (IntKind.u64) ((v_bounds_number_plus (v_bounds_number_up (v_bounds_signed (0#64 + (v_bounds_truth (c.b.slt ((c.b.sshiftRight 11 - 1#64 &&& 7#64) <<< 11)) - v_bounds_truth ((BitVec.setWidth 64 (c.ad >>> min c.e.toNat 64) &&& 16383#64).slt ((c.b.sshiftRight 11 - 1#64 &&& 7#64) <<< 11))))) (c.e + 14#64)) (v_bounds_number_up { hi := 0#64, lo := BitVec.signExtend 64 c.b } c.e)).lo)), (AV.int (IntKind.u64) ((v_bounds_number_plus (v_bounds_number_up (v_bounds_signed (0#64 + (v_bounds_truth ((c.t ||| (c.b.sshiftRight 12 + v_bounds_truth (c.t.slt (c.b &&& 4095#64)) + v_bounds_truth c.big &&& 3#64) <<< 12).slt ((c.b.sshiftRight 11 - 1#64 &&& 7#64) <<< 11)) - v_bounds_truth ((BitVec.setWidth 64 (c.ad >>> min c.e.toNat 64) &&& 16383#64).slt ((c.b.sshiftRight 11 - 1#64 &&& 7#64) <<< 11))))) (c.e + 14#64)) (v_bounds_number_up { hi := 0#64, lo := BitVec.signExtend 64 (c.t ||| (c.b.sshiftRight 12 + v_bounds_truth (c.t.slt (c.b &&& 4095#64)) + v_bounds_truth c.big &&& 3#64) <<< 12) } c.e)).lo)), (AV.bool ((v_bounds_number_plus (v_bounds_number_up (v_bounds_signed (0#64 + (v_bounds_truth ((c.t ||| (c.b.sshiftRight 12 + v_bounds_truth (c.t.slt (c.b &&& 4095#64)) + v_bounds_truth c.big &&& 3#64) <<< 12).slt ((c.b.sshiftRight 11 - 1#64 &&& 7#64) <<< 11)) - v_bounds_truth ((BitVec.setWidth 64 (c.ad >>> min c.e.toNat 64) &&& 16383#64).slt ((c.b.sshiftRight 11 - 1#64 &&& 7#64) <<< 11))))) (c.e + 14#64)) (v_bounds_number_up { hi := 0#64, lo := BitVec.signExtend 64 (c.t ||| (c.b.sshiftRight 12 + v_bounds_truth (c.t.slt (c.b &&& 4095#64)) + v_bounds_truth c.big &&& 3#64) <<< 12) } c.e)).hi ^^^ 1#64 == 1#64))]))
        (some (AV.agg [(AV.int (IntKind.u64) ((v_bounds_number_plus (v_bounds_number_up (v_bounds_signed (0#64 + (v_bounds_truth (c.b.slt ((c.b.sshiftRight 11 - 1#64 &&& 7#64) <<< 11)) - v_bounds_truth ((BitVec.setWidth 64 (c.ad >>> min c.e.toNat 64) &&& 16383#64).slt ((c.b.sshiftRight 11 - 1#64 &&& 7#64) <<< 11))))) (c.e + 14#64)) (v_bounds_number_up { hi := 0#64, lo := BitVec.signExtend 64 c.b } c.e)).lo)), (AV.int (IntKind.u64) ((v_bounds_number_plus (v_bounds_number_up (v_bounds_signed (0#64 + (v_bounds_truth ((c.t ||| (c.b.sshiftRight 12 + v_bounds_truth (c.t.slt (c.b &&& 4095#64)) + v_bounds_truth c.big &&& 3#64) <<< 12).slt ((c.b.sshiftRight 11 - 1#64 &&& 7#64) <<< 11)) - v_bounds_truth ((BitVec.setWidth 64 (c.ad >>> min c.e.toNat 64) &&& 16383#64).slt ((c.b.sshiftRight 11 - 1#64 &&& 7#64) <<< 11))))) (c.e + 14#64)) (v_bounds_number_up { hi := 0#64, lo := BitVec.signExtend 64 (c.t ||| (c.b.sshiftRight 12 + v_bounds_truth (c.t.slt (c.b &&& 4095#64)) + v_bounds_truth c.big &&& 3#64) <<< 12) } c.e)).lo)), (AV.bool ((v_bounds_number_plus (v_bounds_number_up (v_bounds_signed (0#64 + (v_bounds_truth ((c.t ||| (c.b.sshiftRight 12 + v_bounds_truth (c.t.slt (c.b &&& 4095#64)) + v_bounds_truth c.big &&& 3#64) <<< 12).slt ((c.b.sshiftRight 11 - 1#64 &&& 7#64) <<< 11)) - v_bounds_truth ((BitVec.setWidth 64 (c.ad >>> min c.e.toNat 64) &&& 16383#64).slt ((c.b.sshiftRight 11 - 1#64 &&& 7#64) <<< 11))))) (c.e + 14#64)) (v_bounds_number_up { hi := 0#64, lo := BitVec.signExtend 64 (c.t ||| (c.b.sshiftRight 12 + v_bounds_truth (c.t.slt (c.b &&& 4095#64)) + v_bounds_truth c.big &&& 3#64) <<< 12) } c.e)).hi == 1#64))])))
       (some (AV.agg [(AV.int (IntKind.u64) ((v_bounds_number_plus (v_bounds_number_up (v_bounds_signed (0#64 + (v_bounds_truth (c.b.slt ((c.b.sshiftRight 11 - 1#64 &&& 7#64) <<< 11)) - v_bounds_truth ((BitVec.setWidth 64 (c.ad >>> min c.e.toNat 64) &&& 16383#64).slt ((c.b.sshiftRight 11 - 1#64 &&& 7#64) <<< 11))))) (c.e + 14#64)) (v_bounds_number_up { hi := 0#64, lo := BitVec.signExtend 64 c.b } c.e)).lo)), (AV.int (IntKind.u64) ((v_bounds_number_plus (v_bounds_number_up (v_bounds_signed (0#64 + (v_bounds_truth ((c.t ||| (c.b.sshiftRight 12 + v_bounds_truth (c.t.slt (c.b &&& 4095#64)) + v_bounds_truth c.big &&& 3#64) <<< 12).slt ((c.b.sshiftRight 11 - 1#64 &&& 7#64) <<< 11)) - v_bounds_truth ((BitVec.setWidth 64 (c.ad >>> min c.e.toNat 64) &&& 16383#64).slt ((c.b.sshiftRight 11 - 1#64 &&& 7#64) <<< 11))))) (c.e + 14#64)) (v_bounds_number_up { hi := 0#64, lo := BitVec.signExtend 64 (c.t ||| (c.b.sshiftRight 12 + v_bounds_truth (c.t.slt (c.b &&& 4095#64)) + v_bounds_truth c.big &&& 3#64) <<< 12) } c.e)).lo)), (AV.bool ((v_bounds_number_plus (v_bounds_number_up (v_bounds_signed (0#64 + (v_bounds_truth ((c.t ||| (c.b.sshiftRight 12 + v_bounds_truth (c.t.slt (c.b &&& 4095#64)) + v_bounds_truth c.big &&& 3#64) <<< 12).slt ((c.b.sshiftRight 11 - 1#64 &&& 7#64) <<< 11)) - v_bounds_truth ((BitVec.setWidth 64 (c.ad >>> min c.e.toNat 64) &&& 16383#64).slt ((c.b.sshiftRight 11 - 1#64 &&& 7#64) <<< 11))))) (c.e + 14#64)) (v_bounds_number_up { hi := 0#64, lo := BitVec.signExtend 64 (c.t ||| (c.b.sshiftRight 12 + v_bounds_truth (c.t.slt (c.b &&& 4095#64)) + v_bounds_truth c.big &&& 3#64) <<< 12) } c.e)).hi == 1#64))])))
      none)
     none)
    none)
   none))
 none) by kernel_rfl).trans ((merR _ (Rg.av) (merG _ (Rg.av) (merR _ (Rg.av) (merR _ (Rg.av) (merR _ (Rg.av) (merR _ (Rg.av) (merR _ (Rg.av) (merG _ (Rg.av) (merG _ (Rg.av) rfl rfl) rfl)))))) (merR _ (Rg.av) (merR _ (Rg.av) (merR _ (Rg.av) (merR _ (Rg.av) (merG _ (Rg.av) (merG _ (Rg.av) rfl rfl) rfl))))))))
noncomputable def C_17 : Oracle := pureGE 17 (pure1 dCp (fun c => .tup [.bool (g_bounds_Of c), (v_bounds_Of c).av])) (C_41)
theorem C_17_snd : Snd Try.prog C_17 := pureGE_snd (pure1_gok (F := F17) (C_41_snd) Try.func17 (by kernel_rfl) run_17 (fun _ => rfl)) (C_41_snd)

/- ravelin/check.outside -/
def F33 : Cfg := { F := 400, roots := [0, 1, 2, 3], fl := ⟨true, false⟩ }
theorem run_33 : ∀ (c : Cp) (xat : BitVec 64) (n : BitVec 64), pureRun Try.prog C_17 F33 Try.f33 [c.av, .int .u64 xat, .int .i64 n] = cond (g_check_outside c xat n) (some ((v_check_outside c xat n).av)) none := fun c xat n =>
 (show pureRun Try.prog C_17 F33 Try.f33 [c.av, .int .u64 xat, .int .i64 n] = (cond (g_bounds_Of c)
 (some (AV.agg [(AV.bool (!v_bounds_In (v_bounds_Of c) xat n)), (AV.int (IntKind.i64) (1#64))]))
 none) by kernel_rfl).trans ((merR _ (Qu.av) rfl))
noncomputable def C_33 : Oracle := pureGE 33 (pure3 dCp dU64 dI64 (fun c xat n => .tup [.bool (g_check_outside c xat n), (v_check_outside c xat n).av])) (C_17)
theorem C_33_snd : Snd Try.prog C_33 := pureGE_snd (pure3_gok (F := F33) (C_17_snd) Try.func33 (by kernel_rfl) run_33 (fun _ _ _ => rfl)) (C_17_snd)

/- ravelin/check.Data$1 -/
def F31 : Cfg := { F := 400, roots := [0, 1, 2, 3], fl := ⟨true, false⟩ }
noncomputable def C_31 : Oracle := quietE Try.prog 31 Try.f31 F31 C_33 (C_33)
theorem C_31_snd : Snd Try.prog C_31 := quietE_snd Try.func31 (by kernel_rfl) C_33_snd C_33_snd

/- ravelin/check.Data -/
def F11 : Cfg := { F := 400, roots := [0, 1, 2, 3, 4, 5, 6, 7], fl := ⟨true, false⟩ }
theorem run_11 : ∀ (c : Cp) (xby : BitVec 64) (xat : BitVec 64) (n : BitVec 64) (load : Bool) (store : Bool), pureRun Try.prog C_31 F11 Try.f11 [c.av, .int .i64 xby, .int .u64 xat, .int .i64 n, .bool load, .bool store] = cond (g_check_Data c xby xat n load store) (some ((v_check_Data c xby xat n load store).av)) none := fun c xby xat n load store =>
 (show pureRun Try.prog C_31 F11 Try.f11 [c.av, .int .i64 xby, .int .u64 xat, .int .i64 n, .bool load, .bool store] = (cond (load)
 (cond (store)
  (cond (g_check_outside c xat n)
   (cond (!c.tag)
    (some (AV.agg [(AV.bool ((v_check_Refused xby 2#64).is)), (AV.int (IntKind.i64) ((v_check_Refused xby 2#64).cause)), (AV.int (IntKind.u64) ((v_check_Refused xby 2#64).val))]))
    (cond (!c.ty == 262143#64)
     (some (AV.agg [(AV.bool ((v_check_Refused xby 3#64).is)), (AV.int (IntKind.i64) ((v_check_Refused xby 3#64).cause)), (AV.int (IntKind.u64) ((v_check_Refused xby 3#64).val))]))
     (cond (c.per &&& 4#64 == 0#64)
      (some (AV.agg [(AV.bool ((v_check_Refused xby 18#64).is)), (AV.int (IntKind.i64) ((v_check_Refused xby 18#64).cause)), (AV.int (IntKind.u64) ((v_check_Refused xby 18#64).val))]))
      (cond (c.per &&& 8#64 == 0#64)
       (some (AV.agg [(AV.bool ((v_check_Refused xby 19#64).is)), (AV.int (IntKind.i64) ((v_check_Refused xby 19#64).cause)), (AV.int (IntKind.u64) ((v_check_Refused xby 19#64).val))]))
       (cond ((v_check_outside c xat n).no)
        (some (AV.agg [(AV.bool ((v_check_Refused xby (v_check_outside c xat n).why).is)), (AV.int (IntKind.i64) ((v_check_Refused xby (v_check_outside c xat n).why).cause)), (AV.int (IntKind.u64) ((v_check_Refused xby (v_check_outside c xat n).why).val))]))
        (some (AV.agg [(AV.bool (false)), (AV.int (IntKind.i64) (0#64)), (AV.int (IntKind.u64) (0#64))])))))))
   none)
  (cond (g_check_outside c xat n)
   (cond (!c.tag)
    (some (AV.agg [(AV.bool ((v_check_Refused xby 2#64).is)), (AV.int (IntKind.i64) ((v_check_Refused xby 2#64).cause)), (AV.int (IntKind.u64) ((v_check_Refused xby 2#64).val))]))
    (cond (!c.ty == 262143#64)
     (some (AV.agg [(AV.bool ((v_check_Refused xby 3#64).is)), (AV.int (IntKind.i64) ((v_check_Refused xby 3#64).cause)), (AV.int (IntKind.u64) ((v_check_Refused xby 3#64).val))]))
     (cond (c.per &&& 4#64 == 0#64)
      (some (AV.agg [(AV.bool ((v_check_Refused xby 18#64).is)), (AV.int (IntKind.i64) ((v_check_Refused xby 18#64).cause)), (AV.int (IntKind.u64) ((v_check_Refused xby 18#64).val))]))
      (cond ((v_check_outside c xat n).no)
       (some (AV.agg [(AV.bool ((v_check_Refused xby (v_check_outside c xat n).why).is)), (AV.int (IntKind.i64) ((v_check_Refused xby (v_check_outside c xat n).why).cause)), (AV.int (IntKind.u64) ((v_check_Refused xby (v_check_outside c xat n).why).val))]))
       (some (AV.agg [(AV.bool (false)), (AV.int (IntKind.i64) (0#64)), (AV.int (IntKind.u64) (0#64))]))))))
   none))
 (cond (store)
  (cond (g_check_outside c xat n)
   (cond (!c.tag)
    (some (AV.agg [(AV.bool ((v_check_Refused xby 2#64).is)), (AV.int (IntKind.i64) ((v_check_Refused xby 2#64).cause)), (AV.int (IntKind.u64) ((v_check_Refused xby 2#64).val))]))
    (cond (!c.ty == 262143#64)
     (some (AV.agg [(AV.bool ((v_check_Refused xby 3#64).is)), (AV.int (IntKind.i64) ((v_check_Refused xby 3#64).cause)), (AV.int (IntKind.u64) ((v_check_Refused xby 3#64).val))]))
     (cond (c.per &&& 8#64 == 0#64)
      (some (AV.agg [(AV.bool ((v_check_Refused xby 19#64).is)), (AV.int (IntKind.i64) ((v_check_Refused xby 19#64).cause)), (AV.int (IntKind.u64) ((v_check_Refused xby 19#64).val))]))
      (cond ((v_check_outside c xat n).no)
       (some (AV.agg [(AV.bool ((v_check_Refused xby (v_check_outside c xat n).why).is)), (AV.int (IntKind.i64) ((v_check_Refused xby (v_check_outside c xat n).why).cause)), (AV.int (IntKind.u64) ((v_check_Refused xby (v_check_outside c xat n).why).val))]))
       (some (AV.agg [(AV.bool (false)), (AV.int (IntKind.i64) (0#64)), (AV.int (IntKind.u64) (0#64))]))))))
   none)
  (cond (g_check_outside c xat n)
   (cond (!c.tag)
    (some (AV.agg [(AV.bool ((v_check_Refused xby 2#64).is)), (AV.int (IntKind.i64) ((v_check_Refused xby 2#64).cause)), (AV.int (IntKind.u64) ((v_check_Refused xby 2#64).val))]))
    (cond (!c.ty == 262143#64)
     (some (AV.agg [(AV.bool ((v_check_Refused xby 3#64).is)), (AV.int (IntKind.i64) ((v_check_Refused xby 3#64).cause)), (AV.int (IntKind.u64) ((v_check_Refused xby 3#64).val))]))
     (cond ((v_check_outside c xat n).no)
      (some (AV.agg [(AV.bool ((v_check_Refused xby (v_check_outside c xat n).why).is)), (AV.int (IntKind.i64) ((v_check_Refused xby (v_check_outside c xat n).why).cause)), (AV.int (IntKind.u64) ((v_check_Refused xby (v_check_outside c xat n).why).val))]))
      (some (AV.agg [(AV.bool (false)), (AV.int (IntKind.i64) (0#64)), (AV.int (IntKind.u64) (0#64))])))))
   none))) by kernel_rfl).trans ((merG _ (Tr.av) (merG _ (Tr.av) (merR _ (Tr.av) (merG _ (Tr.av) rfl (merG _ (Tr.av) rfl (merG _ (Tr.av) rfl (merG _ (Tr.av) rfl (merG _ (Tr.av) rfl rfl)))))) (merR _ (Tr.av) (merG _ (Tr.av) rfl (merG _ (Tr.av) rfl (merG _ (Tr.av) rfl (merG _ (Tr.av) rfl rfl)))))) (merG _ (Tr.av) (merR _ (Tr.av) (merG _ (Tr.av) rfl (merG _ (Tr.av) rfl (merG _ (Tr.av) rfl (merG _ (Tr.av) rfl rfl))))) (merR _ (Tr.av) (merG _ (Tr.av) rfl (merG _ (Tr.av) rfl (merG _ (Tr.av) rfl rfl)))))))
noncomputable def C_11 : Oracle := pureGE 11 (pure6 dCp dI64 dU64 dI64 dBool dBool (fun c xby xat n load store => .tup [.bool (g_check_Data c xby xat n load store), (v_check_Data c xby xat n load store).av])) (C_31)
theorem C_11_snd : Snd Try.prog C_11 := pureGE_snd (pure6_gok (F := F11) (C_31_snd) Try.func11 (by kernel_rfl) run_11 (fun _ _ _ _ _ _ => rfl)) (C_31_snd)

/- ravelin/ravelinref23.Refused -/
def F14 : Cfg := { F := 400, roots := [0, 1, 2], fl := ⟨true, false⟩ }
theorem run_14 : ∀ (xby : BitVec 64) (why : BitVec 64), pureRun Try.prog C_11 F14 Try.f14 [.int .i64 xby, .int .i64 why] = some ((v_r23_Refused xby why).av) := fun xby why =>
 (show pureRun Try.prog C_11 F14 Try.f14 [.int .i64 xby, .int .i64 why] = (some (AV.agg [(AV.bool (true)), (AV.int (IntKind.i64) (28#64)), (AV.int (IntKind.u64) (BitVec.signExtend 64 (32#64 * xby + why)))])) by kernel_rfl).trans (rfl)
noncomputable def C_14 : Oracle := pureE 14 (pure2 dI64 dI64 (fun xby why => (v_r23_Refused xby why).av)) (C_11)
theorem C_14_snd : Snd Try.prog C_14 := pureE_snd (pure2_ok (F := F14) (C_11_snd) Try.func14 (by kernel_rfl) run_14 (fun _ _ => rfl)) (C_11_snd)

/- ravelin/ravelinref03.notAbove -/
def F51 : Cfg := { F := 400, roots := [0, 1, 2], fl := ⟨true, false⟩ }
theorem run_51 : ∀ (a : W2) (xb : W2), pureRun Try.prog C_14 F51 Try.f51 [a.av, xb.av] = some (.bool (v_r03_notAbove a xb)) := fun a xb =>
 (show pureRun Try.prog C_14 F51 Try.f51 [a.av, xb.av] = (cond (a.hi.ult xb.hi)
 (some (AV.bool (true)))
 (cond (a.hi == xb.hi)
  (some (AV.bool (a.lo.ule xb.lo)))
  (some (AV.bool (false))))) by kernel_rfl).trans ((mer _ (fun p => .bool p) rfl (mer _ (fun p => .bool p) rfl rfl)))
noncomputable def C_51 : Oracle := pureE 51 (pure2 dW2 dW2 (fun a xb => .bool (v_r03_notAbove a xb))) (C_14)
theorem C_51_snd : Snd Try.prog C_51 := pureE_snd (pure2_ok (F := F51) (C_14_snd) Try.func51 (by kernel_rfl) run_51 (fun _ _ => rfl)) (C_14_snd)

/- ravelin/ravelinref03.one -/
def F52 : Cfg := { F := 400, roots := [0, 1], fl := ⟨true, false⟩ }
theorem run_52 : ∀ (xis : Bool), pureRun Try.prog C_51 F52 Try.f52 [.bool xis] = some (.int .i64 (v_r03_one xis)) := fun xis =>
 (show pureRun Try.prog C_51 F52 Try.f52 [.bool xis] = (cond (xis)
 (some (AV.int (IntKind.i64) (1#64)))
 (some (AV.int (IntKind.i64) (0#64)))) by kernel_rfl).trans ((mer _ (fun p => .int .i64 p) rfl rfl))
noncomputable def C_52 : Oracle := pureE 52 (pure1 dBool (fun xis => .int .i64 (v_r03_one xis))) (C_51)
theorem C_52_snd : Snd Try.prog C_52 := pureE_snd (pure1_ok (F := F52) (C_51_snd) Try.func52 (by kernel_rfl) run_52 (fun _ => rfl)) (C_51_snd)

/- ravelin/ravelinref03.top -/
def F53 : Cfg := { F := 400, roots := [0, 1], fl := ⟨true, false⟩ }
theorem run_53 : ∀ (r : Rg), pureRun Try.prog C_52 F53 Try.f53 [r.av] = some ((v_r03_top r).av) := fun r =>
 (show pureRun Try.prog C_52 F53 Try.f53 [r.av] = (some (AV.agg [(AV.int (IntKind.u64) (BitVec.signExtend 64 (v_r03_one r.over))), (AV.int (IntKind.u64) (r.top))])) by kernel_rfl).trans (rfl)
noncomputable def C_53 : Oracle := pureE 53 (pure1 dRg (fun r => (v_r03_top r).av)) (C_52)
theorem C_53_snd : Snd Try.prog C_53 := pureE_snd (pure1_ok (F := F53) (C_52_snd) Try.func53 (by kernel_rfl) run_53 (fun _ => rfl)) (C_52_snd)

/- ravelin/ravelinref03.In -/
def F34 : Cfg := { F := 400, roots := [0, 1, 2, 3, 4], fl := ⟨true, false⟩ }
theorem run_34 : ∀ (r : Rg) (xat : BitVec 64) (n : BitVec 64), pureRun Try.prog C_53 F34 Try.f34 [r.av, .int .u64 xat, .int .i64 n] = some (.bool (v_r03_In r xat n)) := fun r xat n =>
 (show pureRun Try.prog C_53 F34 Try.f34 [r.av, .int .u64 xat, .int .i64 n] = (cond (n.slt 0#64)
 (some (AV.bool (false)))
 (cond (xat.ult r.base)
  (some (AV.bool (false)))
  (some (AV.bool (v_r03_notAbove { hi := BitVec.signExtend 64 (v_r03_one ((xat + BitVec.signExtend 64 n).ult xat)), lo := xat + BitVec.signExtend 64 n } (v_r03_top r)))))) by kernel_rfl).trans ((mer _ (fun p => .bool p) rfl (mer _ (fun p => .bool p) rfl rfl)))
noncomputable def C_34 : Oracle := pureE 34 (pure3 dRg dU64 dI64 (fun r xat n => .bool (v_r03_In r xat n))) (C_53)
theorem C_34_snd : Snd Try.prog C_34 := pureE_snd (pure3_ok (F := F34) (C_53_snd) Try.func34 (by kernel_rfl) run_34 (fun _ _ _ => rfl)) (C_53_snd)

/- ravelin/ravelinref03.part -/
def F54 : Cfg := { F := 400, roots := [0, 1, 2, 3], fl := ⟨true, false⟩ }
theorem run_54 : ∀ (a : BitVec 64) (step : BitVec 64), pureRun Try.prog C_34 F54 Try.f54 [.int .u64 a, .int .i64 step] = some ((fun (p : BitVec 64 × Bool) => .tup [.int .u64 (p.1), .bool (p.2)]) (v_r03_part a step)) := fun a step =>
 (show pureRun Try.prog C_34 F54 Try.f54 [.int .u64 a, .int .i64 step] = (cond (step.slt 0#64)
 (some (AV.tup [(AV.int (IntKind.u64) (a - 1#64)), (AV.bool (a == 0#64))]))
 (some (AV.tup [(AV.int (IntKind.u64) (a + BitVec.signExtend 64 step)), (AV.bool (false))]))) by kernel_rfl).trans ((mer _ (fun (p : BitVec 64 × Bool) => .tup [.int .u64 (p.1), .bool (p.2)]) rfl rfl))
noncomputable def C_54 : Oracle := pureE 54 (pure2 dU64 dI64 (fun a step => (fun (p : BitVec 64 × Bool) => .tup [.int .u64 (p.1), .bool (p.2)]) (v_r03_part a step))) (C_34)
theorem C_54_snd : Snd Try.prog C_54 := pureE_snd (pure2_ok (F := F54) (C_34_snd) Try.func54 (by kernel_rfl) run_54 (fun _ _ => rfl)) (C_34_snd)

/- ravelin/ravelinref03.add -/
def F55 : Cfg := { F := 400, roots := [0, 1, 2, 3, 4], fl := ⟨true, false⟩ }
theorem run_55 : ∀ (a : W2) (xb : W2), pureRun Try.prog C_54 F55 Try.f55 [a.av, xb.av] = some ((v_r03_add a xb).av) := fun a xb =>
 (show pureRun Try.prog C_54 F55 Try.f55 [a.av, xb.av] = (cond ((a.lo + xb.lo).ult a.lo)
 (some (AV.agg [(AV.int (IntKind.u64) ((a.hi + xb.hi + 1#64) % 2#64)), (AV.int (IntKind.u64) (a.lo + xb.lo))]))
 (some (AV.agg [(AV.int (IntKind.u64) ((a.hi + xb.hi) % 2#64)), (AV.int (IntKind.u64) (a.lo + xb.lo))]))) by kernel_rfl).trans ((mer _ (W2.av) rfl rfl))
noncomputable def C_55 : Oracle := pureE 55 (pure2 dW2 dW2 (fun a xb => (v_r03_add a xb).av)) (C_54)
theorem C_55_snd : Snd Try.prog C_55 := pureE_snd (pure2_ok (F := F55) (C_54_snd) Try.func55 (by kernel_rfl) run_55 (fun _ _ => rfl)) (C_54_snd)

def FI_56 : Cfg := { F := 400, roots := [] }
noncomputable def LC_56 : Code := loopIn 0 Try.f56

theorem nx_56 (x : UpS) : codeA Try.prog (C_55) (drawA Try.prog FI_56.fl Try.f56.ntmps (C_55)) FI_56 Try.f56.ntmps LC_56 (tmOf [2, 6, 7, 8] (upT x)) (hpOf [0, 1] (upH x)) 2 (nextK 2 FI_56.roots [2, 6, 7, 8] [0, 1]) = stepN upT upH 2 (upStep x) :=
  (show _ = cond (upC x) (some (upT (upNext x), (upH (upNext x)).map some, 2)) none by kernel_rfl).trans (by unfold upStep; cases upC x <;> rfl)
theorem ls_56 (x : UpS) : codeA Try.prog (C_55) (drawA Try.prog FI_56.fl Try.f56.ntmps (C_55)) FI_56 Try.f56.ntmps LC_56 (tmOf [2, 6, 7, 8] (upT x)) (hpOf [0, 1] (upH x)) 2 (lastK [2, 6, 7, 8] [0, 1]) = stepE (fun _ => .exit 0) upT upH (fun _ => 2) (upStep x) :=
  (show _ = cond (upC x) none (some (Out.exit 0, upT x, (upH x).map some, 2)) by kernel_rfl).trans (by unfold upStep; cases upC x <;> rfl)
noncomputable def LL_56 : LoopLaw Try.prog (C_55) Try.f56.ntmps (drawA Try.prog FI_56.fl Try.f56.ntmps (C_55)) FI_56 LC_56 UpS UpS :=
  { N0 := 2, kT := [2, 6, 7, 8], kH := [0, 1], vT := upT, vH := upH, kE := [2, 6, 7, 8], hE := [0, 1], eT := upT, eH := upH, eN := fun _ => 2, oE := fun _ => .exit 0, step := upStep, f := v_up_loop, m := upM,
    next := nx_56, last := ls_56, ends := fun _ h => (nomatch h), whole := up_whole }

/- ravelin/ravelinref03.up -/
noncomputable def F56 : Cfg := { F := 400, roots := [0, 1, 2, 3, 4, 5], fl := ⟨true, false⟩, laws := [(0, LL_56.handler 0 upDec)] }

theorem fok_56 : FOK Try.prog Try.f56 F56 :=
  fok_one (b := .block 0 (.loop LC_56)) rfl (by kernel_rfl) (LL_56.handler_snd (C_55_snd) (drawA_sound (C_55_snd)) laws_nil 0 upDec upDec_ok)
theorem run_56 : ∀ (v : BitVec 64) (below : Bool) (n : BitVec 64), pureRun Try.prog C_55 F56 Try.f56 [.int .u64 v, .bool below, .int .i64 n] = some ((v_r03_up v below n).av) := fun v below n =>
 (show pureRun Try.prog C_55 F56 Try.f56 [.int .u64 v, .bool below, .int .i64 n] = (cond (below)
 (some (AV.agg [(AV.int (IntKind.u64) ((v_up_loop { n := n, i := 0#64, za := 0#64, zb := 0#64, uh := 1#64, ul := v }).uh)), (AV.int (IntKind.u64) ((v_up_loop { n := n, i := 0#64, za := 0#64, zb := 0#64, uh := 1#64, ul := v }).ul))]))
 (some (AV.agg [(AV.int (IntKind.u64) ((v_up_loop { n := n, i := 0#64, za := 0#64, zb := 0#64, uh := 0#64, ul := v }).uh)), (AV.int (IntKind.u64) ((v_up_loop { n := n, i := 0#64, za := 0#64, zb := 0#64, uh := 0#64, ul := v }).ul))]))) by kernel_rfl).trans ((mer _ (W2.av) rfl rfl))
noncomputable def C_56 : Oracle := pureE 56 (pure3 dU64 dBool dI64 (fun v below n => (v_r03_up v below n).av)) (C_55)
theorem C_56_snd : Snd Try.prog C_56 := pureE_snd (pure3_ok (F := F56) (C_55_snd) Try.func56 (by kernel_rfl) run_56 (fun _ _ _ => rfl) (hF := fok_56)) (C_55_snd)

/- ravelin/ravelinref03.Of -/
def F35 : Cfg := { F := 400, roots := [0, 1, 2, 3, 4, 5, 6, 7, 8, 9, 10, 11, 12], fl := ⟨true, false⟩ }
theorem run_35 : ∀ (c : Cp), pureRun Try.prog C_56 F35 Try.f35 [c.av] = some ((v_r03_Of c).av) := fun c =>
 (show pureRun Try.prog C_56 F35 Try.f35 [c.av] = (cond ((c.e + 14#64).slt 64#64)
 (cond (c.e.slt 51#64)
  (cond ((1#64).ult ((2#64 * (v_r03_add (v_r03_up (v_r03_part (c.ad >>> min (BitVec.signExtend 64 (c.e + 14#64)).toNat 64) (v_r03_one ((c.t + (c.b.sdiv 4096#64 + v_r03_one (c.t.slt (c.b.srem 4096#64)) + v_r03_one c.big).srem 4#64 * 4096#64).slt ((c.b.sdiv 2048#64 + 7#64).srem 8#64 * 2048#64)) - v_r03_one ((BitVec.setWidth 64 (c.ad >>> min (BitVec.signExtend 64 c.e).toNat 64 % 16384#64)).slt ((c.b.sdiv 2048#64 + 7#64).srem 8#64 * 2048#64)))).fst (v_r03_part (c.ad >>> min (BitVec.signExtend 64 (c.e + 14#64)).toNat 64) (v_r03_one ((c.t + (c.b.sdiv 4096#64 + v_r03_one (c.t.slt (c.b.srem 4096#64)) + v_r03_one c.big).srem 4#64 * 4096#64).slt ((c.b.sdiv 2048#64 + 7#64).srem 8#64 * 2048#64)) - v_r03_one ((BitVec.setWidth 64 (c.ad >>> min (BitVec.signExtend 64 c.e).toNat 64 % 16384#64)).slt ((c.b.sdiv 2048#64 + 7#64).srem 8#64 * 2048#64)))).snd (c.e + 14#64)) (v_r03_up (BitVec.signExtend 64 (c.t + (c.b.sdiv 4096#64 + v_r03_one (c.t.slt (c.b.srem 4096#64)) + v_r03_one c.big).srem 4#64 * 4096#64)) false c.e)).hi + (v_r03_add (v_r03_up (v_r03_part (c.ad >>> min (BitVec.signExtend 64 (c.e + 14#64)).toNat 64) (v_r03_one ((c.t + (c.b.sdiv 4096#64 + v_r03_one (c.t.slt (c.b.srem 4096#64)) + v_r03_one c.big).srem 4#64 * 4096#64).slt ((c.b.sdiv 2048#64 + 7#64).srem 8#64 * 2048#64)) - v_r03_one ((BitVec.setWidth 64 (c.ad >>> min (BitVec.signExtend 64 c.e).toNat 64 % 16384#64)).slt ((c.b.sdiv 2048#64 + 7#64).srem 8#64 * 2048#64)))).fst (v_r03_part (c.ad >>> min (BitVec.signExtend 64 (c.e + 14#64)).toNat 64) (v_r03_one ((c.t + (c.b.sdiv 4096#64 + v_r03_one (c.t.slt (c.b.srem 4096#64)) + v_r03_one c.big).srem 4#64 * 4096#64).slt ((c.b.sdiv 2048#64 + 7#64).srem 8#64 * 2048#64)) - v_r03_one ((BitVec.setWidth 64 (c.ad >>> min (BitVec.signExtend 64 c.e).toNat 64 % 16384#64)).slt ((c.b.sdiv 2048#64 + 7#64).srem 8#64 * 2048#64)))).snd (c.e + 14#64)) (v_r03_up (BitVec.signExtend 64 (c.t + (c.b.sdiv 4096#64 + v_r03_one (c.t.slt (c.b.srem 4096#64)) + v_r03_one c.big).srem 4#64 * 4096#64)) false c.e)).lo >>> 63 + 4#64 - (v_r03_add (v_r03_up (v_r03_part (c.ad >>> min (BitVec.signExtend 64 (c.e + 14#64)).toNat 64) (v_r03_one (c.b.slt ((c.b.sdiv 2048#64 + 7#64).srem 8#64 * 2048#64)) - v_r03_one ((BitVec.setWidth 64 (c.ad >>> min (BitVec.signExtend 64 c.e).toNat 64 % 16384#64)).slt ((c.b.sdiv 2048#64 + 7#64).srem 8#64 * 2048#64)))).fst (v_r03_part (c.ad >>> min (BitVec.signExtend 64 (c.e + 14#64)).toNat 64) (v_r03_one (c.b.slt ((c.b.sdiv 2048#64 + 7#64).srem 8#64 * 2048#64)) - v_r03_one ((BitVec.setWidth 64 (c.ad >>> min (BitVec.signExtend 64 c.e).toNat 64 % 16384#64)).slt ((c.b.sdiv 2048#64 + 7#64).srem 8#64 * 2048#64)))).snd (c.e + 14#64)) (v_r03_up (BitVec.signExtend 64 c.b) false c.e)).lo >>> 63) % 4#64))
   (some (AV.agg [(AV.int (IntKind.u64) ((v_r03_add (v_r03_up (v_r03_part (c.ad >>> min (BitVec.signExtend 64 (c.e + 14#64)).toNat 64) (v_r03_one (c.b.slt ((c.b.sdiv 2048#64 + 7#64).srem 8#64 * 2048#64)) - v_r03_one ((BitVec.setWidth 64 (c.ad >>> min (BitVec.signExtend 64 c.e).toNat 64 % 16384#64)).slt ((c.b.sdiv 2048#64 + 7#64).srem 8#64 * 2048#64)))).fst (v_r03_part (c.ad >>> min (BitVec.signExtend 64 (c.e + 14#64)).toNat 64) (v_r03_one (c.b.slt ((c.b.sdiv 2048#64 + 7#64).srem 8#64 * 2048#64)) - v_r03_one ((BitVec.setWidth 64 (c.ad >>> min (BitVec.signExtend 64 c.e).toNat 64 % 16384#64)).slt ((c.b.sdiv 2048#64 + 7#64).srem 8#64 * 2048#64)))).snd (c.e + 14#64)) (v_r03_up (BitVec.signExtend 64 c.b) false c.e)).lo)), (AV.int (IntKind.u64) ((v_r03_add (v_r03_up (v_r03_part (c.ad >>> min (BitVec.signExtend 64 (c.e + 14#64)).toNat 64) (v_r03_one ((c.t + (c.b.sdiv 4096#64 + v_r03_one (c.t.slt (c.b.srem 4096#64)) + v_r03_one c.big).srem 4#64 * 4096#64).slt ((c.b.sdiv 2048#64 + 7#64).srem 8#64 * 2048#64)) - v_r03_one ((BitVec.setWidth 64 (c.ad >>> min (BitVec.signExtend 64 c.e).toNat 64 % 16384#64)).slt ((c.b.sdiv 2048#64 + 7#64).srem 8#64 * 2048#64)))).fst (v_r03_part (c.ad >>> min (BitVec.signExtend 64 (c.e + 14#64)).toNat 64) (v_r03_one ((c.t + (c.b.sdiv 4096#64 + v_r03_one (c.t.slt (c.b.srem 4096#64)) + v_r03_one c.big).srem 4#64 * 4096#64).slt ((c.b.sdiv 2048#64 + 7#64).srem 8#64 * 2048#64)) - v_r03_one ((BitVec.setWidth 64 (c.ad >>> min (BitVec.signExtend 64 c.e).toNat 64 % 16384#64)).slt ((c.b.sdiv 2048#64 + 7#64).srem 8#64 * 2048#64)))).snd (c.e + 14#64)) (v_r03_up (BitVec.signExtend 64 (c.t + (c.b.sdiv 4096#64 + v_r03_one (c.t.slt (c.b.srem 4096#64)) + v_r03_one c.big).srem 4#64 * 4096#64)) false c.e)).lo)), (AV.bool (1#64 - (v_r03_add (v_r03_up (v_r03_part (c.ad >>> min (BitVec.signExtend 64 (c.e + 14#64)).toNat 64) (v_r03_one ((c.t + (c.b.sdiv 4096#64 + v_r03_one (c.t.slt (c.b.srem 4096#64)) + v_r03_one c.big).srem 4#64 * 4096#64).slt ((c.b.sdiv 2048#64 + 7#64).srem 8#64 * 2048#64)) - v_r03_one ((BitVec.setWidth 64 (c.ad >>> min (BitVec.signExtend 64 c.e).toNat 64 % 16384#64)).slt ((c.b.sdiv 2048#64 + 7#64).srem 8#64 * 2048#64)))).fst (v_r03_part (c.ad >>> min (BitVec.signExtend 64 (c.e + 14#64)).toNat 64) (v_r03_one ((c.t + (c.b.sdiv 4096#64 + v_r03_one (c.t.slt (c.b.srem 4096#64)) + v_r03_one c.big).srem 4#64 * 4096#64).slt ((c.b.sdiv 2048#64 + 7#64).srem 8#64 * 2048#64)) - v_r03_one ((BitVec.setWidth 64 (c.ad >>> min (BitVec.signExtend 64 c.e).toNat 64 % 16384#64)).slt ((c.b.sdiv 2048#64 + 7#64).srem 8#64 * 2048#64)))).snd (c.e + 14#64)) (v_r03_up (BitVec.signExtend 64 (c.t + (c.b.sdiv 4096#64 + v_r03_one (c.t.slt (c.b.srem 4096#64)) + v_r03_one c.big).srem 4#64 * 4096#64)) false c.e)).hi == 1#64))]))
   (some (AV.agg [(AV.int (IntKind.u64) ((v_r03_add (v_r03_up (v_r03_part (c.ad >>> min (BitVec.signExtend 64 (c.e + 14#64)).toNat 64) (v_r03_one (c.b.slt ((c.b.sdiv 2048#64 + 7#64).srem 8#64 * 2048#64)) - v_r03_one ((BitVec.setWidth 64 (c.ad >>> min (BitVec.signExtend 64 c.e).toNat 64 % 16384#64)).slt ((c.b.sdiv 2048#64 + 7#64).srem 8#64 * 2048#64)))).fst (v_r03_part (c.ad >>> min (BitVec.signExtend 64 (c.e + 14#64)).toNat 64) (v_r03_one (c.b.slt ((c.b.sdiv 2048#64 + 7#64).srem 8#64 * 2048#64)) - v_r03_one ((BitVec.setWidth 64 (c.ad >>> min (BitVec.signExtend 64 c.e).toNat 64 % 16384#64)).slt ((c.b.sdiv 2048#64 + 7#64).srem 8#64 * 2048#64)))).snd (c.e + 14#64)) (v_r03_up (BitVec.signExtend 64 c.b) false c.e)).lo)), (AV.int (IntKind.u64) ((v_r03_add (v_r03_up (v_r03_part (c.ad >>> min (BitVec.signExtend 64 (c.e + 14#64)).toNat 64) (v_r03_one ((c.t + (c.b.sdiv 4096#64 + v_r03_one (c.t.slt (c.b.srem 4096#64)) + v_r03_one c.big).srem 4#64 * 4096#64).slt ((c.b.sdiv 2048#64 + 7#64).srem 8#64 * 2048#64)) - v_r03_one ((BitVec.setWidth 64 (c.ad >>> min (BitVec.signExtend 64 c.e).toNat 64 % 16384#64)).slt ((c.b.sdiv 2048#64 + 7#64).srem 8#64 * 2048#64)))).fst (v_r03_part (c.ad >>> min (BitVec.signExtend 64 (c.e + 14#64)).toNat 64) (v_r03_one ((c.t + (c.b.sdiv 4096#64 + v_r03_one (c.t.slt (c.b.srem 4096#64)) + v_r03_one c.big).srem 4#64 * 4096#64).slt ((c.b.sdiv 2048#64 + 7#64).srem 8#64 * 2048#64)) - v_r03_one ((BitVec.setWidth 64 (c.ad >>> min (BitVec.signExtend 64 c.e).toNat 64 % 16384#64)).slt ((c.b.sdiv 2048#64 + 7#64).srem 8#64 * 2048#64)))).snd (c.e + 14#64)) (v_r03_up (BitVec.signExtend 64 (c.t + (c.b.sdiv 4096#64 + v_r03_one (c.t.slt (c.b.srem 4096#64)) + v_r03_one c.big).srem 4#64 * 4096#64)) false c.e)).lo)), (AV.bool ((v_r03_add (v_r03_up (v_r03_part (c.ad >>> min (BitVec.signExtend 64 (c.e + 14#64)).toNat 64) (v_r03_one ((c.t + (c.b.sdiv 4096#64 + v_r03_one (c.t.slt (c.b.srem 4096#64)) + v_r03_one c.big).srem 4#64 * 4096#64).slt ((c.b.sdiv 2048#64 + 7#64).srem 8#64 * 2048#64)) - v_r03_one ((BitVec.setWidth 64 (c.ad >>> min (BitVec.signExtend 64 c.e).toNat 64 % 16384#64)).slt ((c.b.sdiv 2048#64 + 7#64).srem 8#64 * 2048#64)))).fst (v_r03_part (c.ad >>> min (BitVec.signExtend 64 (c.e + 14#64)).toNat 64) (v_r03_one ((c.t + (c.b.sdiv 4096#64 + v_r03_one (c.t.slt (c.b.srem 4096#64)) + v_r03_one c.big).srem 4#64 * 4096#64).slt ((c.b.sdiv 2048#64 + 7#64).srem 8#64 * 2048#64)) - v_r03_one ((BitVec.setWidth 64 (c.ad >>> min (BitVec.signExtend 64 c.e).toNat 64 % 16384#64)).slt ((c.b.sdiv 2048#64 + 7#64).srem 8#64 * 2048#64)))).snd (c.e + 14#64)) (v_r03_up (BitVec.signExtend 64 (c.t + (c.b.sdiv 4096#64 + v_r03_one (c.t.slt (c.b.srem 4096#64)) + v_r03_one c.big).srem 4#64 * 4096#64)) false c.e)).hi == 1#64))])))
  (some (AV.agg [(AV.int (IntKind.u64) ((v_r03_add (v_r03_up (v_r03_part (c.ad >>> min (BitVec.signExtend 64 (c.e + 14#64)).toNat 64) (v_r03_one (c.b.slt ((c.b.sdiv 2048#64 + 7#64).srem 8#64 * 2048#64)) - v_r03_one ((BitVec.setWidth 64 (c.ad >>> min (BitVec.signExtend 64 c.e).toNat 64 % 16384#64)).slt ((c.b.sdiv 2048#64 + 7#64).srem 8#64 * 2048#64)))).fst (v_r03_part (c.ad >>> min (BitVec.signExtend 64 (c.e + 14#64)).toNat 64) (v_r03_one (c.b.slt ((c.b.sdiv 2048#64 + 7#64).srem 8#64 * 2048#64)) - v_r03_one ((BitVec.setWidth 64 (c.ad >>> min (BitVec.signExtend 64 c.e).toNat 64 % 16384#64)).slt ((c.b.sdiv 2048#64 + 7#64).srem 8#64 * 2048#64)))).snd (c.e + 14#64)) (v_r03_up (BitVec.signExtend 64 c.b) false c.e)).lo)), (AV.int (IntKind.u64) ((v_r03_add (v_r03_up (v_r03_part (c.ad >>> min (BitVec.signExtend 64 (c.e + 14#64)).toNat 64) (v_r03_one ((c.t + (c.b.sdiv 4096#64 + v_r03_one (c.t.slt (c.b.srem 4096#64)) + v_r03_one c.big).srem 4#64 * 4096#64).slt ((c.b.sdiv 2048#64 + 7#64).srem 8#64 * 2048#64)) - v_r03_one ((BitVec.setWidth 64 (c.ad >>> min (BitVec.signExtend 64 c.e).toNat 64 % 16384#64)).slt ((c.b.sdiv 2048#64 + 7#64).srem 8#64 * 2048#64)))).fst (v_r03_part (c.ad >>> min (BitVec.signExtend 64 (c.e + 14#64)).toNat 64) (v_r03_one ((c.t + (c.b.sdiv 4096#64 + v_r03_one (c.t.slt (c.b.srem 4096#64)) + v_r03_one c.big).srem 4#64 * 4096#64).slt ((c.b.sdiv 2048#64 + 7#64).srem 8#64 * 2048#64)) - v_r03_one ((BitVec.setWidth 64 (c.ad >>> min (BitVec.signExtend 64 c.e).toNat 64 % 16384#64)).slt ((c.b.sdiv 2048#64 + 7#64).srem 8#64 * 2048#64)))).snd (c.e + 14#64)) (v_r03_up (BitVec.signExtend 64 (c.t + (c.b.sdiv 4096#64 + v_r03_one (c.t.slt (c.b.srem 4096#64)) + v_r03_one c.big).srem 4#64 * 4096#64)) false c.e)).lo)), (AV.bool ((v_r03_add (v_r03_up (v_r03_part (c.ad >>> min (BitVec.signExtend 64 (c.e + 14#64)).toNat 64) (v_r03_one ((c.t + (c.b.sdiv 4096#64 + v_r03_one (c.t.slt (c.b.srem 4096#64)) + v_r03_one c.big).srem 4#64 * 4096#64).slt ((c.b.sdiv 2048#64 + 7#64).srem 8#64 * 2048#64)) - v_r03_one ((BitVec.setWidth 64 (c.ad >>> min (BitVec.signExtend 64 c.e).toNat 64 % 16384#64)).slt ((c.b.sdiv 2048#64 + 7#64).srem 8#64 * 2048#64)))).fst (v_r03_part (c.ad >>> min (BitVec.signExtend 64 (c.e + 14#64)).toNat 64) (v_r03_one ((c.t + (c.b.sdiv 4096#64 + v_r03_one (c.t.slt (c.b.srem 4096#64)) + v_r03_one c.big).srem 4#64 * 4096#64).slt ((c.b.sdiv 2048#64 + 7#64).srem 8#64 * 2048#64)) - v_r03_one ((BitVec.setWidth 64 (c.ad >>> min (BitVec.signExtend 64 c.e).toNat 64 % 16384#64)).slt ((c.b.sdiv 2048#64 + 7#64).srem 8#64 * 2048#64)))).snd (c.e + 14#64)) (v_r03_up (BitVec.signExtend 64 (c.t + (c.b.sdiv 4096#64 + v_r03_one (c.t.slt (c.b.srem 4096#64)) + v_r03_one c.big).srem 4#64 * 4096#64)) false c.e)).hi == 1#64))])))
 (cond (c.e.slt 51#64)
  (cond ((1#64).ult ((2#64 * (v_r03_add (v_r03_up (v_r03_part (0#64) (v_r03_one ((c.t + (c.b.sdiv 4096#64 + v_r03_one (c.t.slt (c.b.srem 4096#64)) + v_r03_one c.big).srem 4#64 * 4096#64).slt ((c.b.sdiv 2048#64 + 7#64).srem 8#64 * 2048#64)) - v_r03_one ((BitVec.setWidth 64 (c.ad >>> min (BitVec.signExtend 64 c.e).toNat 64 % 16384#64)).slt ((c.b.sdiv 2048#64 + 7#64).srem 8#64 * 2048#64)))).fst (v_r03_part (0#64) (v_r03_one ((c.t + (c.b.sdiv 4096#64 + v_r03_one (c.t.slt (c.b.srem 4096#64)) + v_r03_one c.big).srem 4#64 * 4096#64).slt ((c.b.sdiv 2048#64 + 7#64).srem 8#64 * 2048#64)) - v_r03_one ((BitVec.setWidth 64 (c.ad >>> min (BitVec.signExtend 64 c.e).toNat 64 % 16384#64)).slt ((c.b.sdiv 2048#64 + 7#64).srem 8#64 * 2048#64)))).snd (c.e + 14#64)) (v_r03_up (BitVec.signExtend 64 (c.t + (c.b.sdiv 4096#64 + v_r03_one (c.t.slt (c.b.srem 4096#64)) + v_r03_one c.big).srem 4#64 * 4096#64)) false c.e)).hi + (v_r03_add (v_r03_up (v_r03_part (0#64) (v_r03_one ((c.t + (c.b.sdiv 4096#64 + v_r03_one (c.t.slt (c.b.srem 4096#64)) + v_r03_one c.big).srem 4#64 * 4096#64).slt ((c.b.sdiv 2048#64 + 7#64).srem 8#64 * 2048#64)) - v_r03_one ((BitVec.setWidth 64 (c.ad >>> min (BitVec.signExtend 64 c.e).toNat 64 % 16384#64)).slt ((c.b.sdiv 2048#64 + 7#64).srem 8#64 * 2048#64)))).fst (v_r03_part (0#64) (v_r03_one ((c.t + (c.b.sdiv 4096#64 + v_r03_one (c.t.slt (c.b.srem 4096#64)) + v_r03_one c.big).srem 4#64 * 4096#64).slt ((c.b.sdiv 2048#64 + 7#64).srem 8#64 * 2048#64)) - v_r03_one ((BitVec.setWidth 64 (c.ad >>> min (BitVec.signExtend 64 c.e).toNat 64 % 16384#64)).slt ((c.b.sdiv 2048#64 + 7#64).srem 8#64 * 2048#64)))).snd (c.e + 14#64)) (v_r03_up (BitVec.signExtend 64 (c.t + (c.b.sdiv 4096#64 + v_r03_one (c.t.slt (c.b.srem 4096#64)) + v_r03_one c.big).srem 4#64 * 4096#64)) false c.e)).lo >>> 63 + 4#64 - (v_r03_add (v_r03_up (v_r03_part (0#64) (v_r03_one (c.b.slt ((c.b.sdiv 2048#64 + 7#64).srem 8#64 * 2048#64)) - v_r03_one ((BitVec.setWidth 64 (c.ad >>> min (BitVec.signExtend 64 c.e).toNat 64 % 16384#64)).slt ((c.b.sdiv 2048#64 + 7#64).srem 8#64 * 2048#64)))).fst (v_r03_part (0#64) (v_r03_one (c.b.slt ((c.b.sdiv 2048#64 + 7#64).srem 8#64 * 2048#64)) - v_r03_one ((BitVec.setWidth 64 (c.ad >>> min (BitVec.signExtend 64 c.e).toNat 64 % 16384#64)).slt ((c.b.sdiv 2048#64 + 7#64).srem 8#64 * 2048#64)))).snd (c.e + 14#64)) (v_r03_up (BitVec.signExtend 64 c.b) false c.e)).lo >>> 63) % 4#64))
   (some (AV.agg [(AV.int (IntKind.u64) ((v_r03_add (v_r03_up (v_r03_part (0#64) (v_r03_one (c.b.slt ((c.b.sdiv 2048#64 + 7#64).srem 8#64 * 2048#64)) - v_r03_one ((BitVec.setWidth 64 (c.ad >>> min (BitVec.signExtend 64 c.e).toNat 64 % 16384#64)).slt ((c.b.sdiv 2048#64 + 7#64).srem 8#64 * 2048#64)))).fst (v_r03_part (0#64) (v_r03_one (c.b.slt ((c.b.sdiv 2048#64 + 7#64).srem 8#64 * 2048#64)) - v_r03_one ((BitVec.setWidth 64 (c.ad >>> min (BitVec.signExtend 64 c.e).toNat 64 % 16384#64)).slt ((c.b.sdiv 2048#64 + 7#64).srem 8#64 * 2048#64)))).snd (c.e + 14#64)) (v_r03_up (BitVec.signExtend 64 c.b) false c.e)).lo)), (AV.int (IntKind.u64) ((v_r03_add (v_r03_up (v_r03_part (0#64) (v_r03_one ((c.t + (c.b.sdiv 4096#64 + v_r03_one (c.t.slt (c.b.srem 4096#64)) + v_r03_one c.big).srem 4#64 * 4096#64).slt ((c.b.sdiv 2048#64 + 7#64).srem 8#64 * 2048#64)) - v_r03_one ((BitVec.setWidth 64 (c.ad >>> min (BitVec.signExtend 64 c.e).toNat 64 % 16384#64)).slt ((c.b.sdiv 2048#64 + 7#64).srem 8#64 * 2048#64)))).fst (v_r03_part (0#64) (v_r03_one ((c.t + (c.b.sdiv 4096#64 + v_r03_one (c.t.slt (c.b.srem 4096#64)) + v_r03_one c.big).srem 4#64 * 4096#64).slt ((c.b.sdiv 2048#64 + 7#64).srem 8#64 * 2048#64)) - v_r03_one ((BitVec.setWidth 64 (c.ad >>> min (BitVec.signExtend 64 c.e).toNat 64 % 16384#64)).slt ((c.b.sdiv 2048#64 + 7#64).srem 8#64 * 2048#64)))).snd (c.e + 14#64)) (v_r03_up (BitVec.signExtend 64 (c.t + (c.b.sdiv 4096#64 + v_r03_one (c.t.slt (c.b.srem 4096#64)) + v_r03_one c.big).srem 4#64 * 4096#64)) false c.e)).lo)), (AV.bool (1#64 - (v_r03_add (v_r03_up (v_r03_part (0#64) (v_r03_one ((c.t + (c.b.sdiv 4096#64 + v_r03_one (c.t.slt (c.b.srem 4096#64)) + v_r03_one c.big).srem 4#64 * 4096#64).slt ((c.b.sdiv 2048#64 + 7#64).srem 8#64 * 2048#64)) - v_r03_one ((BitVec.setWidth 64 (c.ad >>> min (BitVec.signExtend 64 c.e).toNat 64 % 16384#64)).slt ((c.b.sdiv 2048#64 + 7#64).srem 8#64 * 2048#64)))).fst (v_r03_part (0#64) (v_r03_one ((c.t + (c.b.sdiv 4096#64 + v_r03_one (c.t.slt (c.b.srem 4096#64)) + v_r03_one c.big).srem 4#64 * 4096#64).slt ((c.b.sdiv 2048#64 + 7#64).srem 8#64 * 2048#64)) - v_r03_one ((BitVec.setWidth 64 (c.ad >>> min (BitVec.signExtend 64 c.e).toNat 64 % 16384#64)).slt ((c.b.sdiv 2048#64 + 7#64).srem 8#64 * 2048#64)))).snd (c.e + 14#64)) (v_r03_up (BitVec.signExtend 64 (c.t + (c.b.sdiv 4096#64 + v_r03_one (c.t.slt (c.b.srem 4096#64)) + v_r03_one c.big).srem 4#64 * 4096#64)) false c.e)).hi == 1#64))]))
   (some (AV.agg [(AV.int (IntKind.u64) ((v_r03_add (v_r03_up (v_r03_part (0#64) (v_r03_one (c.b.slt ((c.b.sdiv 2048#64 + 7#64).srem 8#64 * 2048#64)) - v_r03_one ((BitVec.setWidth 64 (c.ad >>> min (BitVec.signExtend 64 c.e).toNat 64 % 16384#64)).slt ((c.b.sdiv 2048#64 + 7#64).srem 8#64 * 2048#64)))).fst (v_r03_part (0#64) (v_r03_one (c.b.slt ((c.b.sdiv 2048#64 + 7#64).srem 8#64 * 2048#64)) - v_r03_one ((BitVec.setWidth 64 (c.ad >>> min (BitVec.signExtend 64 c.e).toNat 64 % 16384#64)).slt ((c.b.sdiv 2048#64 + 7#64).srem 8#64 * 2048#64)))).snd (c.e + 14#64)) (v_r03_up (BitVec.signExtend 64 c.b) false c.e)).lo)), (AV.int (IntKind.u64) ((v_r03_add (v_r03_up (v_r03_part (0#64) (v_r03_one ((c.t + (c.b.sdiv 4096#64 + v_r03_one (c.t.slt (c.b.srem 4096#64)) + v_r03_one c.big).srem 4#64 * 4096#64).slt ((c.b.sdiv 2048#64 + 7#64).srem 8#64 * 2048#64)) - v_r03_one ((BitVec.setWidth 64 (c.ad >>> min (BitVec.signExtend 64 c.e).toNat 64 % 16384#64)).slt ((c.b.sdiv 2048#64 + 7#64).srem 8#64 * 2048#64)))).fst (v_r03_part (0#64) (v_r03_one ((c.t + (c.b.sdiv 4096#64 + v_r03_one (c.t.slt (c.b.srem 4096#64)) + v_r03_one c.big).srem 4#64 * 4096#64).slt ((c.b.sdiv 2048#64 + 7#64).srem 8#64 * 2048#64)) - v_r03_one ((BitVec.setWidth 64 (c.ad >>> min (BitVec.signExtend 64 c.e).toNat 64 % 16384#64)).slt ((c.b.sdiv 2048#64 + 7#64).srem 8#64 * 2048#64)))).snd (c.e + 14#64)) (v_r03_up (BitVec.signExtend 64 (c.t + (c.b.sdiv 4096#64 + v_r03_one (c.t.slt (c.b.srem 4096#64)) + v_r03_one c.big).srem 4#64 * 4096#64)) false c.e)).lo)), (AV.bool ((v_r03_add (v_r03_up (v_r03_part (0#64) (v_r03_one ((c.t + (c.b.sdiv 4096#64 + v_r03_one (c.t.slt (c.b.srem 4096#64)) + v_r03_one c.big).srem 4#64 * 4096#64).slt ((c.b.sdiv 2048#64 + 7#64).srem 8#64 * 2048#64)) - v_r03_one ((BitVec.setWidth 64 (c.ad >>> min (BitVec.signExtend 64 c.e).toNat 64 % 16384#64)).slt ((c.b.sdiv 2048#64 + 7#64).srem 8#64 * 2048#64)))).fst (v_r03_part (0#64) (v_r03_one ((c.t + (c.b.sdiv 4096#64 + v_r03_one (c.t.slt (c.b.srem 4096#64)) + v_r03_one c.big).srem 4#64 * 4096#64).slt ((c.b.sdiv 2048#64 + 7#64).srem 8#64 * 2048#64)) - v_r03_one ((BitVec.setWidth 64 (c.ad >>> min (BitVec.signExtend 64 c.e).toNat 64 % 16384#64)).slt ((c.b.sdiv 2048#64 + 7#64).srem 8#64 * 2048#64)))).snd (c.e + 14#64)) (v_r03_up (BitVec.signExtend 64 (c.t + (c.b.sdiv 4096#64 + v_r03_one (c.t.slt (c.b.srem 4096#64)) + v_r03_one c.big).srem 4#64 * 4096#64)) false c.e)).hi == 1#64))])))
  (some (AV.agg [(AV.int (IntKind.u64) ((v_r03_add (v_r03_up (v_r03_part (0#64) (v_r03_one (c.b.slt ((c.b.sdiv 2048#64 + 7#64).srem 8#64 * 2048#64)) - v_r03_one ((BitVec.setWidth 64 (c.ad >>> min (BitVec.signExtend 64 c.e).toNat 64 % 16384#64)).slt ((c.b.sdiv 2048#64 + 7#64).srem 8#64 * 2048#64)))).fst (v_r03_part (0#64) (v_r03_one (c.b.slt ((c.b.sdiv 2048#64 + 7#64).srem 8#64 * 2048#64)) - v_r03_one ((BitVec.setWidth 64 (c.ad >>> min (BitVec.signExtend 64 c.e).toNat 64 % 16384#64)).slt ((c.b.sdiv 2048#64 + 7#64).srem 8#64 * 2048#64)))).snd (c.e + 14#64)) (v_r03_up (BitVec.signExtend 64 c.b) false c.e)).lo)), (AV.int (IntKind.u64) ((v_r03_add (v_r03_up (v_r03_part (0#64) (v_r03_one ((c.t + (c.b.sdiv 4096#64 + v_r03_one (c.t.slt (c.b.srem 4096#64)) + v_r03_one c.big).srem 4#64 * 4096#64).slt ((c.b.sdiv 2048#64 + 7#64).srem 8#64 * 2048#64)) - v_r03_one ((BitVec.setWidth 64 (c.ad >>> min (BitVec.signExtend 64 c.e).toNat 64 % 16384#64)).slt ((c.b.sdiv 2048#64 + 7#64).srem 8#64 * 2048#64)))).fst (v_r03_part (0#64) (v_r03_one ((c.t + (c.b.sdiv 4096#64 + v_r03_one (c.t.slt (c.b.srem 4096#64)) + v_r03_one c.big).srem 4#64 * 4096#64).slt ((c.b.sdiv 2048#64 + 7#64).srem 8#64 * 2048#64)) - v_r03_one ((BitVec.setWidth 64 (c.ad >>> min (BitVec.signExtend 64 c.e).toNat 64 % 16384#64)).slt ((c.b.sdiv 2048#64 + 7#64).srem 8#64 * 2048#64)))).snd (c.e + 14#64)) (v_r03_up (BitVec.signExtend 64 (c.t + (c.b.sdiv 4096#64 + v_r03_one (c.t.slt (c.b.srem 4096#64)) + v_r03_one c.big).srem 4#64 * 4096#64)) false c.e)).lo)), (AV.bool ((v_r03_add (v_r03_up (v_r03_part (0#64) (v_r03_one ((c.t + (c.b.sdiv 4096#64 + v_r03_one (c.t.slt (c.b.srem 4096#64)) + v_r03_one c.big).srem 4#64 * 4096#64).slt ((c.b.sdiv 2048#64 + 7#64).srem 8#64 * 2048#64)) - v_r03_one ((BitVec.setWidth 64 (c.ad >>> min (BitVec.signExtend 64 c.e).toNat 64 % 16384#64)).slt ((c.b.sdiv 2048#64 + 7#64).srem 8#64 * 2048#64)))).fst (v_r03_part (0#64) (v_r03_one ((c.t + (c.b.sdiv 4096#64 + v_r03_one (c.t.slt (c.b.srem 4096#64)) + v_r03_one c.big).srem 4#64 * 4096#64).slt ((c.b.sdiv 2048#64 + 7#64).srem 8#64 * 2048#64)) - v_r03_one ((BitVec.setWidth 64 (c.ad >>> min (BitVec.signExtend 64 c.e).toNat 64 % 16384#64)).slt ((c.b.sdiv 2048#64 + 7#64).srem 8#64 * 2048#64)))).snd (c.e + 14#64)) (v_r03_up (BitVec.signExtend 64 (c.t + (c.b.sdiv 4096#64 + v_r03_one (c.t.slt (c.b.srem 4096#64)) + v_r03_one c.big).srem 4#64 * 4096#64)) false c.e)).hi == 1#64))])))) by kernel_rfl).trans ((mer _ (Rg.av) (mer _ (Rg.av) (mer _ (Rg.av) rfl rfl) rfl) (mer _ (Rg.av) (mer _ (Rg.av) rfl rfl) rfl)))
noncomputable def C_35 : Oracle := pureE 35 (pure1 dCp (fun c => (v_r03_Of c).av)) (C_56)
theorem C_35_snd : Snd Try.prog C_35 := pureE_snd (pure1_ok (F := F35) (C_56_snd) Try.func35 (by kernel_rfl) run_35 (fun _ => rfl)) (C_56_snd)

/- ravelin/ravelinref23.Data -/
def F12 : Cfg := { F := 400, roots := [0, 1, 2, 3, 4, 5, 6], fl := ⟨true, false⟩ }
theorem run_12 : ∀ (c : Cp) (xby : BitVec 64) (xat : BitVec 64) (n : BitVec 64) (load : Bool) (store : Bool), pureRun Try.prog C_35 F12 Try.f12 [c.av, .int .i64 xby, .int .u64 xat, .int .i64 n, .bool load, .bool store] = some ((v_r23_Data c xby xat n load store).av) := fun c xby xat n load store =>
 (show pureRun Try.prog C_35 F12 Try.f12 [c.av, .int .i64 xby, .int .u64 xat, .int .i64 n, .bool load, .bool store] = (cond (!c.tag)
 (some (AV.agg [(AV.bool ((v_r23_Refused xby 2#64).is)), (AV.int (IntKind.i64) ((v_r23_Refused xby 2#64).cause)), (AV.int (IntKind.u64) ((v_r23_Refused xby 2#64).val))]))
 (cond (!c.ty == 262143#64)
  (some (AV.agg [(AV.bool ((v_r23_Refused xby 3#64).is)), (AV.int (IntKind.i64) ((v_r23_Refused xby 3#64).cause)), (AV.int (IntKind.u64) ((v_r23_Refused xby 3#64).val))]))
  (cond (load)
   (cond (c.per &&& 4#64 == 0#64)
    (some (AV.agg [(AV.bool ((v_r23_Refused xby 18#64).is)), (AV.int (IntKind.i64) ((v_r23_Refused xby 18#64).cause)), (AV.int (IntKind.u64) ((v_r23_Refused xby 18#64).val))]))
    (cond (store)
     (cond (c.per &&& 8#64 == 0#64)
      (some (AV.agg [(AV.bool ((v_r23_Refused xby 19#64).is)), (AV.int (IntKind.i64) ((v_r23_Refused xby 19#64).cause)), (AV.int (IntKind.u64) ((v_r23_Refused xby 19#64).val))]))
      (cond (!v_r03_In (v_r03_Of c) xat n)
       (some (AV.agg [(AV.bool ((v_r23_Refused xby 1#64).is)), (AV.int (IntKind.i64) ((v_r23_Refused xby 1#64).cause)), (AV.int (IntKind.u64) ((v_r23_Refused xby 1#64).val))]))
       (some (AV.agg [(AV.bool (false)), (AV.int (IntKind.i64) (0#64)), (AV.int (IntKind.u64) (0#64))]))))
     (cond (!v_r03_In (v_r03_Of c) xat n)
      (some (AV.agg [(AV.bool ((v_r23_Refused xby 1#64).is)), (AV.int (IntKind.i64) ((v_r23_Refused xby 1#64).cause)), (AV.int (IntKind.u64) ((v_r23_Refused xby 1#64).val))]))
      (some (AV.agg [(AV.bool (false)), (AV.int (IntKind.i64) (0#64)), (AV.int (IntKind.u64) (0#64))])))))
   (cond (store)
    (cond (c.per &&& 8#64 == 0#64)
     (some (AV.agg [(AV.bool ((v_r23_Refused xby 19#64).is)), (AV.int (IntKind.i64) ((v_r23_Refused xby 19#64).cause)), (AV.int (IntKind.u64) ((v_r23_Refused xby 19#64).val))]))
     (cond (!v_r03_In (v_r03_Of c) xat n)
      (some (AV.agg [(AV.bool ((v_r23_Refused xby 1#64).is)), (AV.int (IntKind.i64) ((v_r23_Refused xby 1#64).cause)), (AV.int (IntKind.u64) ((v_r23_Refused xby 1#64).val))]))
      (some (AV.agg [(AV.bool (false)), (AV.int (IntKind.i64) (0#64)), (AV.int (IntKind.u64) (0#64))]))))
    (cond (!v_r03_In (v_r03_Of c) xat n)
     (some (AV.agg [(AV.bool ((v_r23_Refused xby 1#64).is)), (AV.int (IntKind.i64) ((v_r23_Refused xby 1#64).cause)), (AV.int (IntKind.u64) ((v_r23_Refused xby 1#64).val))]))
     (some (AV.agg [(AV.bool (false)), (AV.int (IntKind.i64) (0#64)), (AV.int (IntKind.u64) (0#64))]))))))) by kernel_rfl).trans ((mer _ (Tr.av) rfl (mer _ (Tr.av) rfl (mer _ (Tr.av) (mer _ (Tr.av) rfl (mer _ (Tr.av) (mer _ (Tr.av) rfl (mer _ (Tr.av) rfl rfl)) (mer _ (Tr.av) rfl rfl))) (mer _ (Tr.av) (mer _ (Tr.av) rfl (mer _ (Tr.av) rfl rfl)) (mer _ (Tr.av) rfl rfl))))))
noncomputable def C_12 : Oracle := pureE 12 (pure6 dCp dI64 dU64 dI64 dBool dBool (fun c xby xat n load store => (v_r23_Data c xby xat n load store).av)) (C_35)
theorem C_12_snd : Snd Try.prog C_12 := pureE_snd (pure6_ok (F := F12) (C_35_snd) Try.func12 (by kernel_rfl) run_12 (fun _ _ _ _ _ _ => rfl)) (C_35_snd)

/- math/bits.Len64 -/
def F58 : Cfg := { F := 400, roots := [0, 1], fl := ⟨true, false⟩ }
noncomputable def C_58 : Oracle := pureE 58 (pure1 dU64 (fun a => .int .i64 (v_bits_Len64 a))) (C_12)
theorem run_58 : ∀ a : BitVec 64, pureRun Try.prog C_12 F58 Try.f58 [.int .u64 a] = some (.int .i64 (v_bits_Len64 a)) := fun a => (show pureRun Try.prog C_12 F58 Try.f58 [.int .u64 a] = ltree a by kernel_rfl).trans (ltree_eq a)
theorem C_58_snd : Snd Try.prog C_58 := pureE_snd (pure1_ok (F := F58) (C_12_snd) Try.func58 (by kernel_rfl) run_58 (fun _ => rfl)) (C_12_snd)

/- (ravelin/bounds.number).down -/
def F60 : Cfg := { F := 400, roots := [0, 1, 2, 3], fl := ⟨true, false⟩ }
theorem run_60 : ∀ (a : W2) (n : BitVec 64), pureRun Try.prog C_58 F60 Try.f60 [a.av, .int .i64 n] = cond (g_bounds_number_down a n) (some ((fun (p : W2 × Bool) => .tup [((p.1)).av, .bool (p.2)]) (v_bounds_number_down a n))) none := fun a n =>
 (show pureRun Try.prog C_58 F60 Try.f60 [a.av, .int .i64 n] = (cond (n == 0#64)
 (some (AV.tup [(AV.agg [(AV.int (IntKind.u64) (a.hi)), (AV.int (IntKind.u64) (a.lo))]), (AV.bool (false))]))
 (cond (nonneg IntKind.i64 n)
  (cond (nonneg IntKind.i64 (64#64 - n))
   (cond (nonneg IntKind.i64 (64#64 - n))
    (some (AV.tup [(AV.agg [(AV.int (IntKind.u64) (0#64)), (AV.int (IntKind.u64) (a.lo >>> min n.toNat 64 ||| a.hi <<< min (64#64 - n).toNat 64))]), (AV.bool (!a.lo <<< min (64#64 - n).toNat 64 == 0#64))]))
    none)
   none)
  none)) by kernel_rfl).trans ((merG _ (fun (p : W2 × Bool) => .tup [((p.1)).av, .bool (p.2)]) rfl (merR _ (fun (p : W2 × Bool) => .tup [((p.1)).av, .bool (p.2)]) (merR _ (fun (p : W2 × Bool) => .tup [((p.1)).av, .bool (p.2)]) (merR _ (fun (p : W2 × Bool) => .tup [((p.1)).av, .bool (p.2)]) rfl)))))
noncomputable def C_60 : Oracle := pureGE 60 (pure2 dW2 dI64 (fun a n => .tup [.bool (g_bounds_number_down a n), (fun (p : W2 × Bool) => .tup [((p.1)).av, .bool (p.2)]) (v_bounds_number_down a n)])) (C_58)
theorem C_60_snd : Snd Try.prog C_60 := pureGE_snd (pure2_gok (F := F60) (C_58_snd) Try.func60 (by kernel_rfl) run_60 (fun _ _ => rfl)) (C_58_snd)

/- ravelin/bounds.mantissas -/
def F59 : Cfg := { F := 400, roots := [0, 1, 2, 3, 4, 5, 6, 7, 8], fl := ⟨true, false⟩ }
theorem run_59 : ∀ (xfrom : W2) (xto : W2) (xe : BitVec 64), pureRun Try.prog C_60 F59 Try.f59 [xfrom.av, xto.av, .int .i64 xe] = cond (g_bounds_mantissas xfrom xto xe) (some ((fun (p : BitVec 64 × BitVec 64 × Bool × Bool) => .tup [.int .i64 (p.1), .int .i64 (p.2.1), .bool (p.2.2.1), .bool (p.2.2.2)]) (v_bounds_mantissas xfrom xto xe))) none := fun xfrom xto xe =>
 (show pureRun Try.prog C_60 F59 Try.f59 [xfrom.av, xto.av, .int .i64 xe] = (cond (g_bounds_number_down xfrom (xe + 3#64))
 (cond (g_bounds_number_down xto (xe + 3#64))
  (some (AV.tup [(AV.int (IntKind.i64) (BitVec.setWidth 64 ((v_bounds_number_down xfrom (xe + 3#64)).fst.lo &&& 2047#64))), (AV.int (IntKind.i64) (BitVec.setWidth 64 ((v_bounds_number_down xto (xe + 3#64)).fst.lo &&& 2047#64) + v_bounds_truth (v_bounds_number_down xto (xe + 3#64)).snd &&& 2047#64)), (AV.bool ((v_bounds_number_down xfrom (xe + 3#64)).snd)), (AV.bool ((v_bounds_number_down xto (xe + 3#64)).snd))]))
  none)
 none) by kernel_rfl).trans ((merR _ (fun (p : BitVec 64 × BitVec 64 × Bool × Bool) => .tup [.int .i64 (p.1), .int .i64 (p.2.1), .bool (p.2.2.1), .bool (p.2.2.2)]) (merR _ (fun (p : BitVec 64 × BitVec 64 × Bool × Bool) => .tup [.int .i64 (p.1), .int .i64 (p.2.1), .bool (p.2.2.1), .bool (p.2.2.2)]) rfl)))
noncomputable def C_59 : Oracle := pureGE 59 (pure3 dW2 dW2 dI64 (fun xfrom xto xe => .tup [.bool (g_bounds_mantissas xfrom xto xe), (fun (p : BitVec 64 × BitVec 64 × Bool × Bool) => .tup [.int .i64 (p.1), .int .i64 (p.2.1), .bool (p.2.2.1), .bool (p.2.2.2)]) (v_bounds_mantissas xfrom xto xe)])) (C_60)
theorem C_59_snd : Snd Try.prog C_59 := pureGE_snd (pure3_gok (F := F59) (C_60_snd) Try.func59 (by kernel_rfl) run_59 (fun _ _ _ => rfl)) (C_60_snd)

/- ravelin/bounds.Lay -/
def F47 : Cfg := { F := 400, roots := [0, 1, 2, 3, 4, 5, 6, 7, 8, 9, 10], fl := ⟨true, false⟩ }
theorem run_47 : ∀ (c : Cp) (n : BitVec 64), pureRun Try.prog C_59 F47 Try.f47 [c.av, .int .u64 n] = cond (g_bounds_Lay c n) (some ((fun (p : Cp × Bool) => .tup [((p.1)).av, .bool (p.2)]) (v_bounds_Lay c n))) none := fun c n =>
 (show pureRun Try.prog C_59 F47 Try.f47 [c.av, .int .u64 n] = (cond ((0#64).slt (bif (0#64).slt (v_bits_Len64 n - 13#64) then v_bits_Len64 n - 13#64 else 0#64))
 (cond (g_bounds_mantissas { hi := 0#64, lo := c.ad } (v_bounds_number_plus { hi := 0#64, lo := c.ad } { hi := 0#64, lo := n }) (bif (0#64).slt (v_bits_Len64 n - 13#64) then v_bits_Len64 n - 13#64 else 0#64))
  (cond (!(v_bounds_mantissas { hi := 0#64, lo := c.ad } (v_bounds_number_plus { hi := 0#64, lo := c.ad } { hi := 0#64, lo := n }) (bif (0#64).slt (v_bits_Len64 n - 13#64) then v_bits_Len64 n - 13#64 else 0#64)).snd.fst - (v_bounds_mantissas { hi := 0#64, lo := c.ad } (v_bounds_number_plus { hi := 0#64, lo := c.ad } { hi := 0#64, lo := n }) (bif (0#64).slt (v_bits_Len64 n - 13#64) then v_bits_Len64 n - 13#64 else 0#64)).fst &&& 1024#64 == 0#64)
   (cond (g_bounds_mantissas { hi := 0#64, lo := c.ad } (v_bounds_number_plus { hi := 0#64, lo := c.ad } { hi := 0#64, lo := n }) ((bif (0#64).slt (v_bits_Len64 n - 13#64) then v_bits_Len64 n - 13#64 else 0#64) + 1#64))
    (cond (!(v_bounds_mantissas { hi := 0#64, lo := c.ad } (v_bounds_number_plus { hi := 0#64, lo := c.ad } { hi := 0#64, lo := n }) ((bif (0#64).slt (v_bits_Len64 n - 13#64) then v_bits_Len64 n - 13#64 else 0#64) + 1#64)).snd.snd.fst)
     (some (AV.tup [(AV.agg [(AV.bool (c.tag)), (AV.int (IntKind.i64) (c.per)), (AV.int (IntKind.i64) (c.ty)), (AV.int (IntKind.i64) (c.mo)), (AV.int (IntKind.i64) ((bif (0#64).slt (v_bits_Len64 n - 13#64) then v_bits_Len64 n - 13#64 else 0#64) + 1#64)), (AV.int (IntKind.i64) ((v_bounds_mantissas { hi := 0#64, lo := c.ad } (v_bounds_number_plus { hi := 0#64, lo := c.ad } { hi := 0#64, lo := n }) ((bif (0#64).slt (v_bits_Len64 n - 13#64) then v_bits_Len64 n - 13#64 else 0#64) + 1#64)).fst <<< 3)), (AV.int (IntKind.i64) ((v_bounds_mantissas { hi := 0#64, lo := c.ad } (v_bounds_number_plus { hi := 0#64, lo := c.ad } { hi := 0#64, lo := n }) ((bif (0#64).slt (v_bits_Len64 n - 13#64) then v_bits_Len64 n - 13#64 else 0#64) + 1#64)).snd.fst <<< 3 &&& 4095#64)), (AV.bool (true)), (AV.int (IntKind.u64) (c.ad))]), (AV.bool (!(v_bounds_mantissas { hi := 0#64, lo := c.ad } (v_bounds_number_plus { hi := 0#64, lo := c.ad } { hi := 0#64, lo := n }) ((bif (0#64).slt (v_bits_Len64 n - 13#64) then v_bits_Len64 n - 13#64 else 0#64) + 1#64)).snd.snd.snd))]))
     (some (AV.tup [(AV.agg [(AV.bool (c.tag)), (AV.int (IntKind.i64) (c.per)), (AV.int (IntKind.i64) (c.ty)), (AV.int (IntKind.i64) (c.mo)), (AV.int (IntKind.i64) ((bif (0#64).slt (v_bits_Len64 n - 13#64) then v_bits_Len64 n - 13#64 else 0#64) + 1#64)), (AV.int (IntKind.i64) ((v_bounds_mantissas { hi := 0#64, lo := c.ad } (v_bounds_number_plus { hi := 0#64, lo := c.ad } { hi := 0#64, lo := n }) ((bif (0#64).slt (v_bits_Len64 n - 13#64) then v_bits_Len64 n - 13#64 else 0#64) + 1#64)).fst <<< 3)), (AV.int (IntKind.i64) ((v_bounds_mantissas { hi := 0#64, lo := c.ad } (v_bounds_number_plus { hi := 0#64, lo := c.ad } { hi := 0#64, lo := n }) ((bif (0#64).slt (v_bits_Len64 n - 13#64) then v_bits_Len64 n - 13#64 else 0#64) + 1#64)).snd.fst <<< 3 &&& 4095#64)), (AV.bool (true)), (AV.int (IntKind.u64) (c.ad))]), (AV.bool (false))])))
    none)
   (cond (!(v_bounds_mantissas { hi := 0#64, lo := c.ad } (v_bounds_number_plus { hi := 0#64, lo := c.ad } { hi := 0#64, lo := n }) (bif (0#64).slt (v_bits_Len64 n - 13#64) then v_bits_Len64 n - 13#64 else 0#64)).snd.snd.fst)
    (some (AV.tup [(AV.agg [(AV.bool (c.tag)), (AV.int (IntKind.i64) (c.per)), (AV.int (IntKind.i64) (c.ty)), (AV.int (IntKind.i64) (c.mo)), (AV.int (IntKind.i64) (bif (0#64).slt (v_bits_Len64 n - 13#64) then v_bits_Len64 n - 13#64 else 0#64)), (AV.int (IntKind.i64) ((v_bounds_mantissas { hi := 0#64, lo := c.ad } (v_bounds_number_plus { hi := 0#64, lo := c.ad } { hi := 0#64, lo := n }) (bif (0#64).slt (v_bits_Len64 n - 13#64) then v_bits_Len64 n - 13#64 else 0#64)).fst <<< 3)), (AV.int (IntKind.i64) ((v_bounds_mantissas { hi := 0#64, lo := c.ad } (v_bounds_number_plus { hi := 0#64, lo := c.ad } { hi := 0#64, lo := n }) (bif (0#64).slt (v_bits_Len64 n - 13#64) then v_bits_Len64 n - 13#64 else 0#64)).snd.fst <<< 3 &&& 4095#64)), (AV.bool (true)), (AV.int (IntKind.u64) (c.ad))]), (AV.bool (!(v_bounds_mantissas { hi := 0#64, lo := c.ad } (v_bounds_number_plus { hi := 0#64, lo := c.ad } { hi := 0#64, lo := n }) (bif (0#64).slt (v_bits_Len64 n - 13#64) then v_bits_Len64 n - 13#64 else 0#64)).snd.snd.snd))]))
    (some (AV.tup [(AV.agg [(AV.bool (c.tag)), (AV.int (IntKind.i64) (c.per)), (AV.int (IntKind.i64) (c.ty)), (AV.int (IntKind.i64) (c.mo)), (AV.int (IntKind.i64) (bif (0#64).slt (v_bits_Len64 n - 13#64) then v_bits_Len64 n - 13#64 else 0#64)), (AV.int (IntKind.i64) ((v_bounds_mantissas { hi := 0#64, lo := c.ad } (v_bounds_number_plus { hi := 0#64, lo := c.ad } { hi := 0#64, lo := n }) (bif (0#64).slt (v_bits_Len64 n - 13#64) then v_bits_Len64 n - 13#64 else 0#64)).fst <<< 3)), (AV.int (IntKind.i64) ((v_bounds_mantissas { hi := 0#64, lo := c.ad } (v_bounds_number_plus { hi := 0#64, lo := c.ad } { hi := 0#64, lo := n }) (bif (0#64).slt (v_bits_Len64 n - 13#64) then v_bits_Len64 n - 13#64 else 0#64)).snd.fst <<< 3 &&& 4095#64)), (AV.bool (true)), (AV.int (IntKind.u64) (c.ad))]), (AV.bool (false))]))))
  none)
 (cond (!n >>> 12 &&& 1#64 == 1#64)
  (some (AV.tup [(AV.agg [(AV.bool (c.tag)), (AV.int (IntKind.i64) (c.per)), (AV.int (IntKind.i64) (c.ty)), (AV.int (IntKind.i64) (c.mo)), (AV.int (IntKind.i64) (0#64)), (AV.int (IntKind.i64) (BitVec.setWidth 64 (c.ad &&& 16383#64))), (AV.int (IntKind.i64) (BitVec.setWidth 64 ((v_bounds_number_plus { hi := 0#64, lo := c.ad } { hi := 0#64, lo := n }).lo &&& 4095#64))), (AV.bool (n >>> 12 &&& 1#64 == 1#64)), (AV.int (IntKind.u64) (c.ad))]), (AV.bool (true))]))
  (cond (g_bounds_mantissas { hi := 0#64, lo := c.ad } (v_bounds_number_plus { hi := 0#64, lo := c.ad } { hi := 0#64, lo := n }) (bif (0#64).slt (v_bits_Len64 n - 13#64) then v_bits_Len64 n - 13#64 else 0#64))
   (cond (!(v_bounds_mantissas { hi := 0#64, lo := c.ad } (v_bounds_number_plus { hi := 0#64, lo := c.ad } { hi := 0#64, lo := n }) (bif (0#64).slt (v_bits_Len64 n - 13#64) then v_bits_Len64 n - 13#64 else 0#64)).snd.fst - (v_bounds_mantissas { hi := 0#64, lo := c.ad } (v_bounds_number_plus { hi := 0#64, lo := c.ad } { hi := 0#64, lo := n }) (bif (0#64).slt (v_bits_Len64 n - 13#64) then v_bits_Len64 n - 13#64 else 0#64)).fst &&& 1024#64 == 0#64)
    (cond (g_bounds_mantissas { hi := 0#64, lo := c.ad } (v_bounds_number_plus { hi := 0#64, lo := c.ad } { hi := 0#64, lo := n }) ((bif (0#64).slt (v_bits_Len64 n - 13#64) then v_bits_Len64 n - 13#64 else 0#64) + 1#64))
     (cond (!(v_bounds_mantissas { hi := 0#64, lo := c.ad } (v_bounds_number_plus { hi := 0#64, lo := c.ad } { hi := 0#64, lo := n }) ((bif (0#64).slt (v_bits_Len64 n - 13#64) then v_bits_Len64 n - 13#64 else 0#64) + 1#64)).snd.snd.fst)
      (some (AV.tup [(AV.agg [(AV.bool (c.tag)), (AV.int (IntKind.i64) (c.per)), (AV.int (IntKind.i64) (c.ty)), (AV.int (IntKind.i64) (c.mo)), (AV.int (IntKind.i64) ((bif (0#64).slt (v_bits_Len64 n - 13#64) then v_bits_Len64 n - 13#64 else 0#64) + 1#64)), (AV.int (IntKind.i64) ((v_bounds_mantissas { hi := 0#64, lo := c.ad } (v_bounds_number_plus { hi := 0#64, lo := c.ad } { hi := 0#64, lo := n }) ((bif (0#64).slt (v_bits_Len64 n - 13#64) then v_bits_Len64 n - 13#64 else 0#64) + 1#64)).fst <<< 3)), (AV.int (IntKind.i64) ((v_bounds_mantissas { hi := 0#64, lo := c.ad } (v_bounds_number_plus { hi := 0#64, lo := c.ad } { hi := 0#64, lo := n }) ((bif (0#64).slt (v_bits_Len64 n - 13#64) then v_bits_Len64 n - 13#64 else 0#64) + 1#64)).snd.fst <<< 3 &&& 4095#64)), (AV.bool (n >>> 12 &&& 1#64 == 1#64)), (AV.int (IntKind.u64) (c.ad))]), (AV.bool (!(v_bounds_mantissas { hi := 0#64, lo := c.ad } (v_bounds_number_plus { hi := 0#64, lo := c.ad } { hi := 0#64, lo := n }) ((bif (0#64).slt (v_bits_Len64 n - 13#64) then v_bits_Len64 n - 13#64 else 0#64) + 1#64)).snd.snd.snd))]))
      (some (AV.tup [(AV.agg [(AV.bool (c.tag)), (AV.int (IntKind.i64) (c.per)), (AV.int (IntKind.i64) (c.ty)), (AV.int (IntKind.i64) (c.mo)), (AV.int (IntKind.i64) ((bif (0#64).slt (v_bits_Len64 n - 13#64) then v_bits_Len64 n - 13#64 else 0#64) + 1#64)), (AV.int (IntKind.i64) ((v_bounds_mantissas { hi := 0#64, lo := c.ad } (v_bounds_number_plus { hi := 0#64, lo := c.ad } { hi := 0#64, lo := n }) ((bif (0#64).slt (v_bits_Len64 n - 13#64) then v_bits_Len64 n - 13#64 else 0#64) + 1#64)).fst <<< 3)), (AV.int (IntKind.i64) ((v_bounds_mantissas { hi := 0#64, lo := c.ad } (v_bounds_number_plus { hi := 0#64, lo := c.ad } { hi := 0#64, lo := n }) ((bif (0#64).slt (v_bits_Len64 n - 13#64) then v_bits_Len64 n - 13#64 else 0#64) + 1#64)).snd.fst <<< 3 &&& 4095#64)), (AV.bool (n >>> 12 &&& 1#64 == 1#64)), (AV.int (IntKind.u64) (c.ad))]), (AV.bool (false))])))
     none)
    (cond (!(v_bounds_mantissas { hi := 0#64, lo := c.ad } (v_bounds_number_plus { hi := 0#64, lo := c.ad } { hi := 0#64, lo := n }) (bif (0#64).slt (v_bits_Len64 n - 13#64) then v_bits_Len64 n - 13#64 else 0#64)).snd.snd.fst)
     (some (AV.tup [(AV.agg [(AV.bool (c.tag)), (AV.int (IntKind.i64) (c.per)), (AV.int (IntKind.i64) (c.ty)), (AV.int (IntKind.i64) (c.mo)), (AV.int (IntKind.i64) (bif (0#64).slt (v_bits_Len64 n - 13#64) then v_bits_Len64 n - 13#64 else 0#64)), (AV.int (IntKind.i64) ((v_bounds_mantissas { hi := 0#64, lo := c.ad } (v_bounds_number_plus { hi := 0#64, lo := c.ad } { hi := 0#64, lo := n }) (bif (0#64).slt (v_bits_Len64 n - 13#64) then v_bits_Len64 n - 13#64 else 0#64)).fst <<< 3)), (AV.int (IntKind.i64) ((v_bounds_mantissas { hi := 0#64, lo := c.ad } (v_bounds_number_plus { hi := 0#64, lo := c.ad } { hi := 0#64, lo := n }) (bif (0#64).slt (v_bits_Len64 n - 13#64) then v_bits_Len64 n - 13#64 else 0#64)).snd.fst <<< 3 &&& 4095#64)), (AV.bool (n >>> 12 &&& 1#64 == 1#64)), (AV.int (IntKind.u64) (c.ad))]), (AV.bool (!(v_bounds_mantissas { hi := 0#64, lo := c.ad } (v_bounds_number_plus { hi := 0#64, lo := c.ad } { hi := 0#64, lo := n }) (bif (0#64).slt (v_bits_Len64 n - 13#64) then v_bits_Len64 n - 13#64 else 0#64)).snd.snd.snd))]))
     (some (AV.tup [(AV.agg [(AV.bool (c.tag)), (AV.int (IntKind.i64) (c.per)), (AV.int (IntKind.i64) (c.ty)), (AV.int (IntKind.i64) (c.mo)), (AV.int (IntKind.i64) (bif (0#64).slt (v_bits_Len64 n - 13#64) then v_bits_Len64 n - 13#64 else 0#64)), (AV.int (IntKind.i64) ((v_bounds_mantissas { hi := 0#64, lo := c.ad } (v_bounds_number_plus { hi := 0#64, lo := c.ad } { hi := 0#64, lo := n }) (bif (0#64).slt (v_bits_Len64 n - 13#64) then v_bits_Len64 n - 13#64 else 0#64)).fst <<< 3)), (AV.int (IntKind.i64) ((v_bounds_mantissas { hi := 0#64, lo := c.ad } (v_bounds_number_plus { hi := 0#64, lo := c.ad } { hi := 0#64, lo := n }) (bif (0#64).slt (v_bits_Len64 n - 13#64) then v_bits_Len64 n - 13#64 else 0#64)).snd.fst <<< 3 &&& 4095#64)), (AV.bool (n >>> 12 &&& 1#64 == 1#64)), (AV.int (IntKind.u64) (c.ad))]), (AV.bool (false))]))))
   none))) by kernel_rfl).trans ((merG _ (fun (p : Cp × Bool) => .tup [((p.1)).av, .bool (p.2)]) (merR _ (fun (p : Cp × Bool) => .tup [((p.1)).av, .bool (p.2)]) (merG _ (fun (p : Cp × Bool) => .tup [((p.1)).av, .bool (p.2)]) (merR _ (fun (p : Cp × Bool) => .tup [((p.1)).av, .bool (p.2)]) (merG _ (fun (p : Cp × Bool) => .tup [((p.1)).av, .bool (p.2)]) rfl rfl)) (merG _ (fun (p : Cp × Bool) => .tup [((p.1)).av, .bool (p.2)]) rfl rfl))) (merG _ (fun (p : Cp × Bool) => .tup [((p.1)).av, .bool (p.2)]) rfl (merR _ (fun (p : Cp × Bool) => .tup [((p.1)).av, .bool (p.2)]) (merG _ (fun (p : Cp × Bool) => .tup [((p.1)).av, .bool (p.2)]) (merR _ (fun (p : Cp × Bool) => .tup [((p.1)).av, .bool (p.2)]) (merG _ (fun (p : Cp × Bool) => .tup [((p.1)).av, .bool (p.2)]) rfl rfl)) (merG _ (fun (p : Cp × Bool) => .tup [((p.1)).av, .bool (p.2)]) rfl rfl))))))
noncomputable def C_47 : Oracle := pureGE 47 (pure2 dCp dU64 (fun c n => .tup [.bool (g_bounds_Lay c n), (fun (p : Cp × Bool) => .tup [((p.1)).av, .bool (p.2)]) (v_bounds_Lay c n)])) (C_59)
theorem C_47_snd : Snd Try.prog C_47 := pureGE_snd (pure2_gok (F := F47) (C_59_snd) Try.func47 (by kernel_rfl) run_47 (fun _ _ => rfl)) (C_59_snd)

/- ravelin/capops.keep -/
def F45 : Cfg := { F := 400, roots := [0, 1, 2], fl := ⟨true, false⟩ }
theorem run_45 : ∀ (c : Cp) (xis : Bool), pureRun Try.prog C_47 F45 Try.f45 [c.av, .bool xis] = some ((v_capops_keep c xis).av) := fun c xis =>
 (show pureRun Try.prog C_47 F45 Try.f45 [c.av, .bool xis] = (cond (c.tag)
 (some (AV.agg [(AV.bool (xis)), (AV.int (IntKind.i64) (c.per)), (AV.int (IntKind.i64) (c.ty)), (AV.int (IntKind.i64) (c.mo)), (AV.int (IntKind.i64) (c.e)), (AV.int (IntKind.i64) (c.b)), (AV.int (IntKind.i64) (c.t)), (AV.bool (c.big)), (AV.int (IntKind.u64) (c.ad))]))
 (some (AV.agg [(AV.bool (false)), (AV.int (IntKind.i64) (c.per)), (AV.int (IntKind.i64) (c.ty)), (AV.int (IntKind.i64) (c.mo)), (AV.int (IntKind.i64) (c.e)), (AV.int (IntKind.i64) (c.b)), (AV.int (IntKind.i64) (c.t)), (AV.bool (c.big)), (AV.int (IntKind.u64) (c.ad))]))) by kernel_rfl).trans ((mer _ (Cp.av) rfl rfl))
noncomputable def C_45 : Oracle := pureE 45 (pure2 dCp dBool (fun c xis => (v_capops_keep c xis).av)) (C_47)
theorem C_45_snd : Snd Try.prog C_45 := pureE_snd (pure2_ok (F := F45) (C_47_snd) Try.func45 (by kernel_rfl) run_45 (fun _ _ => rfl)) (C_47_snd)

/- ravelin/capops.Sealed -/
def F46 : Cfg := { F := 400, roots := [0, 1], fl := ⟨true, false⟩ }
theorem run_46 : ∀ (c : Cp), pureRun Try.prog C_45 F46 Try.f46 [c.av] = some (.bool (v_capops_Sealed c)) := fun c =>
 (show pureRun Try.prog C_45 F46 Try.f46 [c.av] = (some (AV.bool (!c.ty == 262143#64))) by kernel_rfl).trans (rfl)
noncomputable def C_46 : Oracle := pureE 46 (pure1 dCp (fun c => .bool (v_capops_Sealed c))) (C_45)
theorem C_46_snd : Snd Try.prog C_46 := pureE_snd (pure1_ok (F := F46) (C_45_snd) Try.func46 (by kernel_rfl) run_46 (fun _ => rfl)) (C_45_snd)

/- ravelin/bounds.Within -/
def F48 : Cfg := { F := 400, roots := [0, 1, 2], fl := ⟨true, false⟩ }
theorem run_48 : ∀ (a : Rg) (xb : Rg), pureRun Try.prog C_46 F48 Try.f48 [a.av, xb.av] = some (.bool (v_bounds_Within a xb)) := fun a xb =>
 (show pureRun Try.prog C_46 F48 Try.f48 [a.av, xb.av] = (cond (xb.base.ule a.base)
 (some (AV.bool (!v_bounds_number_above (v_bounds_top a) (v_bounds_top xb))))
 (some (AV.bool (false)))) by kernel_rfl).trans ((mer _ (fun p => .bool p) rfl rfl))
noncomputable def C_48 : Oracle := pureE 48 (pure2 dRg dRg (fun a xb => .bool (v_bounds_Within a xb))) (C_46)
theorem C_48_snd : Snd Try.prog C_48 := pureE_snd (pure2_ok (F := F48) (C_46_snd) Try.func48 (by kernel_rfl) run_48 (fun _ _ => rfl)) (C_46_snd)

/- ravelin/capops.Bound -/
def F21 : Cfg := { F := 400, roots := [0, 1, 2, 3, 4, 5, 6, 7, 8], fl := ⟨true, false⟩ }
theorem run_21 : ∀ (c : Cp) (n : BitVec 64) (exact : Bool), pureRun Try.prog C_48 F21 Try.f21 [c.av, .int .u64 n, .bool exact] = cond (g_capops_Bound c n exact) (some ((v_capops_Bound c n exact).av)) none := fun c n exact =>
 (show pureRun Try.prog C_48 F21 Try.f21 [c.av, .int .u64 n, .bool exact] = (cond (g_bounds_Lay c n)
 (cond (g_bounds_Of (v_bounds_Lay c n).fst)
  (cond (!v_capops_Sealed c)
   (cond ((v_bounds_Of (v_bounds_Lay c n).fst).base == c.ad && ((v_bounds_Of (v_bounds_Lay c n).fst).top == c.ad + n && ((v_bounds_Of (v_bounds_Lay c n).fst).over == (c.ad + n).ult c.ad && true)))
    (cond (v_bounds_Within { base := c.ad, top := c.ad + n, over := (c.ad + n).ult c.ad } (v_bounds_Of (v_bounds_Lay c n).fst))
     (cond (g_bounds_Of c)
      (some (AV.agg [(AV.bool ((v_capops_keep (v_bounds_Lay c n).fst (v_bounds_Within (v_bounds_Of (v_bounds_Lay c n).fst) (v_bounds_Of c))).tag)), (AV.int (IntKind.i64) ((v_capops_keep (v_bounds_Lay c n).fst (v_bounds_Within (v_bounds_Of (v_bounds_Lay c n).fst) (v_bounds_Of c))).per)), (AV.int (IntKind.i64) ((v_capops_keep (v_bounds_Lay c n).fst (v_bounds_Within (v_bounds_Of (v_bounds_Lay c n).fst) (v_bounds_Of c))).ty)), (AV.int (IntKind.i64) ((v_capops_keep (v_bounds_Lay c n).fst (v_bounds_Within (v_bounds_Of (v_bounds_Lay c n).fst) (v_bounds_Of c))).mo)), (AV.int (IntKind.i64) ((v_capops_keep (v_bounds_Lay c n).fst (v_bounds_Within (v_bounds_Of (v_bounds_Lay c n).fst) (v_bounds_Of c))).e)), (AV.int (IntKind.i64) ((v_capops_keep (v_bounds_Lay c n).fst (v_bounds_Within (v_bounds_Of (v_bounds_Lay c n).fst) (v_bounds_Of c))).b)), (AV.int (IntKind.i64) ((v_capops_keep (v_bounds_Lay c n).fst (v_bounds_Within (v_bounds_Of (v_bounds_Lay c n).fst) (v_bounds_Of c))).t)), (AV.bool ((v_capops_keep (v_bounds_Lay c n).fst (v_bounds_Within (v_bounds_Of (v_bounds_Lay c n).fst) (v_bounds_Of c))).big)), (AV.int (IntKind.u64) ((v_capops_keep (v_bounds_Lay c n).fst (v_bounds_Within (v_bounds_Of (v_bounds_Lay c n).fst) (v_bounds_Of c))).ad))]))
      none)
     (some (AV.agg [(AV.bool ((v_capops_keep (v_bounds_Lay c n).fst false).tag)), (AV.int (IntKind.i64) ((v_capops_keep (v_bounds_Lay c n).fst false).per)), (AV.int (IntKind.i64) ((v_capops_keep (v_bounds_Lay c n).fst false).ty)), (AV.int (IntKind.i64) ((v_capops_keep (v_bounds_Lay c n).fst false).mo)), (AV.int (IntKind.i64) ((v_capops_keep (v_bounds_Lay c n).fst false).e)), (AV.int (IntKind.i64) ((v_capops_keep (v_bounds_Lay c n).fst false).b)), (AV.int (IntKind.i64) ((v_capops_keep (v_bounds_Lay c n).fst false).t)), (AV.bool ((v_capops_keep (v_bounds_Lay c n).fst false).big)), (AV.int (IntKind.u64) ((v_capops_keep (v_bounds_Lay c n).fst false).ad))])))
    (cond (!exact)
     (cond (v_bounds_Within { base := c.ad, top := c.ad + n, over := (c.ad + n).ult c.ad } (v_bounds_Of (v_bounds_Lay c n).fst))
      (cond (g_bounds_Of c)
       (some (AV.agg [(AV.bool ((v_capops_keep (v_bounds_Lay c n).fst (v_bounds_Within (v_bounds_Of (v_bounds_Lay c n).fst) (v_bounds_Of c))).tag)), (AV.int (IntKind.i64) ((v_capops_keep (v_bounds_Lay c n).fst (v_bounds_Within (v_bounds_Of (v_bounds_Lay c n).fst) (v_bounds_Of c))).per)), (AV.int (IntKind.i64) ((v_capops_keep (v_bounds_Lay c n).fst (v_bounds_Within (v_bounds_Of (v_bounds_Lay c n).fst) (v_bounds_Of c))).ty)), (AV.int (IntKind.i64) ((v_capops_keep (v_bounds_Lay c n).fst (v_bounds_Within (v_bounds_Of (v_bounds_Lay c n).fst) (v_bounds_Of c))).mo)), (AV.int (IntKind.i64) ((v_capops_keep (v_bounds_Lay c n).fst (v_bounds_Within (v_bounds_Of (v_bounds_Lay c n).fst) (v_bounds_Of c))).e)), (AV.int (IntKind.i64) ((v_capops_keep (v_bounds_Lay c n).fst (v_bounds_Within (v_bounds_Of (v_bounds_Lay c n).fst) (v_bounds_Of c))).b)), (AV.int (IntKind.i64) ((v_capops_keep (v_bounds_Lay c n).fst (v_bounds_Within (v_bounds_Of (v_bounds_Lay c n).fst) (v_bounds_Of c))).t)), (AV.bool ((v_capops_keep (v_bounds_Lay c n).fst (v_bounds_Within (v_bounds_Of (v_bounds_Lay c n).fst) (v_bounds_Of c))).big)), (AV.int (IntKind.u64) ((v_capops_keep (v_bounds_Lay c n).fst (v_bounds_Within (v_bounds_Of (v_bounds_Lay c n).fst) (v_bounds_Of c))).ad))]))
       none)
      (some (AV.agg [(AV.bool ((v_capops_keep (v_bounds_Lay c n).fst false).tag)), (AV.int (IntKind.i64) ((v_capops_keep (v_bounds_Lay c n).fst false).per)), (AV.int (IntKind.i64) ((v_capops_keep (v_bounds_Lay c n).fst false).ty)), (AV.int (IntKind.i64) ((v_capops_keep (v_bounds_Lay c n).fst false).mo)), (AV.int (IntKind.i64) ((v_capops_keep (v_bounds_Lay c n).fst false).e)), (AV.int (IntKind.i64) ((v_capops_keep (v_bounds_Lay c n).fst false).b)), (AV.int (IntKind.i64) ((v_capops_keep (v_bounds_Lay c n).fst false).t)), (AV.bool ((v_capops_keep (v_bounds_Lay c n).fst false).big)), (AV.int (IntKind.u64) ((v_capops_keep (v_bounds_Lay c n).fst false).ad))])))
     (some (AV.agg [(AV.bool ((v_capops_keep (v_bounds_Lay c n).fst false).tag)), (AV.int (IntKind.i64) ((v_capops_keep (v_bounds_Lay c n).fst false).per)), (AV.int (IntKind.i64) ((v_capops_keep (v_bounds_Lay c n).fst false).ty)), (AV.int (IntKind.i64) ((v_capops_keep (v_bounds_Lay c n).fst false).mo)), (AV.int (IntKind.i64) ((v_capops_keep (v_bounds_Lay c n).fst false).e)), (AV.int (IntKind.i64) ((v_capops_keep (v_bounds_Lay c n).fst false).b)), (AV.int (IntKind.i64) ((v_capops_keep (v_bounds_Lay c n).fst false).t)), (AV.bool ((v_capops_keep (v_bounds_Lay c n).fst false).big)), (AV.int (IntKind.u64) ((v_capops_keep (v_bounds_Lay c n).fst false).ad))]))))
   (some (AV.agg [(AV.bool ((v_capops_keep (v_bounds_Lay c n).fst false).tag)), (AV.int (IntKind.i64) ((v_capops_keep (v_bounds_Lay c n).fst false).per)), (AV.int (IntKind.i64) ((v_capops_keep (v_bounds_Lay c n).fst false).ty)), (AV.int (IntKind.i64) ((v_capops_keep (v_bounds_Lay c n).fst false).mo)), (AV.int (IntKind.i64) ((v_capops_keep (v_bounds_Lay c n).fst false).e)), (AV.int (IntKind.i64) ((v_capops_keep (v_bounds_Lay c n).fst false).b)), (AV.int (IntKind.i64) ((v_capops_keep (v_bounds_Lay c n).fst false).t)), (AV.bool ((v_capops_keep (v_bounds_Lay c n).fst false).big)), (AV.int (IntKind.u64) ((v_capops_keep (v_bounds_Lay c n).fst false).ad))])))
  none)
 none) by kernel_rfl).trans ((merR _ (Cp.av) (merR _ (Cp.av) (merG _ (Cp.av) (merG _ (Cp.av) (merG _ (Cp.av) (merR _ (Cp.av) rfl) rfl) (merG _ (Cp.av) (merG _ (Cp.av) (merR _ (Cp.av) rfl) rfl) rfl)) rfl))))
noncomputable def C_21 : Oracle := pureGE 21 (pure3 dCp dU64 dBool (fun c n exact => .tup [.bool (g_capops_Bound c n exact), (v_capops_Bound c n exact).av])) (C_48)
theorem C_21_snd : Snd Try.prog C_21 := pureGE_snd (pure3_gok (F := F21) (C_48_snd) Try.func21 (by kernel_rfl) run_21 (fun _ _ _ => rfl)) (C_48_snd)

/- ravelin/capenc.Number -/
def F36 : Cfg := { F := 400, roots := [0, 1], fl := ⟨true, false⟩ }
theorem run_36 : ∀ (n : BitVec 64), pureRun Try.prog C_21 F36 Try.f36 [.int .u64 n] = some ((v_capenc_Number n).av) := fun n =>
 (show pureRun Try.prog C_21 F36 Try.f36 [.int .u64 n] = (some (AV.agg [(AV.bool (false)), (AV.int (IntKind.i64) (0#64)), (AV.int (IntKind.i64) (262143#64)), (AV.int (IntKind.i64) (0#64)), (AV.int (IntKind.i64) (52#64)), (AV.int (IntKind.i64) (0#64)), (AV.int (IntKind.i64) (0#64)), (AV.bool (true)), (AV.int (IntKind.u64) (n))])) by kernel_rfl).trans (rfl)
noncomputable def C_36 : Oracle := pureE 36 (pure1 dU64 (fun n => (v_capenc_Number n).av)) (C_21)
theorem C_36_snd : Snd Try.prog C_36 := pureE_snd (pure1_ok (F := F36) (C_21_snd) Try.func36 (by kernel_rfl) run_36 (fun _ => rfl)) (C_21_snd)

/- ravelin/capenc.Root -/
def F28 : Cfg := { F := 400, roots := [0, 1, 2, 3], fl := ⟨true, false⟩ }
theorem run_28 : ∀ (mode : BitVec 64) (xat : BitVec 64), pureRun Try.prog C_36 F28 Try.f28 [.int .i64 mode, .int .u64 xat] = some ((v_capenc_Root mode xat).av) := fun mode xat =>
 (show pureRun Try.prog C_36 F28 Try.f28 [.int .i64 mode, .int .u64 xat] = (cond (mode == 1#64)
 (some (AV.agg [(AV.bool (true)), (AV.int (IntKind.i64) (65535#64)), (AV.int (IntKind.i64) ((v_capenc_Number xat).ty)), (AV.int (IntKind.i64) (1#64)), (AV.int (IntKind.i64) ((v_capenc_Number xat).e)), (AV.int (IntKind.i64) ((v_capenc_Number xat).b)), (AV.int (IntKind.i64) ((v_capenc_Number xat).t)), (AV.bool ((v_capenc_Number xat).big)), (AV.int (IntKind.u64) ((v_capenc_Number xat).ad))]))
 (some (AV.agg [(AV.bool (true)), (AV.int (IntKind.i64) (65535#64)), (AV.int (IntKind.i64) ((v_capenc_Number xat).ty)), (AV.int (IntKind.i64) ((v_capenc_Number xat).mo)), (AV.int (IntKind.i64) ((v_capenc_Number xat).e)), (AV.int (IntKind.i64) ((v_capenc_Number xat).b)), (AV.int (IntKind.i64) ((v_capenc_Number xat).t)), (AV.bool ((v_capenc_Number xat).big)), (AV.int (IntKind.u64) ((v_capenc_Number xat).ad))]))) by kernel_rfl).trans ((mer _ (Cp.av) rfl rfl))
noncomputable def C_28 : Oracle := pureE 28 (pure2 dI64 dU64 (fun mode xat => (v_capenc_Root mode xat).av)) (C_36)
theorem C_28_snd : Snd Try.prog C_28 := pureE_snd (pure2_ok (F := F28) (C_36_snd) Try.func28 (by kernel_rfl) run_28 (fun _ _ => rfl)) (C_36_snd)

/- ravelin/ravelinlaw23.known -/
def F15 : Cfg := { F := 400, roots := [0, 1, 2], fl := ⟨true, false⟩ }
theorem run_15 : pureRun Try.prog C_28 F15 Try.f15 [] = some (.bool v_l23_known) := (show pureRun Try.prog C_28 F15 Try.f15 [] = (some (AV.bool (true))) by kernel_rfl).trans (rfl)
noncomputable def C_15 : Oracle := pureE 15 (pure0  (.bool v_l23_known)) (C_28)
theorem C_15_snd : Snd Try.prog C_15 := pureE_snd (pure0_ok (F := F15) (C_28_snd) Try.func15 (by kernel_rfl) run_15 rfl) (C_28_snd)

/- ravelin/ravelinlaw23.CheckData -/
def F3 : Cfg := { F := 400, roots := [0, 1, 2, 3, 4, 5, 6], fl := ⟨true, false⟩ }
theorem run_3 : ∀ (c : Cp) (xby : BitVec 64) (xat : BitVec 64) (n : BitVec 64) (load : Bool) (store : Bool), pureRun Try.prog C_15 F3 Try.f3 [c.av, .int .i64 xby, .int .u64 xat, .int .i64 n, .bool load, .bool store] = t_l23_CheckData c xby xat n load store := fun c xby xat n load store =>
  by kernel_rfl
theorem snd_3 : Snd Try.prog (C_15) := C_15_snd

/- ravelin/check.lacks -/
def F44 : Cfg := { F := 400, roots := [0, 1, 2, 3], fl := ⟨true, false⟩ }
theorem run_44 : ∀ (c : Cp) (perm : BitVec 64) (why : BitVec 64), pureRun Try.prog C_15 F44 Try.f44 [c.av, .int .i64 perm, .int .i64 why] = some ((v_check_lacks c perm why).av) := fun c perm why =>
 (show pureRun Try.prog C_15 F44 Try.f44 [c.av, .int .i64 perm, .int .i64 why] = (some (AV.agg [(AV.bool (c.per &&& perm == 0#64)), (AV.int (IntKind.i64) (why))])) by kernel_rfl).trans (rfl)
noncomputable def C_44 : Oracle := pureE 44 (pure3 dCp dI64 dI64 (fun c perm why => (v_check_lacks c perm why).av)) (C_15)
theorem C_44_snd : Snd Try.prog C_44 := pureE_snd (pure3_ok (F := F44) (C_15_snd) Try.func44 (by kernel_rfl) run_44 (fun _ _ _ => rfl)) (C_15_snd)

/- ravelin/check.Keep -/
def F22 : Cfg := { F := 400, roots := [0, 1, 2, 3, 4], fl := ⟨true, false⟩ }
theorem run_22 : ∀ (c : Cp) (xby : BitVec 64) (v : Cp), pureRun Try.prog C_44 F22 Try.f22 [c.av, .int .i64 xby, v.av] = some ((v_check_Keep c xby v).av) := fun c xby v =>
 (show pureRun Try.prog C_44 F22 Try.f22 [c.av, .int .i64 xby, v.av] = (cond (!v.tag)
 (some (AV.agg [(AV.bool (false)), (AV.int (IntKind.i64) (0#64)), (AV.int (IntKind.u64) (0#64))]))
 (cond ((v_check_lacks c 64#64 22#64).no)
  (cond ((v_check_lacks c 32#64 21#64).no)
   (some (AV.agg [(AV.bool ((v_check_Refused xby (v_check_lacks c 32#64 21#64).why).is)), (AV.int (IntKind.i64) ((v_check_Refused xby (v_check_lacks c 32#64 21#64).why).cause)), (AV.int (IntKind.u64) ((v_check_Refused xby (v_check_lacks c 32#64 21#64).why).val))]))
   (cond (v.per &&& 1#64 == 0#64)
    (some (AV.agg [(AV.bool ((v_check_Refused xby (v_check_lacks c 64#64 22#64).why).is)), (AV.int (IntKind.i64) ((v_check_Refused xby (v_check_lacks c 64#64 22#64).why).cause)), (AV.int (IntKind.u64) ((v_check_Refused xby (v_check_lacks c 64#64 22#64).why).val))]))
    (some (AV.agg [(AV.bool (false)), (AV.int (IntKind.i64) (0#64)), (AV.int (IntKind.u64) (0#64))]))))
  (cond ((v_check_lacks c 32#64 21#64).no)
   (some (AV.agg [(AV.bool ((v_check_Refused xby (v_check_lacks c 32#64 21#64).why).is)), (AV.int (IntKind.i64) ((v_check_Refused xby (v_check_lacks c 32#64 21#64).why).cause)), (AV.int (IntKind.u64) ((v_check_Refused xby (v_check_lacks c 32#64 21#64).why).val))]))
   (some (AV.agg [(AV.bool (false)), (AV.int (IntKind.i64) (0#64)), (AV.int (IntKind.u64) (0#64))]))))) by kernel_rfl).trans ((mer _ (Tr.av) rfl (mer _ (Tr.av) (mer _ (Tr.av) rfl (mer _ (Tr.av) rfl rfl)) (mer _ (Tr.av) rfl rfl))))
noncomputable def C_22 : Oracle := pureE 22 (pure3 dCp dI64 dCp (fun c xby v => (v_check_Keep c xby v).av)) (C_44)
theorem C_22_snd : Snd Try.prog C_22 := pureE_snd (pure3_ok (F := F22) (C_44_snd) Try.func22 (by kernel_rfl) run_22 (fun _ _ _ => rfl)) (C_44_snd)

/- ravelin/ravelinref23.Keep -/
def F25 : Cfg := { F := 400, roots := [0, 1, 2, 3], fl := ⟨true, false⟩ }
theorem run_25 : ∀ (c : Cp) (xby : BitVec 64) (v : Cp), pureRun Try.prog C_22 F25 Try.f25 [c.av, .int .i64 xby, v.av] = some ((v_r23_Keep c xby v).av) := fun c xby v =>
 (show pureRun Try.prog C_22 F25 Try.f25 [c.av, .int .i64 xby, v.av] = (cond (v.tag)
 (cond (c.per &&& 32#64 == 0#64)
  (some (AV.agg [(AV.bool ((v_r23_Refused xby 21#64).is)), (AV.int (IntKind.i64) ((v_r23_Refused xby 21#64).cause)), (AV.int (IntKind.u64) ((v_r23_Refused xby 21#64).val))]))
  (cond (v.tag)
   (cond (v.per &&& 1#64 == 0#64)
    (cond (c.per &&& 64#64 == 0#64)
     (some (AV.agg [(AV.bool ((v_r23_Refused xby 22#64).is)), (AV.int (IntKind.i64) ((v_r23_Refused xby 22#64).cause)), (AV.int (IntKind.u64) ((v_r23_Refused xby 22#64).val))]))
     (some (AV.agg [(AV.bool (false)), (AV.int (IntKind.i64) (0#64)), (AV.int (IntKind.u64) (0#64))])))
    (some (AV.agg [(AV.bool (false)), (AV.int (IntKind.i64) (0#64)), (AV.int (IntKind.u64) (0#64))])))
   (some (AV.agg [(AV.bool (false)), (AV.int (IntKind.i64) (0#64)), (AV.int (IntKind.u64) (0#64))]))))
 (cond (v.tag)
  (cond (v.per &&& 1#64 == 0#64)
   (cond (c.per &&& 64#64 == 0#64)
    (some (AV.agg [(AV.bool ((v_r23_Refused xby 22#64).is)), (AV.int (IntKind.i64) ((v_r23_Refused xby 22#64).cause)), (AV.int (IntKind.u64) ((v_r23_Refused xby 22#64).val))]))
    (some (AV.agg [(AV.bool (false)), (AV.int (IntKind.i64) (0#64)), (AV.int (IntKind.u64) (0#64))])))
   (some (AV.agg [(AV.bool (false)), (AV.int (IntKind.i64) (0#64)), (AV.int (IntKind.u64) (0#64))])))
  (some (AV.agg [(AV.bool (false)), (AV.int (IntKind.i64) (0#64)), (AV.int (IntKind.u64) (0#64))])))) by kernel_rfl).trans ((mer _ (Tr.av) (mer _ (Tr.av) rfl (mer _ (Tr.av) (mer _ (Tr.av) (mer _ (Tr.av) rfl rfl) rfl) rfl)) (mer _ (Tr.av) (mer _ (Tr.av) (mer _ (Tr.av) rfl rfl) rfl) rfl)))
noncomputable def C_25 : Oracle := pureE 25 (pure3 dCp dI64 dCp (fun c xby v => (v_r23_Keep c xby v).av)) (C_22)
theorem C_25_snd : Snd Try.prog C_25 := pureE_snd (pure3_ok (F := F25) (C_22_snd) Try.func25 (by kernel_rfl) run_25 (fun _ _ _ => rfl)) (C_22_snd)

/- ravelin/check.Fetch -/
def F18 : Cfg := { F := 400, roots := [0, 1, 2], fl := ⟨true, false⟩ }
theorem run_18 : ∀ (pcc : Cp) (n : BitVec 64), pureRun Try.prog C_25 F18 Try.f18 [pcc.av, .int .i64 n] = cond (g_check_Fetch pcc n) (some ((v_check_Fetch pcc n).av)) none := fun pcc n =>
 (show pureRun Try.prog C_25 F18 Try.f18 [pcc.av, .int .i64 n] = (cond (g_check_outside pcc pcc.ad n)
 (cond (!pcc.tag)
  (some (AV.agg [(AV.bool ((v_check_Refused 32#64 2#64).is)), (AV.int (IntKind.i64) ((v_check_Refused 32#64 2#64).cause)), (AV.int (IntKind.u64) ((v_check_Refused 32#64 2#64).val))]))
  (cond (!pcc.ty == 262143#64)
   (some (AV.agg [(AV.bool ((v_check_Refused 32#64 3#64).is)), (AV.int (IntKind.i64) ((v_check_Refused 32#64 3#64).cause)), (AV.int (IntKind.u64) ((v_check_Refused 32#64 3#64).val))]))
   (cond ((v_check_lacks pcc 2#64 17#64).no)
    (some (AV.agg [(AV.bool ((v_check_Refused (32#64) (v_check_lacks pcc 2#64 17#64).why).is)), (AV.int (IntKind.i64) ((v_check_Refused (32#64) (v_check_lacks pcc 2#64 17#64).why).cause)), (AV.int (IntKind.u64) ((v_check_Refused (32#64) (v_check_lacks pcc 2#64 17#64).why).val))]))
    (cond ((v_check_outside pcc pcc.ad n).no)
     (some (AV.agg [(AV.bool ((v_check_Refused (32#64) (v_check_outside pcc pcc.ad n).why).is)), (AV.int (IntKind.i64) ((v_check_Refused (32#64) (v_check_outside pcc pcc.ad n).why).cause)), (AV.int (IntKind.u64) ((v_check_Refused (32#64) (v_check_outside pcc pcc.ad n).why).val))]))
     (some (AV.agg [(AV.bool (false)), (AV.int (IntKind.i64) (0#64)), (AV.int (IntKind.u64) (0#64))]))))))
 none) by kernel_rfl).trans ((merR _ (Tr.av) (merG _ (Tr.av) rfl (merG _ (Tr.av) rfl (merG _ (Tr.av) rfl (merG _ (Tr.av) rfl rfl))))))
noncomputable def C_18 : Oracle := pureGE 18 (pure2 dCp dI64 (fun pcc n => .tup [.bool (g_check_Fetch pcc n), (v_check_Fetch pcc n).av])) (C_25)
theorem C_18_snd : Snd Try.prog C_18 := pureGE_snd (pure2_gok (F := F18) (C_25_snd) Try.func18 (by kernel_rfl) run_18 (fun _ _ => rfl)) (C_25_snd)

/- ravelin/ravelinref23.runs -/
def F49 : Cfg := { F := 400, roots := [0, 1, 2, 3, 4, 5], fl := ⟨true, false⟩ }
theorem run_49 : ∀ (c : Cp) (xby : BitVec 64) (xat : BitVec 64) (n : BitVec 64) (sealed : Bool), pureRun Try.prog C_18 F49 Try.f49 [c.av, .int .i64 xby, .int .u64 xat, .int .i64 n, .bool sealed] = some ((v_r23_runs c xby xat n sealed).av) := fun c xby xat n sealed =>
 (show pureRun Try.prog C_18 F49 Try.f49 [c.av, .int .i64 xby, .int .u64 xat, .int .i64 n, .bool sealed] = (cond (!c.tag)
 (some (AV.agg [(AV.bool ((v_r23_Refused xby 2#64).is)), (AV.int (IntKind.i64) ((v_r23_Refused xby 2#64).cause)), (AV.int (IntKind.u64) ((v_r23_Refused xby 2#64).val))]))
 (cond (sealed)
  (some (AV.agg [(AV.bool ((v_r23_Refused xby 3#64).is)), (AV.int (IntKind.i64) ((v_r23_Refused xby 3#64).cause)), (AV.int (IntKind.u64) ((v_r23_Refused xby 3#64).val))]))
  (cond (c.per &&& 2#64 == 0#64)
   (some (AV.agg [(AV.bool ((v_r23_Refused xby 17#64).is)), (AV.int (IntKind.i64) ((v_r23_Refused xby 17#64).cause)), (AV.int (IntKind.u64) ((v_r23_Refused xby 17#64).val))]))
   (cond (!v_r03_In (v_r03_Of c) xat n)
    (some (AV.agg [(AV.bool ((v_r23_Refused xby 1#64).is)), (AV.int (IntKind.i64) ((v_r23_Refused xby 1#64).cause)), (AV.int (IntKind.u64) ((v_r23_Refused xby 1#64).val))]))
    (some (AV.agg [(AV.bool (false)), (AV.int (IntKind.i64) (0#64)), (AV.int (IntKind.u64) (0#64))])))))) by kernel_rfl).trans ((mer _ (Tr.av) rfl (mer _ (Tr.av) rfl (mer _ (Tr.av) rfl (mer _ (Tr.av) rfl rfl)))))
noncomputable def C_49 : Oracle := pureE 49 (pure5 dCp dI64 dU64 dI64 dBool (fun c xby xat n sealed => (v_r23_runs c xby xat n sealed).av)) (C_18)
theorem C_49_snd : Snd Try.prog C_49 := pureE_snd (pure5_ok (F := F49) (C_18_snd) Try.func49 (by kernel_rfl) run_49 (fun _ _ _ _ _ => rfl)) (C_18_snd)

/- ravelin/ravelinref23.Fetch -/
def F26 : Cfg := { F := 400, roots := [0, 1, 2], fl := ⟨true, false⟩ }
theorem run_26 : ∀ (pcc : Cp) (n : BitVec 64), pureRun Try.prog C_49 F26 Try.f26 [pcc.av, .int .i64 n] = some ((v_r23_Fetch pcc n).av) := fun pcc n =>
 (show pureRun Try.prog C_49 F26 Try.f26 [pcc.av, .int .i64 n] = (some (AV.agg [(AV.bool ((v_r23_runs pcc (32#64) pcc.ad n !pcc.ty == 262143#64).is)), (AV.int (IntKind.i64) ((v_r23_runs pcc (32#64) pcc.ad n !pcc.ty == 262143#64).cause)), (AV.int (IntKind.u64) ((v_r23_runs pcc (32#64) pcc.ad n !pcc.ty == 262143#64).val))])) by kernel_rfl).trans (rfl)
noncomputable def C_26 : Oracle := pureE 26 (pure2 dCp dI64 (fun pcc n => (v_r23_Fetch pcc n).av)) (C_49)
theorem C_26_snd : Snd Try.prog C_26 := pureE_snd (pure2_ok (F := F26) (C_49_snd) Try.func26 (by kernel_rfl) run_26 (fun _ _ => rfl)) (C_49_snd)

/- ravelin/check.Jump -/
def F23 : Cfg := { F := 400, roots := [0, 1, 2, 3, 4], fl := ⟨true, false⟩ }
theorem run_23 : ∀ (c : Cp) (xby : BitVec 64) (off : BitVec 64), pureRun Try.prog C_26 F23 Try.f23 [c.av, .int .i64 xby, .int .i64 off] = cond (g_check_Jump c xby off) (some ((v_check_Jump c xby off).av)) none := fun c xby off =>
 (show pureRun Try.prog C_26 F23 Try.f23 [c.av, .int .i64 xby, .int .i64 off] = (cond (!c.ty == 262143#64)
 (cond (!c.ty == 262142#64)
  (cond (g_check_outside c (c.ad + BitVec.signExtend 64 off &&& 18446744073709551614#64) 2#64)
   (cond (!c.tag)
    (some (AV.agg [(AV.bool ((v_check_Refused xby 2#64).is)), (AV.int (IntKind.i64) ((v_check_Refused xby 2#64).cause)), (AV.int (IntKind.u64) ((v_check_Refused xby 2#64).val))]))
    (some (AV.agg [(AV.bool ((v_check_Refused xby 3#64).is)), (AV.int (IntKind.i64) ((v_check_Refused xby 3#64).cause)), (AV.int (IntKind.u64) ((v_check_Refused xby 3#64).val))])))
   none)
  (cond (g_check_outside c (c.ad + BitVec.signExtend 64 off &&& 18446744073709551614#64) 2#64)
   (cond (!c.tag)
    (some (AV.agg [(AV.bool ((v_check_Refused xby 2#64).is)), (AV.int (IntKind.i64) ((v_check_Refused xby 2#64).cause)), (AV.int (IntKind.u64) ((v_check_Refused xby 2#64).val))]))
    (cond (!off == 0#64)
     (some (AV.agg [(AV.bool ((v_check_Refused xby 3#64).is)), (AV.int (IntKind.i64) ((v_check_Refused xby 3#64).cause)), (AV.int (IntKind.u64) ((v_check_Refused xby 3#64).val))]))
     (cond ((v_check_lacks c 2#64 17#64).no)
      (some (AV.agg [(AV.bool ((v_check_Refused xby (v_check_lacks c 2#64 17#64).why).is)), (AV.int (IntKind.i64) ((v_check_Refused xby (v_check_lacks c 2#64 17#64).why).cause)), (AV.int (IntKind.u64) ((v_check_Refused xby (v_check_lacks c 2#64 17#64).why).val))]))
      (cond ((v_check_outside c (c.ad + BitVec.signExtend 64 off &&& 18446744073709551614#64) 2#64).no)
       (some (AV.agg [(AV.bool ((v_check_Refused xby (v_check_outside c (c.ad + BitVec.signExtend 64 off &&& 18446744073709551614#64) 2#64).why).is)), (AV.int (IntKind.i64) ((v_check_Refused xby (v_check_outside c (c.ad + BitVec.signExtend 64 off &&& 18446744073709551614#64) 2#64).why).cause)), (AV.int (IntKind.u64) ((v_check_Refused xby (v_check_outside c (c.ad + BitVec.signExtend 64 off &&& 18446744073709551614#64) 2#64).why).val))]))
       (some (AV.agg [(AV.bool (false)), (AV.int (IntKind.i64) (0#64)), (AV.int (IntKind.u64) (0#64))]))))))
   none))
 (cond (g_check_outside c (c.ad + BitVec.signExtend 64 off &&& 18446744073709551614#64) 2#64)
  (cond (!c.tag)
   (some (AV.agg [(AV.bool ((v_check_Refused xby 2#64).is)), (AV.int (IntKind.i64) ((v_check_Refused xby 2#64).cause)), (AV.int (IntKind.u64) ((v_check_Refused xby 2#64).val))]))
   (cond ((v_check_lacks c 2#64 17#64).no)
    (some (AV.agg [(AV.bool ((v_check_Refused xby (v_check_lacks c 2#64 17#64).why).is)), (AV.int (IntKind.i64) ((v_check_Refused xby (v_check_lacks c 2#64 17#64).why).cause)), (AV.int (IntKind.u64) ((v_check_Refused xby (v_check_lacks c 2#64 17#64).why).val))]))
    (cond ((v_check_outside c (c.ad + BitVec.signExtend 64 off &&& 18446744073709551614#64) 2#64).no)
     (some (AV.agg [(AV.bool ((v_check_Refused xby (v_check_outside c (c.ad + BitVec.signExtend 64 off &&& 18446744073709551614#64) 2#64).why).is)), (AV.int (IntKind.i64) ((v_check_Refused xby (v_check_outside c (c.ad + BitVec.signExtend 64 off &&& 18446744073709551614#64) 2#64).why).cause)), (AV.int (IntKind.u64) ((v_check_Refused xby (v_check_outside c (c.ad + BitVec.signExtend 64 off &&& 18446744073709551614#64) 2#64).why).val))]))
     (some (AV.agg [(AV.bool (false)), (AV.int (IntKind.i64) (0#64)), (AV.int (IntKind.u64) (0#64))])))))
  none)) by kernel_rfl).trans ((merG _ (Tr.av) (merG _ (Tr.av) (merR _ (Tr.av) (merG _ (Tr.av) rfl rfl)) (merR _ (Tr.av) (merG _ (Tr.av) rfl (merG _ (Tr.av) rfl (merG _ (Tr.av) rfl (merG _ (Tr.av) rfl rfl)))))) (merR _ (Tr.av) (merG _ (Tr.av) rfl (merG _ (Tr.av) rfl (merG _ (Tr.av) rfl rfl))))))
noncomputable def C_23 : Oracle := pureGE 23 (pure3 dCp dI64 dI64 (fun c xby off => .tup [.bool (g_check_Jump c xby off), (v_check_Jump c xby off).av])) (C_26)
theorem C_23_snd : Snd Try.prog C_23 := pureGE_snd (pure3_gok (F := F23) (C_26_snd) Try.func23 (by kernel_rfl) run_23 (fun _ _ _ => rfl)) (C_26_snd)

/- ravelin/ravelinref23.Jump -/
def F27 : Cfg := { F := 400, roots := [0, 1, 2, 3, 4], fl := ⟨true, false⟩ }
theorem run_27 : ∀ (c : Cp) (xby : BitVec 64) (off : BitVec 64), pureRun Try.prog C_23 F27 Try.f27 [c.av, .int .i64 xby, .int .i64 off] = some ((v_r23_Jump c xby off).av) := fun c xby off =>
 (show pureRun Try.prog C_23 F27 Try.f27 [c.av, .int .i64 xby, .int .i64 off] = (cond (!c.ty == 262143#64)
 (cond (!c.ty == 262142#64)
  (some (AV.agg [(AV.bool ((v_r23_runs c xby ((c.ad + BitVec.signExtend 64 off) >>> 1 <<< 1) (2#64) true).is)), (AV.int (IntKind.i64) ((v_r23_runs c xby ((c.ad + BitVec.signExtend 64 off) >>> 1 <<< 1) (2#64) true).cause)), (AV.int (IntKind.u64) ((v_r23_runs c xby ((c.ad + BitVec.signExtend 64 off) >>> 1 <<< 1) (2#64) true).val))]))
  (some (AV.agg [(AV.bool ((v_r23_runs c xby ((c.ad + BitVec.signExtend 64 off) >>> 1 <<< 1) 2#64 !off == 0#64).is)), (AV.int (IntKind.i64) ((v_r23_runs c xby ((c.ad + BitVec.signExtend 64 off) >>> 1 <<< 1) 2#64 !off == 0#64).cause)), (AV.int (IntKind.u64) ((v_r23_runs c xby ((c.ad + BitVec.signExtend 64 off) >>> 1 <<< 1) 2#64 !off == 0#64).val))])))
 (some (AV.agg [(AV.bool ((v_r23_runs c xby ((c.ad + BitVec.signExtend 64 off) >>> 1 <<< 1) (2#64) false).is)), (AV.int (IntKind.i64) ((v_r23_runs c xby ((c.ad + BitVec.signExtend 64 off) >>> 1 <<< 1) (2#64) false).cause)), (AV.int (IntKind.u64) ((v_r23_runs c xby ((c.ad + BitVec.signExtend 64 off) >>> 1 <<< 1) (2#64) false).val))]))) by kernel_rfl).trans ((mer _ (Tr.av) (mer _ (Tr.av) rfl rfl) rfl))
noncomputable def C_27 : Oracle := pureE 27 (pure3 dCp dI64 dI64 (fun c xby off => (v_r23_Jump c xby off).av)) (C_23)
theorem C_27_snd : Snd Try.prog C_27 := pureE_snd (pure3_ok (F := F27) (C_23_snd) Try.func27 (by kernel_rfl) run_27 (fun _ _ _ => rfl)) (C_23_snd)

/- ravelin/ravelinlaw23.CheckRuns -/
def F8 : Cfg := { F := 400, roots := [0, 1, 2, 3, 4, 5], fl := ⟨true, false⟩ }
theorem run_8 : ∀ (c : Cp) (v : Cp) (xby : BitVec 64) (off : BitVec 64) (n : BitVec 64), pureRun Try.prog C_27 F8 Try.f8 [c.av, v.av, .int .i64 xby, .int .i64 off, .int .i64 n] = t_l23_CheckRuns c v xby off n := fun c v xby off n =>
  by kernel_rfl
theorem snd_8 : Snd Try.prog (C_27) := C_27_snd

end Go.Proofs.Ytmlhjbdhpojjkaa

import Derived.Test.YtgmemioomkbofaaSxW
import Derived.Test.YtgmemioomkbofaaSxY
import Derived.Test.YtgmemioomkbofaaSxLen2
import Derived.Test.YtgmemioomkbofaaVa03
import Derived.KernelRfl
import Derived.Test.YtgmemioomkbofaaProg
set_option linter.unusedSimpArgs false
set_option linter.unusedVariables false
set_option linter.unnecessarySimpa false
/- What the functions of the seat answer. -/
namespace Go.Proofs.Ytgmemioomkbofaa
open Go Go.Sx Go.Proofs
set_option maxRecDepth 100000
set_option maxHeartbeats 4000000
noncomputable def C_60 : Oracle := pureE 60 add64S (nothing)
theorem C_60_snd : Snd Try.prog C_60 := pureE_snd (add64_ok Try.func60 (by kernel_rfl) (by kernel_rfl) (by kernel_rfl) (by kernel_rfl)) (nothing_snd)

/- (ravelin/bounds.number).plus -/
def F27 : Cfg := { F := 400, roots := [0, 1, 2, 3, 4], fl := ⟨true, false⟩ }
theorem run_27 : ∀ (a : W2) (xb : W2), pureRun Try.prog C_60 F27 Try.f27 [a.av, xb.av] = some ((v_bounds_number_plus a xb).av) := fun a xb =>
 (show pureRun Try.prog C_60 F27 Try.f27 [a.av, xb.av] = (some (AV.agg [(AV.int (IntKind.u64) ((a.hi + xb.hi + bif (a.lo + xb.lo).ult a.lo then 1#64 else 0#64) &&& 1#64)), (AV.int (IntKind.u64) (a.lo + xb.lo))])) by kernel_rfl).trans (rfl)
noncomputable def C_27 : Oracle := pureE 27 (pure2 dW2 dW2 (fun a xb => (v_bounds_number_plus a xb).av)) (C_60)
theorem C_27_snd : Snd Try.prog C_27 := pureE_snd (pure2_ok (F := F27) (C_60_snd) Try.func27 (by kernel_rfl) run_27 (fun _ _ => rfl)) (C_60_snd)

/- math/bits.Len64 -/
def F28 : Cfg := { F := 400, roots := [0, 1], fl := ⟨true, false⟩ }
noncomputable def C_28 : Oracle := pureE 28 (pure1 dU64 (fun a => .int .i64 (v_bits_Len64 a))) (C_27)
theorem run_28 : ∀ a : BitVec 64, pureRun Try.prog C_27 F28 Try.f28 [.int .u64 a] = some (.int .i64 (v_bits_Len64 a)) := fun a => (show pureRun Try.prog C_27 F28 Try.f28 [.int .u64 a] = ltree a by kernel_rfl).trans (ltree_eq a)
theorem C_28_snd : Snd Try.prog C_28 := pureE_snd (pure1_ok (F := F28) (C_27_snd) Try.func28 (by kernel_rfl) run_28 (fun _ => rfl)) (C_27_snd)

/- (ravelin/bounds.number).down -/
def F61 : Cfg := { F := 400, roots := [0, 1, 2, 3], fl := ⟨true, false⟩ }
theorem run_61 : ∀ (a : W2) (n : BitVec 64), pureRun Try.prog C_28 F61 Try.f61 [a.av, .int .i64 n] = cond (g_bounds_number_down a n) (some ((fun (p : W2 × Bool) => .tup [((p.1)).av, .bool (p.2)]) (v_bounds_number_down a n))) none := fun a n =>
 (show pureRun Try.prog C_28 F61 Try.f61 [a.av, .int .i64 n] = (cond (n == 0#64)
 (some (AV.tup [(AV.agg [(AV.int (IntKind.u64) (a.hi)), (AV.int (IntKind.u64) (a.lo))]), (AV.bool (false))]))
 (cond (nonneg IntKind.i64 n)
 (cond (nonneg IntKind.i64 (64#64 - n))
 (cond (nonneg IntKind.i64 (64#64 - n))
 (some (AV.tup [(AV.agg [(AV.int (IntKind.u64) (0#64)), (AV.int (IntKind.u64) (a.lo >>> min n.toNat 64 ||| a.hi <<< min (64#64 - n).toNat 64))]), (AV.bool (!a.lo <<< min (64#64 - n).toNat 64 == 0#64))]))
    none)
   none)
  none)) by kernel_rfl).trans ((merG _ (fun (p : W2 × Bool) => .tup [((p.1)).av, .bool (p.2)]) rfl (merR _ (fun (p : W2 × Bool) => .tup [((p.1)).av, .bool (p.2)]) (merR _ (fun (p : W2 × Bool) => .tup [((p.1)).av, .bool (p.2)]) (merR _ (fun (p : W2 × Bool) => .tup [((p.1)).av, .bool (p.2)]) rfl)))))
noncomputable def C_61 : Oracle := pureGE 61 (pure2 dW2 dI64 (fun a n => .tup [.bool (g_bounds_number_down a n), (fun (p : W2 × Bool) => .tup [((p.1)).av, .bool (p.2)]) (v_bounds_number_down a n)])) (C_28)
theorem C_61_snd : Snd Try.prog C_61 := pureGE_snd (pure2_gok (F := F61) (C_28_snd) Try.func61 (by kernel_rfl) run_61 (fun _ _ => rfl)) (C_28_snd)

/- ravelin/bounds.truth -/
def F30 : Cfg := { F := 400, roots := [0, 1], fl := ⟨true, false⟩ }
theorem run_30 : ∀ (xis : Bool), pureRun Try.prog C_61 F30 Try.f30 [.bool xis] = some (.int .i64 (v_bounds_truth xis)) := fun xis =>
 (show pureRun Try.prog C_61 F30 Try.f30 [.bool xis] = (cond (xis)
 (some (AV.int (IntKind.i64) (1#64)))
 (some (AV.int (IntKind.i64) (0#64)))) by kernel_rfl).trans (by
    delta v_bounds_truth
    refine (mer _ (fun p => .int .i64 p) ?_ ?_)
    all_goals first | with_reducible rfl | rfl)
noncomputable def C_30 : Oracle := pureE 30 (pure1 dBool (fun xis => .int .i64 (v_bounds_truth xis))) (C_61)
theorem C_30_snd : Snd Try.prog C_30 := pureE_snd (pure1_ok (F := F30) (C_61_snd) Try.func30 (by kernel_rfl) run_30 (fun _ => rfl)) (C_61_snd)

/- ravelin/bounds.mantissas -/
def F29 : Cfg := { F := 400, roots := [0, 1, 2, 3, 4, 5, 6, 7, 8], fl := ⟨true, false⟩ }
theorem run_29 : ∀ (xfrom : W2) (xto : W2) (xe : BitVec 64), pureRun Try.prog C_30 F29 Try.f29 [xfrom.av, xto.av, .int .i64 xe] = cond (g_bounds_mantissas xfrom xto xe) (some ((fun (p : BitVec 64 × BitVec 64 × Bool × Bool) => .tup [.int .i64 (p.1), .int .i64 (p.2.1), .bool (p.2.2.1), .bool (p.2.2.2)]) (v_bounds_mantissas xfrom xto xe))) none := fun xfrom xto xe =>
 (show pureRun Try.prog C_30 F29 Try.f29 [xfrom.av, xto.av, .int .i64 xe] = (cond (g_bounds_number_down xfrom (xe + 3#64))
 (cond (g_bounds_number_down xto (xe + 3#64))
 (some (AV.tup [(AV.int (IntKind.i64) (BitVec.setWidth 64 ((v_bounds_number_down xfrom (xe + 3#64)).fst.lo &&& 2047#64))), (AV.int (IntKind.i64) (BitVec.setWidth 64 ((v_bounds_number_down xto (xe + 3#64)).fst.lo &&& 2047#64) + v_bounds_truth (v_bounds_number_down xto (xe + 3#64)).snd &&& 2047#64)), (AV.bool ((v_bounds_number_down xfrom (xe + 3#64)).snd)), (AV.bool ((v_bounds_number_down xto (xe + 3#64)).snd))]))
  none)
 none) by kernel_rfl).trans ((merR _ (fun (p : BitVec 64 × BitVec 64 × Bool × Bool) => .tup [.int .i64 (p.1), .int .i64 (p.2.1), .bool (p.2.2.1), .bool (p.2.2.2)]) (merR _ (fun (p : BitVec 64 × BitVec 64 × Bool × Bool) => .tup [.int .i64 (p.1), .int .i64 (p.2.1), .bool (p.2.2.1), .bool (p.2.2.2)]) rfl)))
noncomputable def C_29 : Oracle := pureGE 29 (pure3 dW2 dW2 dI64 (fun xfrom xto xe => .tup [.bool (g_bounds_mantissas xfrom xto xe), (fun (p : BitVec 64 × BitVec 64 × Bool × Bool) => .tup [.int .i64 (p.1), .int .i64 (p.2.1), .bool (p.2.2.1), .bool (p.2.2.2)]) (v_bounds_mantissas xfrom xto xe)])) (C_30)
theorem C_29_snd : Snd Try.prog C_29 := pureGE_snd (pure3_gok (F := F29) (C_30_snd) Try.func29 (by kernel_rfl) run_29 (fun _ _ _ => rfl)) (C_30_snd)

/- ravelin/bounds.Lay -/
def F11 : Cfg := { F := 400, roots := [0, 1, 2, 3, 4, 5, 6, 7, 8, 9, 10], fl := ⟨true, false⟩ }
theorem run_11 : ∀ (c : Cp) (n : BitVec 64), pureRun Try.prog C_29 F11 Try.f11 [c.av, .int .u64 n] = cond (g_bounds_Lay c n) (some ((fun (p : Cp × Bool) => .tup [((p.1)).av, .bool (p.2)]) (v_bounds_Lay c n))) none := fun c n =>
 (show pureRun Try.prog C_29 F11 Try.f11 [c.av, .int .u64 n] = (cond ((0#64).slt (bif (0#64).slt (v_bits_Len64 n - 13#64) then v_bits_Len64 n - 13#64 else 0#64))
 (cond (g_bounds_mantissas { hi := 0#64, lo := c.ad } (v_bounds_number_plus { hi := 0#64, lo := c.ad } { hi := 0#64, lo := n }) (bif (0#64).slt (v_bits_Len64 n - 13#64) then v_bits_Len64 n - 13#64 else 0#64))
 (cond (!(v_bounds_mantissas { hi := 0#64, lo := c.ad } (v_bounds_number_plus { hi := 0#64, lo := c.ad } { hi := 0#64, lo := n }) (bif (0#64).slt (v_bits_Len64 n - 13#64) then v_bits_Len64 n - 13#64 else 0#64)).snd.fst - (v_bounds_mantissas { hi := 0#64, lo := c.ad } (v_bounds_number_plus { hi := 0#64, lo := c.ad } { hi := 0#64, lo := n }) (bif (0#64).slt (v_bits_Len64 n - 13#64) then v_bits_Len64 n - 13#64 else 0#64)).fst &&& 1024#64 == 0#64)
 (cond (g_bounds_mantissas { hi := 0#64, lo := c.ad } (v_bounds_number_plus { hi := 0#64, lo := c.ad } { hi := 0#64, lo := n }) ((bif (0#64).slt (v_bits_Len64 n - 13#64) then v_bits_Len64 n - 13#64 else 0#64) + 1#64))
 (cond (!(v_bounds_mantissas { hi := 0#64, lo := c.ad } (v_bounds_number_plus { hi := 0#64, lo := c.ad } { hi := 0#64, lo := n }) ((bif (0#64).slt (v_bits_Len64 n - 13#64) then v_bits_Len64 n - 13#64 else 0#64) + 1#64)).snd.snd.fst)
 (some (AV.tup [(AV.agg [(AV.bool (c.tag)), (AV.int (IntKind.i64) (c.per)), (AV.int (IntKind.i64) (c.ty)), (AV.int (IntKind.i64) (c.mo)), (AV.int (IntKind.i64) ((bif (0#64).slt (v_bits_Len64 n - 13#64) then v_bits_Len64 n - 13#64 else 0#64) + 1#64)), (AV.int (IntKind.i64) ((v_bounds_mantissas { hi := 0#64, lo := c.ad } (v_bounds_number_plus { hi := 0#64, lo := c.ad } { hi := 0#64, lo := n }) ((bif (0#64).slt (v_bits_Len64 n - 13#64) then v_bits_Len64 n - 13#64 else 0#64) + 1#64)).fst <<< 3)), (AV.int (IntKind.i64) ((v_bounds_mantissas { hi := 0#64, lo := c.ad } (v_bounds_number_plus { hi := 0#64, lo := c.ad } { hi := 0#64, lo := n }) ((bif (0#64).slt (v_bits_Len64 n - 13#64) then v_bits_Len64 n - 13#64 else 0#64) + 1#64)).snd.fst <<< 3 &&& 4095#64)), (AV.bool (true)), (AV.int (IntKind.u64) (c.ad))]), (AV.bool (!(v_bounds_mantissas { hi := 0#64, lo := c.ad } (v_bounds_number_plus { hi := 0#64, lo := c.ad } { hi := 0#64, lo := n }) ((bif (0#64).slt (v_bits_Len64 n - 13#64) then v_bits_Len64 n - 13#64 else 0#64) + 1#64)).snd.snd.snd))]))
 (some (AV.tup [(AV.agg [(AV.bool (c.tag)), (AV.int (IntKind.i64) (c.per)), (AV.int (IntKind.i64) (c.ty)), (AV.int (IntKind.i64) (c.mo)), (AV.int (IntKind.i64) ((bif (0#64).slt (v_bits_Len64 n - 13#64) then v_bits_Len64 n - 13#64 else 0#64) + 1#64)), (AV.int (IntKind.i64) ((v_bounds_mantissas { hi := 0#64, lo := c.ad } (v_bounds_number_plus { hi := 0#64, lo := c.ad } { hi := 0#64, lo := n }) ((bif (0#64).slt (v_bits_Len64 n - 13#64) then v_bits_Len64 n - 13#64 else 0#64) + 1#64)).fst <<< 3)), (AV.int (IntKind.i64) ((v_bounds_mantissas { hi := 0#64, lo := c.ad } (v_bounds_number_plus { hi := 0#64, lo := c.ad } { hi := 0#64, lo := n }) ((bif (0#64).slt (v_bits_Len64 n - 13#64) then v_bits_Len64 n - 13#64 else 0#64) + 1#64)).snd.fst <<< 3 &&& 4095#64)), (AV.bool (true)), (AV.int (IntKind.u64) (c.ad))]), (AV.bool (false))])))
    none)
 (cond (!(v_bounds_mantissas { hi := 0#64, lo := c.ad } (v_bounds_number_plus { hi := 0#64, lo := c.ad } { hi := 0#64, lo := n }) (bif (0#64).slt (v_bits_Len64 n - 13#64) then v_bits_Len64 n - 13#64 else 0#64)).snd.snd.fst)
 (some (AV.tup [(AV.agg [(AV.bool (c.tag)), (AV.int (IntKind.i64) (c.per)), (AV.int (IntKind.i64) (c.ty)), (AV.int (IntKind.i64) (c.mo)), (AV.int (IntKind.i64) (bif (0#64).slt (v_bits_Len64 n - 13#64) then v_bits_Len64 n - 13#64 else 0#64)), (AV.int (IntKind.i64) ((v_bounds_mantissas { hi := 0#64, lo := c.ad } (v_bounds_number_plus { hi := 0#64, lo := c.ad } { hi := 0#64, lo := n }) (bif (0#64).slt (v_bits_Len64 n - 13#64) then v_bits_Len64 n - 13#64 else 0#64)).fst <<< 3)), (AV.int (IntKind.i64) ((v_bounds_mantissas { hi := 0#64, lo := c.ad } (v_bounds_number_plus { hi := 0#64, lo := c.ad } { hi := 0#64, lo := n }) (bif (0#64).slt (v_bits_Len64 n - 13#64) then v_bits_Len64 n - 13#64 else 0#64)).snd.fst <<< 3 &&& 4095#64)), (AV.bool (true)), (AV.int (IntKind.u64) (c.ad))]), (AV.bool (!(v_bounds_mantissas { hi := 0#64, lo := c.ad } (v_bounds_number_plus { hi := 0#64, lo := c.ad } { hi := 0#64, lo := n }) (bif (0#64).slt (v_bits_Len64 n - 13#64) then v_bits_Len64 n - 13#64 else 0#64)).snd.snd.snd))]))
 (some (AV.tup [(AV.agg [(AV.bool (c.tag)), (AV.int (IntKind.i64) (c.per)), (AV.int (IntKind.i64) (c.ty)), (AV.int (IntKind.i64) (c.mo)), (AV.int (IntKind.i64) (bif (0#64).slt (v_bits_Len64 n - 13#64) then v_bits_Len64 n - 13#64 else 0#64)), (AV.int (IntKind.i64) ((v_bounds_mantissas { hi := 0#64, lo := c.ad } (v_bounds_number_plus { hi := 0#64, lo := c.ad } { hi := 0#64, lo := n }) (bif (0#64).slt (v_bits_Len64 n - 13#64) then v_bits_Len64 n - 13#64 else 0#64)).fst <<< 3)), (AV.int (IntKind.i64) ((v_bounds_mantissas { hi := 0#64, lo := c.ad } (v_bounds_number_plus { hi := 0#64, lo := c.ad } { hi := 0#64, lo := n }) (bif (0#64).slt (v_bits_Len64 n - 13#64) then v_bits_Len64 n - 13#64 else 0#64)).snd.fst <<< 3 &&& 4095#64)), (AV.bool (true)), (AV.int (IntKind.u64) (c.ad))]), (AV.bool (false))]))))
  none)
 (cond (!n >>> 12 &&& 1#64 == 1#64)
 (some (AV.tup [(AV.agg [(AV.bool (c.tag)), (AV.int (IntKind.i64) (c.per)), (AV.int (IntKind.i64) (c.ty)), (AV.int (IntKind.i64) (c.mo)), (AV.int (IntKind.i64) (0#64)), (AV.int (IntKind.i64) (BitVec.setWidth 64 (c.ad &&& 16383#64))), (AV.int (IntKind.i64) (BitVec.setWidth 64 ((v_bounds_number_plus { hi := 0#64, lo := c.ad } { hi := 0#64, lo := n }).lo &&& 4095#64))), (AV.bool (n >>> 12 &&& 1#64 == 1#64)), (AV.int (IntKind.u64) (c.ad))]), (AV.bool (true))]))
 (cond (g_bounds_mantissas { hi := 0#64, lo := c.ad } (v_bounds_number_plus { hi := 0#64, lo := c.ad } { hi := 0#64, lo := n }) (bif (0#64).slt (v_bits_Len64 n - 13#64) then v_bits_Len64 n - 13#64 else 0#64))
 (cond (!(v_bounds_mantissas { hi := 0#64, lo := c.ad } (v_bounds_number_plus { hi := 0#64, lo := c.ad } { hi := 0#64, lo := n }) (bif (0#64).slt (v_bits_Len64 n - 13#64) then v_bits_Len64 n - 13#64 else 0#64)).snd.fst - (v_bounds_mantissas { hi := 0#64, lo := c.ad } (v_bounds_number_plus { hi := 0#64, lo := c.ad } { hi := 0#64, lo := n }) (bif (0#64).slt (v_bits_Len64 n - 13#64) then v_bits_Len64 n - 13#64 else 0#64)).fst &&& 1024#64 == 0#64)
 (cond (g_bounds_mantissas { hi := 0#64, lo := c.ad } (v_bounds_number_plus { hi := 0#64, lo := c.ad } { hi := 0#64, lo := n }) ((bif (0#64).slt (v_bits_Len64 n - 13#64) then v_bits_Len64 n - 13#64 else 0#64) + 1#64))
 (cond (!(v_bounds_mantissas { hi := 0#64, lo := c.ad } (v_bounds_number_plus { hi := 0#64, lo := c.ad } { hi := 0#64, lo := n }) ((bif (0#64).slt (v_bits_Len64 n - 13#64) then v_bits_Len64 n - 13#64 else 0#64) + 1#64)).snd.snd.fst)
 (some (AV.tup [(AV.agg [(AV.bool (c.tag)), (AV.int (IntKind.i64) (c.per)), (AV.int (IntKind.i64) (c.ty)), (AV.int (IntKind.i64) (c.mo)), (AV.int (IntKind.i64) ((bif (0#64).slt (v_bits_Len64 n - 13#64) then v_bits_Len64 n - 13#64 else 0#64) + 1#64)), (AV.int (IntKind.i64) ((v_bounds_mantissas { hi := 0#64, lo := c.ad } (v_bounds_number_plus { hi := 0#64, lo := c.ad } { hi := 0#64, lo := n }) ((bif (0#64).slt (v_bits_Len64 n - 13#64) then v_bits_Len64 n - 13#64 else 0#64) + 1#64)).fst <<< 3)), (AV.int (IntKind.i64) ((v_bounds_mantissas { hi := 0#64, lo := c.ad } (v_bounds_number_plus { hi := 0#64, lo := c.ad } { hi := 0#64, lo := n }) ((bif (0#64).slt (v_bits_Len64 n - 13#64) then v_bits_Len64 n - 13#64 else 0#64) + 1#64)).snd.fst <<< 3 &&& 4095#64)), (AV.bool (n >>> 12 &&& 1#64 == 1#64)), (AV.int (IntKind.u64) (c.ad))]), (AV.bool (!(v_bounds_mantissas { hi := 0#64, lo := c.ad } (v_bounds_number_plus { hi := 0#64, lo := c.ad } { hi := 0#64, lo := n }) ((bif (0#64).slt (v_bits_Len64 n - 13#64) then v_bits_Len64 n - 13#64 else 0#64) + 1#64)).snd.snd.snd))]))
 (some (AV.tup [(AV.agg [(AV.bool (c.tag)), (AV.int (IntKind.i64) (c.per)), (AV.int (IntKind.i64) (c.ty)), (AV.int (IntKind.i64) (c.mo)), (AV.int (IntKind.i64) ((bif (0#64).slt (v_bits_Len64 n - 13#64) then v_bits_Len64 n - 13#64 else 0#64) + 1#64)), (AV.int (IntKind.i64) ((v_bounds_mantissas { hi := 0#64, lo := c.ad } (v_bounds_number_plus { hi := 0#64, lo := c.ad } { hi := 0#64, lo := n }) ((bif (0#64).slt (v_bits_Len64 n - 13#64) then v_bits_Len64 n - 13#64 else 0#64) + 1#64)).fst <<< 3)), (AV.int (IntKind.i64) ((v_bounds_mantissas { hi := 0#64, lo := c.ad } (v_bounds_number_plus { hi := 0#64, lo := c.ad } { hi := 0#64, lo := n }) ((bif (0#64).slt (v_bits_Len64 n - 13#64) then v_bits_Len64 n - 13#64 else 0#64) + 1#64)).snd.fst <<< 3 &&& 4095#64)), (AV.bool (n >>> 12 &&& 1#64 == 1#64)), (AV.int (IntKind.u64) (c.ad))]), (AV.bool (false))])))
     none)
 (cond (!(v_bounds_mantissas { hi := 0#64, lo := c.ad } (v_bounds_number_plus { hi := 0#64, lo := c.ad } { hi := 0#64, lo := n }) (bif (0#64).slt (v_bits_Len64 n - 13#64) then v_bits_Len64 n - 13#64 else 0#64)).snd.snd.fst)
 (some (AV.tup [(AV.agg [(AV.bool (c.tag)), (AV.int (IntKind.i64) (c.per)), (AV.int (IntKind.i64) (c.ty)), (AV.int (IntKind.i64) (c.mo)), (AV.int (IntKind.i64) (bif (0#64).slt (v_bits_Len64 n - 13#64) then v_bits_Len64 n - 13#64 else 0#64)), (AV.int (IntKind.i64) ((v_bounds_mantissas { hi := 0#64, lo := c.ad } (v_bounds_number_plus { hi := 0#64, lo := c.ad } { hi := 0#64, lo := n }) (bif (0#64).slt (v_bits_Len64 n - 13#64) then v_bits_Len64 n - 13#64 else 0#64)).fst <<< 3)), (AV.int (IntKind.i64) ((v_bounds_mantissas { hi := 0#64, lo := c.ad } (v_bounds_number_plus { hi := 0#64, lo := c.ad } { hi := 0#64, lo := n }) (bif (0#64).slt (v_bits_Len64 n - 13#64) then v_bits_Len64 n - 13#64 else 0#64)).snd.fst <<< 3 &&& 4095#64)), (AV.bool (n >>> 12 &&& 1#64 == 1#64)), (AV.int (IntKind.u64) (c.ad))]), (AV.bool (!(v_bounds_mantissas { hi := 0#64, lo := c.ad } (v_bounds_number_plus { hi := 0#64, lo := c.ad } { hi := 0#64, lo := n }) (bif (0#64).slt (v_bits_Len64 n - 13#64) then v_bits_Len64 n - 13#64 else 0#64)).snd.snd.snd))]))
 (some (AV.tup [(AV.agg [(AV.bool (c.tag)), (AV.int (IntKind.i64) (c.per)), (AV.int (IntKind.i64) (c.ty)), (AV.int (IntKind.i64) (c.mo)), (AV.int (IntKind.i64) (bif (0#64).slt (v_bits_Len64 n - 13#64) then v_bits_Len64 n - 13#64 else 0#64)), (AV.int (IntKind.i64) ((v_bounds_mantissas { hi := 0#64, lo := c.ad } (v_bounds_number_plus { hi := 0#64, lo := c.ad } { hi := 0#64, lo := n }) (bif (0#64).slt (v_bits_Len64 n - 13#64) then v_bits_Len64 n - 13#64 else 0#64)).fst <<< 3)), (AV.int (IntKind.i64) ((v_bounds_mantissas { hi := 0#64, lo := c.ad } (v_bounds_number_plus { hi := 0#64, lo := c.ad } { hi := 0#64, lo := n }) (bif (0#64).slt (v_bits_Len64 n - 13#64) then v_bits_Len64 n - 13#64 else 0#64)).snd.fst <<< 3 &&& 4095#64)), (AV.bool (n >>> 12 &&& 1#64 == 1#64)), (AV.int (IntKind.u64) (c.ad))]), (AV.bool (false))]))))
   none))) by kernel_rfl).trans ((merG _ (fun (p : Cp × Bool) => .tup [((p.1)).av, .bool (p.2)]) (merR _ (fun (p : Cp × Bool) => .tup [((p.1)).av, .bool (p.2)]) (merG _ (fun (p : Cp × Bool) => .tup [((p.1)).av, .bool (p.2)]) (merR _ (fun (p : Cp × Bool) => .tup [((p.1)).av, .bool (p.2)]) (merG _ (fun (p : Cp × Bool) => .tup [((p.1)).av, .bool (p.2)]) rfl rfl)) (merG _ (fun (p : Cp × Bool) => .tup [((p.1)).av, .bool (p.2)]) rfl rfl))) (merG _ (fun (p : Cp × Bool) => .tup [((p.1)).av, .bool (p.2)]) rfl (merR _ (fun (p : Cp × Bool) => .tup [((p.1)).av, .bool (p.2)]) (merG _ (fun (p : Cp × Bool) => .tup [((p.1)).av, .bool (p.2)]) (merR _ (fun (p : Cp × Bool) => .tup [((p.1)).av, .bool (p.2)]) (merG _ (fun (p : Cp × Bool) => .tup [((p.1)).av, .bool (p.2)]) rfl rfl)) (merG _ (fun (p : Cp × Bool) => .tup [((p.1)).av, .bool (p.2)]) rfl rfl))))))
noncomputable def C_11 : Oracle := pureGE 11 (pure2 dCp dU64 (fun c n => .tup [.bool (g_bounds_Lay c n), (fun (p : Cp × Bool) => .tup [((p.1)).av, .bool (p.2)]) (v_bounds_Lay c n)])) (C_29)
theorem C_11_snd : Snd Try.prog C_11 := pureGE_snd (pure2_gok (F := F11) (C_29_snd) Try.func11 (by kernel_rfl) run_11 (fun _ _ => rfl)) (C_29_snd)

/- ravelin/bounds.Mask -/
def F7 : Cfg := { F := 400, roots := [0, 1, 2, 3], fl := ⟨true, false⟩ }
theorem run_7 : ∀ (n : BitVec 64), pureRun Try.prog C_11 F7 Try.f7 [.int .u64 n] = cond (g_bounds_Mask n) (some (.int .u64 (v_bounds_Mask n))) none := fun n =>
 (show pureRun Try.prog C_11 F7 Try.f7 [.int .u64 n] = (cond (g_bounds_Lay { tag := false, per := BitVec.ofInt IntKind.i64.bits 0, ty := BitVec.ofInt IntKind.i64.bits 0, mo := BitVec.ofInt IntKind.i64.bits 0, e := BitVec.ofInt IntKind.i64.bits 0, b := BitVec.ofInt IntKind.i64.bits 0, t := BitVec.ofInt IntKind.i64.bits 0, big := false, ad := BitVec.ofInt IntKind.u64.bits 0 } n)
 (cond (!(v_bounds_Lay { tag := false, per := BitVec.ofInt IntKind.i64.bits 0, ty := BitVec.ofInt IntKind.i64.bits 0, mo := BitVec.ofInt IntKind.i64.bits 0, e := BitVec.ofInt IntKind.i64.bits 0, b := BitVec.ofInt IntKind.i64.bits 0, t := BitVec.ofInt IntKind.i64.bits 0, big := false, ad := BitVec.ofInt IntKind.u64.bits 0 } n).fst.big)
 (some (AV.int (IntKind.u64) (18446744073709551615#64)))
 (cond (nonneg IntKind.i64 ((v_bounds_Lay { tag := false, per := BitVec.ofInt IntKind.i64.bits 0, ty := BitVec.ofInt IntKind.i64.bits 0, mo := BitVec.ofInt IntKind.i64.bits 0, e := BitVec.ofInt IntKind.i64.bits 0, b := BitVec.ofInt IntKind.i64.bits 0, t := BitVec.ofInt IntKind.i64.bits 0, big := false, ad := BitVec.ofInt IntKind.u64.bits 0 } n).fst.e + 3#64))
 (some (AV.int (IntKind.u64) (18446744073709551615#64 <<< min ((v_bounds_Lay { tag := false, per := BitVec.ofInt IntKind.i64.bits 0, ty := BitVec.ofInt IntKind.i64.bits 0, mo := BitVec.ofInt IntKind.i64.bits 0, e := BitVec.ofInt IntKind.i64.bits 0, b := BitVec.ofInt IntKind.i64.bits 0, t := BitVec.ofInt IntKind.i64.bits 0, big := false, ad := BitVec.ofInt IntKind.u64.bits 0 } n).fst.e + 3#64).toNat 64)))
   none))
 none) by kernel_rfl).trans ((merR _ (fun p => .int .u64 p) (merG _ (fun p => .int .u64 p) rfl (merR _ (fun p => .int .u64 p) rfl))))
noncomputable def C_7 : Oracle := pureGE 7 (pure1 dU64 (fun n => .tup [.bool (g_bounds_Mask n), .int .u64 (v_bounds_Mask n)])) (C_11)
theorem C_7_snd : Snd Try.prog C_7 := pureGE_snd (pure1_gok (F := F7) (C_11_snd) Try.func7 (by kernel_rfl) run_7 (fun _ => rfl)) (C_11_snd)

/- ravelin/bounds.Round -/
def F8 : Cfg := { F := 400, roots := [0, 1, 2], fl := ⟨true, false⟩ }
theorem run_8 : ∀ (n : BitVec 64), pureRun Try.prog C_7 F8 Try.f8 [.int .u64 n] = cond (g_bounds_Round n) (some (.int .u64 (v_bounds_Round n))) none := fun n =>
 (show pureRun Try.prog C_7 F8 Try.f8 [.int .u64 n] = (cond (g_bounds_Mask n)
 (some (AV.int (IntKind.u64) (n + ~~~v_bounds_Mask n &&& v_bounds_Mask n)))
 none) by kernel_rfl).trans ((merR _ (fun p => .int .u64 p) rfl))
noncomputable def C_8 : Oracle := pureGE 8 (pure1 dU64 (fun n => .tup [.bool (g_bounds_Round n), .int .u64 (v_bounds_Round n)])) (C_7)
theorem C_8_snd : Snd Try.prog C_8 := pureGE_snd (pure1_gok (F := F8) (C_7_snd) Try.func8 (by kernel_rfl) run_8 (fun _ => rfl)) (C_7_snd)

/- ravelin/ravelinlaw03.fits -/
def F9 : Cfg := { F := 400, roots := [0, 1, 2], fl := ⟨true, false⟩ }
theorem run_9 : ∀ (xat : BitVec 64) (n : BitVec 64), pureRun Try.prog C_8 F9 Try.f9 [.int .u64 xat, .int .u64 n] = some (.bool (v_l03_fits xat n)) := fun xat n =>
 (show pureRun Try.prog C_8 F9 Try.f9 [.int .u64 xat, .int .u64 n] = (cond (xat.ule (xat + n))
 (some (AV.bool (true)))
 (some (AV.bool (xat + n == 0#64)))) by kernel_rfl).trans (by
    delta v_l03_fits
    refine (mer _ (fun p => .bool p) ?_ ?_)
    all_goals first | with_reducible rfl | rfl)
noncomputable def C_9 : Oracle := pureE 9 (pure2 dU64 dU64 (fun xat n => .bool (v_l03_fits xat n))) (C_8)
theorem C_9_snd : Snd Try.prog C_9 := pureE_snd (pure2_ok (F := F9) (C_8_snd) Try.func9 (by kernel_rfl) run_9 (fun _ _ => rfl)) (C_8_snd)

/- ravelin/bounds.signed -/
def F32 : Cfg := { F := 400, roots := [0, 1], fl := ⟨true, false⟩ }
theorem run_32 : ∀ (v : BitVec 64), pureRun Try.prog C_9 F32 Try.f32 [.int .i64 v] = some ((v_bounds_signed v).av) := fun v =>
 (show pureRun Try.prog C_9 F32 Try.f32 [.int .i64 v] = (some (AV.agg [(AV.int (IntKind.u64) (BitVec.signExtend 64 v >>> 63)), (AV.int (IntKind.u64) (BitVec.signExtend 64 v))])) by kernel_rfl).trans (rfl)
noncomputable def C_32 : Oracle := pureE 32 (pure1 dI64 (fun v => (v_bounds_signed v).av)) (C_9)
theorem C_32_snd : Snd Try.prog C_32 := pureE_snd (pure1_ok (F := F32) (C_9_snd) Try.func32 (by kernel_rfl) run_32 (fun _ => rfl)) (C_9_snd)

/- (ravelin/bounds.number).up -/
def F33 : Cfg := { F := 400, roots := [0, 1, 2], fl := ⟨true, false⟩ }
theorem run_33 : ∀ (a : W2) (n : BitVec 64), pureRun Try.prog C_32 F33 Try.f33 [a.av, .int .i64 n] = cond (g_bounds_number_up a n) (some ((v_bounds_number_up a n).av)) none := fun a n =>
 (show pureRun Try.prog C_32 F33 Try.f33 [a.av, .int .i64 n] = (cond (n == 0#64)
 (some (AV.agg [(AV.int (IntKind.u64) (a.hi)), (AV.int (IntKind.u64) (a.lo))]))
 (cond ((65#64).sle n)
 (some (AV.agg [(AV.int (IntKind.u64) (0#64)), (AV.int (IntKind.u64) (0#64))]))
 (cond (n == 64#64)
 (some (AV.agg [(AV.int (IntKind.u64) (a.lo &&& 1#64)), (AV.int (IntKind.u64) (0#64))]))
 (cond (nonneg IntKind.i64 (64#64 - n))
 (cond (nonneg IntKind.i64 n)
 (some (AV.agg [(AV.int (IntKind.u64) (a.lo >>> min (64#64 - n).toNat 64 &&& 1#64)), (AV.int (IntKind.u64) (a.lo <<< min n.toNat 64))]))
     none)
    none)))) by kernel_rfl).trans ((merG _ (W2.av) rfl (merG _ (W2.av) rfl (merG _ (W2.av) rfl (merR _ (W2.av) (merR _ (W2.av) rfl))))))
noncomputable def C_33 : Oracle := pureGE 33 (pure2 dW2 dI64 (fun a n => .tup [.bool (g_bounds_number_up a n), (v_bounds_number_up a n).av])) (C_32)
theorem C_33_snd : Snd Try.prog C_33 := pureGE_snd (pure2_gok (F := F33) (C_32_snd) Try.func33 (by kernel_rfl) run_33 (fun _ _ => rfl)) (C_32_snd)

/- ravelin/bounds.Of$1 -/
def F31 : Cfg := { F := 400, roots := [0, 1, 2], fl := ⟨true, false⟩ }
noncomputable def C_31 : Oracle := quietE Try.prog 31 Try.f31 F31 C_33 (C_33)
theorem C_31_snd : Snd Try.prog C_31 := quietE_snd Try.func31 (by kernel_rfl) C_33_snd C_33_snd

/- ravelin/bounds.Of -/
def F12 : Cfg := { F := 400, roots := [0, 1, 2, 3, 4, 5, 6, 7, 8], fl := ⟨true, false⟩ }
theorem run_12 : ∀ (c : Cp), pureRun Try.prog C_31 F12 Try.f12 [c.av] = cond (g_bounds_Of c) (some ((v_bounds_Of c).av)) none := fun c =>
 (show pureRun Try.prog C_31 F12 Try.f12 [c.av] = (cond (nonneg IntKind.i64 c.e)
 (cond ((c.e + 14#64).slt 64#64)
 (cond (nonneg IntKind.i64 (c.e + 14#64))
 (cond (g_bounds_number_up (v_bounds_signed (BitVec.setWidth 64 (c.ad >>> min (c.e + 14#64).toNat 64) + (v_bounds_truth (c.b.slt ((c.b.sshiftRight 11 - 1#64 &&& 7#64) <<< 11)) - v_bounds_truth ((BitVec.setWidth 64 (c.ad >>> min c.e.toNat 64) &&& 16383#64).slt ((c.b.sshiftRight 11 - 1#64 &&& 7#64) <<< 11))))) (c.e + 14#64))
 (cond (g_bounds_number_up { hi := 0#64, lo := BitVec.signExtend 64 c.b } c.e)
 (cond (g_bounds_number_up (v_bounds_signed (BitVec.setWidth 64 (c.ad >>> min (c.e + 14#64).toNat 64) + (v_bounds_truth ((c.t ||| (c.b.sshiftRight 12 + v_bounds_truth (c.t.slt (c.b &&& 4095#64)) + v_bounds_truth c.big &&& 3#64) <<< 12).slt ((c.b.sshiftRight 11 - 1#64 &&& 7#64) <<< 11)) - v_bounds_truth ((BitVec.setWidth 64 (c.ad >>> min c.e.toNat 64) &&& 16383#64).slt ((c.b.sshiftRight 11 - 1#64 &&& 7#64) <<< 11))))) (c.e + 14#64))
 (cond (g_bounds_number_up { hi := 0#64, lo := BitVec.signExtend 64 (c.t ||| (c.b.sshiftRight 12 + v_bounds_truth (c.t.slt (c.b &&& 4095#64)) + v_bounds_truth c.big &&& 3#64) <<< 12) } c.e)
 (cond (c.e.slt 51#64)
 (cond ((1#64).ult ((v_bounds_number_plus (v_bounds_number_up (v_bounds_signed (BitVec.setWidth 64 (c.ad >>> min (c.e + 14#64).toNat 64) + (v_bounds_truth ((c.t ||| (c.b.sshiftRight 12 + v_bounds_truth (c.t.slt (c.b &&& 4095#64)) + v_bounds_truth c.big &&& 3#64) <<< 12).slt ((c.b.sshiftRight 11 - 1#64 &&& 7#64) <<< 11)) - v_bounds_truth ((BitVec.setWidth 64 (c.ad >>> min c.e.toNat 64) &&& 16383#64).slt ((c.b.sshiftRight 11 - 1#64 &&& 7#64) <<< 11))))) (c.e + 14#64)) (v_bounds_number_up { hi := 0#64, lo := BitVec.signExtend 64 (c.t ||| (c.b.sshiftRight 12 + v_bounds_truth (c.t.slt (c.b &&& 4095#64)) + v_bounds_truth c.big &&& 3#64) <<< 12) } c.e)).hi <<< 1 + (v_bounds_number_plus (v_bounds_number_up (v_bounds_signed (BitVec.setWidth 64 (c.ad >>> min (c.e + 14#64).toNat 64) + (v_bounds_truth ((c.t ||| (c.b.sshiftRight 12 + v_bounds_truth (c.t.slt (c.b &&& 4095#64)) + v_bounds_truth c.big &&& 3#64) <<< 12).slt ((c.b.sshiftRight 11 - 1#64 &&& 7#64) <<< 11)) - v_bounds_truth ((BitVec.setWidth 64 (c.ad >>> min c.e.toNat 64) &&& 16383#64).slt ((c.b.sshiftRight 11 - 1#64 &&& 7#64) <<< 11))))) (c.e + 14#64)) (v_bounds_number_up { hi := 0#64, lo := BitVec.signExtend 64 (c.t ||| (c.b.sshiftRight 12 + v_bounds_truth (c.t.slt (c.b &&& 4095#64)) + v_bounds_truth c.big &&& 3#64) <<< 12) } c.e)).lo >>> 63 - (v_bounds_number_plus (v_bounds_number_up (v_bounds_signed (BitVec.setWidth 64 (c.ad >>> min (c.e + 14#64).toNat 64) + (v_bounds_truth (c.b.slt ((c.b.sshiftRight 11 - 1#64 &&& 7#64) <<< 11)) - v_bounds_truth ((BitVec.setWidth 64 (c.ad >>> min c.e.toNat 64) &&& 16383#64).slt ((c.b.sshiftRight 11 - 1#64 &&& 7#64) <<< 11))))) (c.e + 14#64)) (v_bounds_number_up { hi := 0#64, lo := BitVec.signExtend 64 c.b } c.e)).lo >>> 63 &&& 3#64))
 (some (AV.agg [(AV.int (IntKind.u64) ((v_bounds_number_plus (v_bounds_number_up (v_bounds_signed (BitVec.setWidth 64 (c.ad >>> min (c.e + 14#64).toNat 64) + (v_bounds_truth (c.b.slt ((c.b.sshiftRight 11 - 1#64 &&& 7#64) <<< 11)) - v_bounds_truth ((BitVec.setWidth 64 (c.ad >>> min c.e.toNat 64) &&& 16383#64).slt ((c.b.sshiftRight 11 - 1#64 &&& 7#64) <<< 11))))) (c.e + 14#64)) (v_bounds_number_up { hi := 0#64, lo := BitVec.signExtend 64 c.b } c.e)).lo)), (AV.int (IntKind.u64) ((v_bounds_number_plus (v_bounds_number_up (v_bounds_signed (BitVec.setWidth 64 (c.ad >>> min (c.e + 14#64).toNat 64) + (v_bounds_truth ((c.t ||| (c.b.sshiftRight 12 + v_bounds_truth (c.t.slt (c.b &&& 4095#64)) + v_bounds_truth c.big &&& 3#64) <<< 12).slt ((c.b.sshiftRight 11 - 1#64 &&& 7#64) <<< 11)) - v_bounds_truth ((BitVec.setWidth 64 (c.ad >>> min c.e.toNat 64) &&& 16383#64).slt ((c.b.sshiftRight 11 - 1#64 &&& 7#64) <<< 11))))) (c.e + 14#64)) (v_bounds_number_up { hi := 0#64, lo := BitVec.signExtend 64 (c.t ||| (c.b.sshiftRight 12 + v_bounds_truth (c.t.slt (c.b &&& 4095#64)) + v_bounds_truth c.big &&& 3#64) <<< 12) } c.e)).lo)), (AV.bool ((v_bounds_number_plus (v_bounds_number_up (v_bounds_signed (BitVec.setWidth 64 (c.ad >>> min (c.e + 14#64).toNat 64) + (v_bounds_truth ((c.t ||| (c.b.sshiftRight 12 + v_bounds_truth (c.t.slt (c.b &&& 4095#64)) + v_bounds_truth c.big &&& 3#64) <<< 12).slt ((c.b.sshiftRight 11 - 1#64 &&& 7#64) <<< 11)) - v_bounds_truth ((BitVec.setWidth 64 (c.ad >>> min c.e.toNat 64) &&& 16383#64).slt ((c.b.sshiftRight 11 - 1#64 &&& 7#64) <<< 11))))) (c.e + 14#64)) (v_bounds_number_up { hi := 0#64, lo := BitVec.signExtend 64 (c.t ||| (c.b.sshiftRight 12 + v_bounds_truth (c.t.slt (c.b &&& 4095#64)) + v_bounds_truth c.big &&& 3#64) <<< 12) } c.e)).hi ^^^ 1#64 == 1#64))]))
 (some (AV.agg [(AV.int (IntKind.u64) ((v_bounds_number_plus (v_bounds_number_up (v_bounds_signed (BitVec.setWidth 64 (c.ad >>> min (c.e + 14#64).toNat 64) + (v_bounds_truth (c.b.slt ((c.b.sshiftRight 11 - 1#64 &&& 7#64) <<< 11)) - v_bounds_truth ((BitVec.setWidth 64 (c.ad >>> min c.e.toNat 64) &&& 16383#64).slt ((c.b.sshiftRight 11 - 1#64 &&& 7#64) <<< 11))))) (c.e + 14#64)) (v_bounds_number_up { hi := 0#64, lo := BitVec.signExtend 64 c.b } c.e)).lo)), (AV.int (IntKind.u64) ((v_bounds_number_plus (v_bounds_number_up (v_bounds_signed (BitVec.setWidth 64 (c.ad >>> min (c.e + 14#64).toNat 64) + (v_bounds_truth ((c.t ||| (c.b.sshiftRight 12 + v_bounds_truth (c.t.slt (c.b &&& 4095#64)) + v_bounds_truth c.big &&& 3#64) <<< 12).slt ((c.b.sshiftRight 11 - 1#64 &&& 7#64) <<< 11)) - v_bounds_truth ((BitVec.setWidth 64 (c.ad >>> min c.e.toNat 64) &&& 16383#64).slt ((c.b.sshiftRight 11 - 1#64 &&& 7#64) <<< 11))))) (c.e + 14#64)) (v_bounds_number_up { hi := 0#64, lo := BitVec.signExtend 64 (c.t ||| (c.b.sshiftRight 12 + v_bounds_truth (c.t.slt (c.b &&& 4095#64)) + v_bounds_truth c.big &&& 3#64) <<< 12) } c.e)).lo)), (AV.bool ((v_bounds_number_plus (v_bounds_number_up (v_bounds_signed (BitVec.setWidth 64 (c.ad >>> min (c.e + 14#64).toNat 64) + (v_bounds_truth ((c.t ||| (c.b.sshiftRight 12 + v_bounds_truth (c.t.slt (c.b &&& 4095#64)) + v_bounds_truth c.big &&& 3#64) <<< 12).slt ((c.b.sshiftRight 11 - 1#64 &&& 7#64) <<< 11)) - v_bounds_truth ((BitVec.setWidth 64 (c.ad >>> min c.e.toNat 64) &&& 16383#64).slt ((c.b.sshiftRight 11 - 1#64 &&& 7#64) <<< 11))))) (c.e + 14#64)) (v_bounds_number_up { hi := 0#64, lo := BitVec.signExtend 64 (c.t ||| (c.b.sshiftRight 12 + v_bounds_truth (c.t.slt (c.b &&& 4095#64)) + v_bounds_truth c.big &&& 3#64) <<< 12) } c.e)).hi == 1#64))])))
 (some (AV.agg [(AV.int (IntKind.u64) ((v_bounds_number_plus (v_bounds_number_up (v_bounds_signed (BitVec.setWidth 64 (c.ad >>> min (c.e + 14#64).toNat 64) + (v_bounds_truth (c.b.slt ((c.b.sshiftRight 11 - 1#64 &&& 7#64) <<< 11)) - v_bounds_truth ((BitVec.setWidth 64 (c.ad >>> min c.e.toNat 64) &&& 16383#64).slt ((c.b.sshiftRight 11 - 1#64 &&& 7#64) <<< 11))))) (c.e + 14#64)) (v_bounds_number_up { hi := 0#64, lo := BitVec.signExtend 64 c.b } c.e)).lo)), (AV.int (IntKind.u64) ((v_bounds_number_plus (v_bounds_number_up (v_bounds_signed (BitVec.setWidth 64 (c.ad >>> min (c.e + 14#64).toNat 64) + (v_bounds_truth ((c.t ||| (c.b.sshiftRight 12 + v_bounds_truth (c.t.slt (c.b &&& 4095#64)) + v_bounds_truth c.big &&& 3#64) <<< 12).slt ((c.b.sshiftRight 11 - 1#64 &&& 7#64) <<< 11)) - v_bounds_truth ((BitVec.setWidth 64 (c.ad >>> min c.e.toNat 64) &&& 16383#64).slt ((c.b.sshiftRight 11 - 1#64 &&& 7#64) <<< 11))))) (c.e + 14#64)) (v_bounds_number_up { hi := 0#64, lo := BitVec.signExtend 64 (c.t ||| (c.b.sshiftRight 12 + v_bounds_truth (c.t.slt (c.b &&& 4095#64)) + v_bounds_truth c.big &&& 3#64) <<< 12) } c.e)).lo)), (AV.bool ((v_bounds_number_plus (v_bounds_number_up (v_bounds_signed (BitVec.setWidth 64 (c.ad >>> min (c.e + 14#64).toNat 64) + (v_bounds_truth ((c.t ||| (c.b.sshiftRight 12 + v_bounds_truth (c.t.slt (c.b &&& 4095#64)) + v_bounds_truth c.big &&& 3#64) <<< 12).slt ((c.b.sshiftRight 11 - 1#64 &&& 7#64) <<< 11)) - v_bounds_truth ((BitVec.setWidth 64 (c.ad >>> min c.e.toNat 64) &&& 16383#64).slt ((c.b.sshiftRight 11 - 1#64 &&& 7#64) <<< 11))))) (c.e + 14#64)) (v_bounds_number_up { hi := 0#64, lo := BitVec.signExtend 64 (c.t ||| (c.b.sshiftRight 12 + v_bounds_truth (c.t.slt (c.b &&& 4095#64)) + v_bounds_truth c.big &&& 3#64) <<< 12) } c.e)).hi == 1#64))])))
       none)
      none)
     none)
    none)
   none)
 (cond (g_bounds_number_up (v_bounds_signed (0#64 + (v_bounds_truth (c.b.slt ((c.b.sshiftRight 11 - 1#64 &&& 7#64) <<< 11)) - v_bounds_truth ((BitVec.setWidth 64 (c.ad >>> min c.e.toNat 64) &&& 16383#64).slt ((c.b.sshiftRight 11 - 1#64 &&& 7#64) <<< 11))))) (c.e + 14#64))
 (cond (g_bounds_number_up { hi := 0#64, lo := BitVec.signExtend 64 c.b } c.e)
 (cond (g_bounds_number_up (v_bounds_signed (0#64 + (v_bounds_truth ((c.t ||| (c.b.sshiftRight 12 + v_bounds_truth (c.t.slt (c.b &&& 4095#64)) + v_bounds_truth c.big &&& 3#64) <<< 12).slt ((c.b.sshiftRight 11 - 1#64 &&& 7#64) <<< 11)) - v_bounds_truth ((BitVec.setWidth 64 (c.ad >>> min c.e.toNat 64) &&& 16383#64).slt ((c.b.sshiftRight 11 - 1#64 &&& 7#64) <<< 11))))) (c.e + 14#64))
 (cond (g_bounds_number_up { hi := 0#64, lo := BitVec.signExtend 64 (c.t ||| (c.b.sshiftRight 12 + v_bounds_truth (c.t.slt (c.b &&& 4095#64)) + v_bounds_truth c.big &&& 3#64) <<< 12) } c.e)
 (cond (c.e.slt 51#64)
 (cond ((1#64).ult ((v_bounds_number_plus (v_bounds_number_up (v_bounds_signed (0#64 + (v_bounds_truth ((c.t ||| (c.b.sshiftRight 12 + v_bounds_truth (c.t.slt (c.b &&& 4095#64)) + v_bounds_truth c.big &&& 3#64) <<< 12).slt ((c.b.sshiftRight 11 - 1#64 &&& 7#64) <<< 11)) - v_bounds_truth ((BitVec.setWidth 64 (c.ad >>> min c.e.toNat 64) &&& 16383#64).slt ((c.b.sshiftRight 11 - 1#64 &&& 7#64) <<< 11))))) (c.e + 14#64)) (v_bounds_number_up { hi := 0#64, lo := BitVec.signExtend 64 (c.t ||| (c.b.sshiftRight 12 + v_bounds_truth (c.t.slt (c.b &&& 4095#64)) + v_bounds_truth c.big &&& 3#64) <<< 12) } c.e)).hi <<< 1 + (v_bounds_number_plus (v_bounds_number_up (v_bounds_signed (0#64 + (v_bounds_truth ((c.t ||| (c.b.sshiftRight 12 + v_bounds_truth (c.t.slt (c.b &&& 4095#64)) + v_bounds_truth c.big &&& 3#64) <<< 12).slt ((c.b.sshiftRight 11 - 1#64 &&& 7#64) <<< 11)) - v_bounds_truth ((BitVec.setWidth 64 (c.ad >>> min c.e.toNat 64) &&& 16383#64).slt ((c.b.sshiftRight 11 - 1#64 &&& 7#64) <<< 11))))) (c.e + 14#64)) (v_bounds_number_up { hi := 0#64, lo := BitVec.signExtend 64 (c.t ||| (c.b.sshiftRight 12 + v_bounds_truth (c.t.slt (c.b &&& 4095#64)) + v_bounds_truth c.big &&& 3#64) <<< 12) } c.e)).lo >>> 63 - (v_bounds_number_plus (v_bounds_number_up (v_bounds_signed (0#64 + (v_bounds_truth (c.b.slt ((c.b.sshiftRight 11 - 1#64 &&& 7#64) <<< 11)) - v_bounds_truth ((BitVec.setWidth 64 (c.ad >>> min c.e.toNat 64) &&& 16383#64).slt ((c.b.sshiftRight 11 - 1#64 &&& 7#64) <<< 11))))) (c.e + 14#64)) (v_bounds_number_up { hi := 0#64, lo := BitVec.signExtend 64 c.b } c.e)).lo >>> 63 &&& 3#64))
 (some (AV.agg [(AV.int (IntKind.u64) ((v_bounds_number_plus (v_bounds_number_up (v_bounds_signed (0#64 + (v_bounds_truth (c.b.slt ((c.b.sshiftRight 11 - 1#64 &&& 7#64) <<< 11)) - v_bounds_truth ((BitVec.setWidth 64 (c.ad >>> min c.e.toNat 64) &&& 16383#64).slt ((c.b.sshiftRight 11 - 1#64 &&& 7#64) <<< 11))))) (c.e + 14#64)) (v_bounds_number_up { hi := 0#64, lo := BitVec.signExtend 64 c.b } c.e)).lo)), (AV.int (IntKind.u64) ((v_bounds_number_plus (v_bounds_number_up (v_bounds_signed (0#64 + (v_bounds_truth ((c.t ||| (c.b.sshiftRight 12 + v_bounds_truth (c.t.slt (c.b &&& 4095#64)) + v_bounds_truth c.big &&& 3#64) <<< 12).slt ((c.b.sshiftRight 11 - 1#64 &&& 7#64) <<< 11)) - v_bounds_truth ((BitVec.setWidth 64 (c.ad >>> min c.e.toNat 64) &&& 16383#64).slt ((c.b.sshiftRight 11 - 1#64 &&& 7#64) <<< 11))))) (c.e + 14#64)) (v_bounds_number_up { hi := 0#64, lo := BitVec.signExtend 64 (c.t ||| (c.b.sshiftRight 12 + v_bounds_truth (c.t.slt (c.b &&& 4095#64)) + v_bounds_truth c.big &&& 3#64) <<< 12) } c.e)).lo)), (AV.bool ((v_bounds_number_plus (v_bounds_number_up (v_bounds_signed (0#64 + (v_bounds_truth ((c.t ||| (c.b.sshiftRight 12 + v_bounds_truth (c.t.slt (c.b &&& 4095#64)) + v_bounds_truth c.big &&& 3#64) <<< 12).slt ((c.b.sshiftRight 11 - 1#64 &&& 7#64) <<< 11)) - v_bounds_truth ((BitVec.setWidth 64 (c.ad >>> min c.e.toNat 64) &&& 16383#64).slt ((c.b.sshiftRight 11 - 1#64 &&& 7#64) <<< 11))))) (c.e + 14#64)) (v_bounds_number_up { hi := 0#64, lo := BitVec.signExtend 64 (c.t ||| (c.b.sshiftRight 12 + v_bounds_truth (c.t.slt (c.b &&& 4095#64)) + v_bounds_truth c.big &&& 3#64) <<< 12) } c.e)).hi ^^^ 1#64 == 1#64))]))
 (some (AV.agg [(AV.int (IntKind.u64) ((v_bounds_number_plus (v_bounds_number_up (v_bounds_signed (0#64 + (v_bounds_truth (c.b.slt ((c.b.sshiftRight 11 - 1#64 &&& 7#64) <<< 11)) - v_bounds_truth ((BitVec.setWidth 64 (c.ad >>> min c.e.toNat 64) &&& 16383#64).slt ((c.b.sshiftRight 11 - 1#64 &&& 7#64) <<< 11))))) (c.e + 14#64)) (v_bounds_number_up { hi := 0#64, lo := BitVec.signExtend 64 c.b } c.e)).lo)), (AV.int (IntKind.u64) ((v_bounds_number_plus (v_bounds_number_up (v_bounds_signed (0#64 + (v_bounds_truth ((c.t ||| (c.b.sshiftRight 12 + v_bounds_truth (c.t.slt (c.b &&& 4095#64)) + v_bounds_truth c.big &&& 3#64) <<< 12).slt ((c.b.sshiftRight 11 - 1#64 &&& 7#64) <<< 11)) - v_bounds_truth ((BitVec.setWidth 64 (c.ad >>> min c.e.toNat 64) &&& 16383#64).slt ((c.b.sshiftRight 11 - 1#64 &&& 7#64) <<< 11))))) (c.e + 14#64)) (v_bounds_number_up { hi := 0#64, lo := BitVec.signExtend 64 (c.t ||| (c.b.sshiftRight 12 + v_bounds_truth (c.t.slt (c.b &&& 4095#64)) + v_bounds_truth c.big &&& 3#64) <<< 12) } c.e)).lo)), (AV.bool ((v_bounds_number_plus (v_bounds_number_up (v_bounds_signed (0#64 + (v_bounds_truth ((c.t ||| (c.b.sshiftRight 12 + v_bounds_truth (c.t.slt (c.b &&& 4095#64)) + v_bounds_truth c.big &&& 3#64) <<< 12).slt ((c.b.sshiftRight 11 - 1#64 &&& 7#64) <<< 11)) - v_bounds_truth ((BitVec.setWidth 64 (c.ad >>> min c.e.toNat 64) &&& 16383#64).slt ((c.b.sshiftRight 11 - 1#64 &&& 7#64) <<< 11))))) (c.e + 14#64)) (v_bounds_number_up { hi := 0#64, lo := BitVec.signExtend 64 (c.t ||| (c.b.sshiftRight 12 + v_bounds_truth (c.t.slt (c.b &&& 4095#64)) + v_bounds_truth c.big &&& 3#64) <<< 12) } c.e)).hi == 1#64))])))
 (some (AV.agg [(AV.int (IntKind.u64) ((v_bounds_number_plus (v_bounds_number_up (v_bounds_signed (0#64 + (v_bounds_truth (c.b.slt ((c.b.sshiftRight 11 - 1#64 &&& 7#64) <<< 11)) - v_bounds_truth ((BitVec.setWidth 64 (c.ad >>> min c.e.toNat 64) &&& 16383#64).slt ((c.b.sshiftRight 11 - 1#64 &&& 7#64) <<< 11))))) (c.e + 14#64)) (v_bounds_number_up { hi := 0#64, lo := BitVec.signExtend 64 c.b } c.e)).lo)), (AV.int (IntKind.u64) ((v_bounds_number_plus (v_bounds_number_up (v_bounds_signed (0#64 + (v_bounds_truth ((c.t ||| (c.b.sshiftRight 12 + v_bounds_truth (c.t.slt (c.b &&& 4095#64)) + v_bounds_truth c.big &&& 3#64) <<< 12).slt ((c.b.sshiftRight 11 - 1#64 &&& 7#64) <<< 11)) - v_bounds_truth ((BitVec.setWidth 64 (c.ad >>> min c.e.toNat 64) &&& 16383#64).slt ((c.b.sshiftRight 11 - 1#64 &&& 7#64) <<< 11))))) (c.e + 14#64)) (v_bounds_number_up { hi := 0#64, lo := BitVec.signExtend 64 (c.t ||| (c.b.sshiftRight 12 + v_bounds_truth (c.t.slt (c.b &&& 4095#64)) + v_bounds_truth c.big &&& 3#64) <<< 12) } c.e)).lo)), (AV.bool ((v_bounds_number_plus (v_bounds_number_up (v_bounds_signed (0#64 + (v_bounds_truth ((c.t ||| (c.b.sshiftRight 12 + v_bounds_truth (c.t.slt (c.b &&& 4095#64)) + v_bounds_truth c.big &&& 3#64) <<< 12).slt ((c.b.sshiftRight 11 - 1#64 &&& 7#64) <<< 11)) - v_bounds_truth ((BitVec.setWidth 64 (c.ad >>> min c.e.toNat 64) &&& 16383#64).slt ((c.b.sshiftRight 11 - 1#64 &&& 7#64) <<< 11))))) (c.e + 14#64)) (v_bounds_number_up { hi := 0#64, lo := BitVec.signExtend 64 (c.t ||| (c.b.sshiftRight 12 + v_bounds_truth (c.t.slt (c.b &&& 4095#64)) + v_bounds_truth c.big &&& 3#64) <<< 12) } c.e)).hi == 1#64))])))
      none)
     none)
    none)
   none))
 none) by kernel_rfl).trans ((merR _ (Rg.av) (merG _ (Rg.av) (merR _ (Rg.av) (merR _ (Rg.av) (merR _ (Rg.av) (merR _ (Rg.av) (merR _ (Rg.av) (merG _ (Rg.av) (merG _ (Rg.av) rfl rfl) rfl)))))) (merR _ (Rg.av) (merR _ (Rg.av) (merR _ (Rg.av) (merR _ (Rg.av) (merG _ (Rg.av) (merG _ (Rg.av) rfl rfl) rfl))))))))
noncomputable def C_12 : Oracle := pureGE 12 (pure1 dCp (fun c => .tup [.bool (g_bounds_Of c), (v_bounds_Of c).av])) (C_31)
theorem C_12_snd : Snd Try.prog C_12 := pureGE_snd (pure1_gok (F := F12) (C_31_snd) Try.func12 (by kernel_rfl) run_12 (fun _ => rfl)) (C_31_snd)

/- ravelin/bounds.top -/
def F34 : Cfg := { F := 400, roots := [0, 1], fl := ⟨true, false⟩ }
theorem run_34 : ∀ (r : Rg), pureRun Try.prog C_12 F34 Try.f34 [r.av] = some ((v_bounds_top r).av) := fun r =>
 (show pureRun Try.prog C_12 F34 Try.f34 [r.av] = (some (AV.agg [(AV.int (IntKind.u64) (BitVec.signExtend 64 (v_bounds_truth r.over))), (AV.int (IntKind.u64) (r.top))])) by kernel_rfl).trans (rfl)
noncomputable def C_34 : Oracle := pureE 34 (pure1 dRg (fun r => (v_bounds_top r).av)) (C_12)
theorem C_34_snd : Snd Try.prog C_34 := pureE_snd (pure1_ok (F := F34) (C_12_snd) Try.func34 (by kernel_rfl) run_34 (fun _ => rfl)) (C_12_snd)

/- (ravelin/bounds.number).above -/
def F35 : Cfg := { F := 400, roots := [0, 1, 2], fl := ⟨true, false⟩ }
theorem run_35 : ∀ (a : W2) (xb : W2), pureRun Try.prog C_34 F35 Try.f35 [a.av, xb.av] = some (.bool (v_bounds_number_above a xb)) := fun a xb =>
 (show pureRun Try.prog C_34 F35 Try.f35 [a.av, xb.av] = (cond (xb.hi.ult a.hi)
 (some (AV.bool (true)))
 (cond (a.hi == xb.hi)
 (some (AV.bool (xb.lo.ult a.lo)))
 (some (AV.bool (false))))) by kernel_rfl).trans (by
    delta v_bounds_number_above
    refine (mer _ (fun p => .bool p) ?_ (mer _ (fun p => .bool p) ?_ ?_))
    all_goals first | with_reducible rfl | rfl)
noncomputable def C_35 : Oracle := pureE 35 (pure2 dW2 dW2 (fun a xb => .bool (v_bounds_number_above a xb))) (C_34)
theorem C_35_snd : Snd Try.prog C_35 := pureE_snd (pure2_ok (F := F35) (C_34_snd) Try.func35 (by kernel_rfl) run_35 (fun _ _ => rfl)) (C_34_snd)

/- ravelin/bounds.In -/
def F17 : Cfg := { F := 400, roots := [0, 1, 2, 3], fl := ⟨true, false⟩ }
theorem run_17 : ∀ (r : Rg) (xat : BitVec 64) (n : BitVec 64), pureRun Try.prog C_35 F17 Try.f17 [r.av, .int .u64 xat, .int .i64 n] = some (.bool (v_bounds_In r xat n)) := fun r xat n =>
 (show pureRun Try.prog C_35 F17 Try.f17 [r.av, .int .u64 xat, .int .i64 n] = (cond ((0#64).sle n)
 (cond (r.base.ule xat)
 (some (AV.bool (!v_bounds_number_above (v_bounds_number_plus { hi := 0#64, lo := xat } { hi := 0#64, lo := BitVec.signExtend 64 n }) (v_bounds_top r))))
 (some (AV.bool (false))))
 (some (AV.bool (false)))) by kernel_rfl).trans (by
    delta v_bounds_In
    refine (mer _ (fun p => .bool p) (mer _ (fun p => .bool p) ?_ ?_) ?_)
    all_goals first | with_reducible rfl | rfl)
noncomputable def C_17 : Oracle := pureE 17 (pure3 dRg dU64 dI64 (fun r xat n => .bool (v_bounds_In r xat n))) (C_35)
theorem C_17_snd : Snd Try.prog C_17 := pureE_snd (pure3_ok (F := F17) (C_35_snd) Try.func17 (by kernel_rfl) run_17 (fun _ _ _ => rfl)) (C_35_snd)

/- ravelin/ravelinlaw03.known -/
def F10 : Cfg := { F := 400, roots := [0, 1, 2, 3], fl := ⟨true, false⟩ }
theorem run_10 : pureRun Try.prog C_17 F10 Try.f10 [] = some (.bool v_l03_known) := (show pureRun Try.prog C_17 F10 Try.f10 [] = (some (AV.bool (true))) by kernel_rfl).trans (rfl)
noncomputable def C_10 : Oracle := pureE 10 (pure0  (.bool v_l03_known)) (C_17)
theorem C_10_snd : Snd Try.prog C_10 := pureE_snd (pure0_ok (F := F10) (C_17_snd) Try.func10 (by kernel_rfl) run_10 rfl) (C_17_snd)

/- ravelin/bounds.Len -/
def F13 : Cfg := { F := 400, roots := [0, 1], fl := ⟨true, false⟩ }
theorem run_13 : ∀ (r : Rg), pureRun Try.prog C_10 F13 Try.f13 [r.av] = some (.int .u64 (v_bounds_Len r)) := fun r =>
 (show pureRun Try.prog C_10 F13 Try.f13 [r.av] = (cond (!v_bounds_number_above (v_bounds_top r) { hi := 0#64, lo := r.base })
 (some (AV.int (IntKind.u64) (0#64)))
 (cond (r.over)
 (cond (r.base.ule r.top)
 (some (AV.int (IntKind.u64) (18446744073709551615#64)))
 (some (AV.int (IntKind.u64) (r.top - r.base))))
 (some (AV.int (IntKind.u64) (r.top - r.base))))) by kernel_rfl).trans (by
    delta v_bounds_Len
    refine (mer _ (fun p => .int .u64 p) ?_ (mer _ (fun p => .int .u64 p) (mer _ (fun p => .int .u64 p) ?_ ?_) ?_))
    all_goals first | with_reducible rfl | rfl)
noncomputable def C_13 : Oracle := pureE 13 (pure1 dRg (fun r => .int .u64 (v_bounds_Len r))) (C_10)
theorem C_13_snd : Snd Try.prog C_13 := pureE_snd (pure1_ok (F := F13) (C_10_snd) Try.func13 (by kernel_rfl) run_13 (fun _ => rfl)) (C_10_snd)

/- ravelin/ravelinlaw03.BoundsOnce -/
def F3 : Cfg := { F := 400, roots := [0, 1, 2, 3, 4, 5, 6, 7], fl := ⟨true, false⟩ }
theorem run_3 : ∀ (xat : BitVec 64) (n : BitVec 64), pureRun Try.prog C_13 F3 Try.f3 [.int .u64 xat, .int .u64 n] = t_l03_BoundsOnce xat n := fun xat n =>
  by kernel_rfl
theorem snd_3 : Snd Try.prog (C_13) := C_13_snd

end Go.Proofs.Ytgmemioomkbofaa

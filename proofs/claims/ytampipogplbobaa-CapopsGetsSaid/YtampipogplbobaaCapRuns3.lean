import Derived.Test.YtampipogplbobaaCapRuns3a
import Derived.Test.YtampipogplbobaaSxW
import Derived.Test.YtampipogplbobaaSxY
import Derived.Test.YtampipogplbobaaSxLen2
import Derived.Test.YtampipogplbobaaPlUp
import Derived.Test.YtampipogplbobaaSxMap
import Derived.Test.YtampipogplbobaaVa03
import Derived.Test.YtampipogplbobaaVa05
import Derived.KernelRfl
import Derived.Test.YtampipogplbobaaProg
set_option linter.unusedSimpArgs false
set_option linter.unusedVariables false
set_option linter.unnecessarySimpa false
/- What the functions of the seat answer. -/
namespace Go.Proofs.Ytampipogplbobaa
open Go Go.Sx Go.Proofs
set_option maxRecDepth 100000
set_option maxHeartbeats 4000000

/- ravelin/ravelinref03.notAbove -/
def F92 : Cfg := { F := 400, roots := [0, 1, 2], fl := ⟨true, false⟩ }
theorem run_92 : ∀ (a : W2) (xb : W2), pureRun Try.prog C_69 F92 Try.f92 [a.av, xb.av] = some (.bool (v_r03_notAbove a xb)) := fun a xb =>
 (show pureRun Try.prog C_69 F92 Try.f92 [a.av, xb.av] = (cond (a.hi.ult xb.hi)
 (some (AV.bool (true)))
 (cond (a.hi == xb.hi)
 (some (AV.bool (a.lo.ule xb.lo)))
 (some (AV.bool (false))))) by kernel_rfl).trans (by
    delta v_r03_notAbove
    refine (mer _ (fun p => .bool p) ?_ (mer _ (fun p => .bool p) ?_ ?_))
    all_goals first | with_reducible rfl | rfl)
noncomputable def C_92 : Oracle := pureE 92 (pure2 dW2 dW2 (fun a xb => .bool (v_r03_notAbove a xb))) (C_69)
theorem C_92_snd : Snd Try.prog C_92 := pureE_snd (pure2_ok (F := F92) (C_69_snd) Try.func92 (by kernel_rfl) run_92 (fun _ _ => rfl)) (C_69_snd)

/- ravelin/ravelinref03.top -/
def F93 : Cfg := { F := 400, roots := [0, 1], fl := ⟨true, false⟩ }
theorem run_93 : ∀ (r : Rg), pureRun Try.prog C_92 F93 Try.f93 [r.av] = some ((v_r03_top r).av) := fun r =>
 (show pureRun Try.prog C_92 F93 Try.f93 [r.av] = (some (AV.agg [(AV.int (IntKind.u64) (BitVec.signExtend 64 (v_r03_one r.over))), (AV.int (IntKind.u64) (r.top))])) by kernel_rfl).trans (rfl)
noncomputable def C_93 : Oracle := pureE 93 (pure1 dRg (fun r => (v_r03_top r).av)) (C_92)
theorem C_93_snd : Snd Try.prog C_93 := pureE_snd (pure1_ok (F := F93) (C_92_snd) Try.func93 (by kernel_rfl) run_93 (fun _ => rfl)) (C_92_snd)

/- ravelin/ravelinref03.Within -/
def F70 : Cfg := { F := 400, roots := [0, 1, 2], fl := ⟨true, false⟩ }
theorem run_70 : ∀ (a : Rg) (xb : Rg), pureRun Try.prog C_93 F70 Try.f70 [a.av, xb.av] = some (.bool (v_r03_Within a xb)) := fun a xb =>
 (show pureRun Try.prog C_93 F70 Try.f70 [a.av, xb.av] = (cond (xb.base.ule a.base)
 (some (AV.bool (v_r03_notAbove (v_r03_top a) (v_r03_top xb))))
 (some (AV.bool (false)))) by kernel_rfl).trans (by
    delta v_r03_Within
    refine (mer _ (fun p => .bool p) ?_ ?_)
    all_goals first | with_reducible rfl | rfl)
noncomputable def C_70 : Oracle := pureE 70 (pure2 dRg dRg (fun a xb => .bool (v_r03_Within a xb))) (C_93)
theorem C_70_snd : Snd Try.prog C_70 := pureE_snd (pure2_ok (F := F70) (C_93_snd) Try.func70 (by kernel_rfl) run_70 (fun _ _ => rfl)) (C_93_snd)

/- ravelin/ravelinref05.Bound -/
def F26 : Cfg := { F := 400, roots := [0, 1, 2, 3, 4, 5, 6, 7, 8, 9], fl := ⟨true, false⟩ }
theorem run_26 : ∀ (c : Cp) (n : BitVec 64) (exact : Bool), pureRun Try.prog C_70 F26 Try.f26 [c.av, .int .u64 n, .bool exact] = some ((v_r05_Bound c n exact).av) := fun c n exact =>
 (show pureRun Try.prog C_70 F26 Try.f26 [c.av, .int .u64 n, .bool exact] = (cond (c.tag)
 (cond (!v_r05_Sealed c)
 (cond (v_r03_Within { base := c.ad, top := c.ad + n, over := (c.ad + n).ult n } (v_r03_Of (v_r03_Lay c n).fst))
 (cond (v_r03_Within (v_r03_Of (v_r03_Lay c n).fst) (v_r03_Of c))
 (cond ((v_r03_Of (v_r03_Lay c n).fst).base == c.ad && ((v_r03_Of (v_r03_Lay c n).fst).top == c.ad + n && ((v_r03_Of (v_r03_Lay c n).fst).over == (c.ad + n).ult n && true)))
 (some (AV.agg [(AV.bool ((v_r05_with (v_r03_Lay c n).fst true).tag)), (AV.int (IntKind.i64) ((v_r05_with (v_r03_Lay c n).fst true).per)), (AV.int (IntKind.i64) ((v_r05_with (v_r03_Lay c n).fst true).ty)), (AV.int (IntKind.i64) ((v_r05_with (v_r03_Lay c n).fst true).mo)), (AV.int (IntKind.i64) ((v_r05_with (v_r03_Lay c n).fst true).e)), (AV.int (IntKind.i64) ((v_r05_with (v_r03_Lay c n).fst true).b)), (AV.int (IntKind.i64) ((v_r05_with (v_r03_Lay c n).fst true).t)), (AV.bool ((v_r05_with (v_r03_Lay c n).fst true).big)), (AV.int (IntKind.u64) ((v_r05_with (v_r03_Lay c n).fst true).ad))]))
 (some (AV.agg [(AV.bool ((v_r05_with (v_r03_Lay c n).fst !exact).tag)), (AV.int (IntKind.i64) ((v_r05_with (v_r03_Lay c n).fst !exact).per)), (AV.int (IntKind.i64) ((v_r05_with (v_r03_Lay c n).fst !exact).ty)), (AV.int (IntKind.i64) ((v_r05_with (v_r03_Lay c n).fst !exact).mo)), (AV.int (IntKind.i64) ((v_r05_with (v_r03_Lay c n).fst !exact).e)), (AV.int (IntKind.i64) ((v_r05_with (v_r03_Lay c n).fst !exact).b)), (AV.int (IntKind.i64) ((v_r05_with (v_r03_Lay c n).fst !exact).t)), (AV.bool ((v_r05_with (v_r03_Lay c n).fst !exact).big)), (AV.int (IntKind.u64) ((v_r05_with (v_r03_Lay c n).fst !exact).ad))])))
 (some (AV.agg [(AV.bool ((v_r05_with (v_r03_Lay c n).fst false).tag)), (AV.int (IntKind.i64) ((v_r05_with (v_r03_Lay c n).fst false).per)), (AV.int (IntKind.i64) ((v_r05_with (v_r03_Lay c n).fst false).ty)), (AV.int (IntKind.i64) ((v_r05_with (v_r03_Lay c n).fst false).mo)), (AV.int (IntKind.i64) ((v_r05_with (v_r03_Lay c n).fst false).e)), (AV.int (IntKind.i64) ((v_r05_with (v_r03_Lay c n).fst false).b)), (AV.int (IntKind.i64) ((v_r05_with (v_r03_Lay c n).fst false).t)), (AV.bool ((v_r05_with (v_r03_Lay c n).fst false).big)), (AV.int (IntKind.u64) ((v_r05_with (v_r03_Lay c n).fst false).ad))])))
 (some (AV.agg [(AV.bool ((v_r05_with (v_r03_Lay c n).fst false).tag)), (AV.int (IntKind.i64) ((v_r05_with (v_r03_Lay c n).fst false).per)), (AV.int (IntKind.i64) ((v_r05_with (v_r03_Lay c n).fst false).ty)), (AV.int (IntKind.i64) ((v_r05_with (v_r03_Lay c n).fst false).mo)), (AV.int (IntKind.i64) ((v_r05_with (v_r03_Lay c n).fst false).e)), (AV.int (IntKind.i64) ((v_r05_with (v_r03_Lay c n).fst false).b)), (AV.int (IntKind.i64) ((v_r05_with (v_r03_Lay c n).fst false).t)), (AV.bool ((v_r05_with (v_r03_Lay c n).fst false).big)), (AV.int (IntKind.u64) ((v_r05_with (v_r03_Lay c n).fst false).ad))])))
 (some (AV.agg [(AV.bool ((v_r05_with (v_r03_Lay c n).fst false).tag)), (AV.int (IntKind.i64) ((v_r05_with (v_r03_Lay c n).fst false).per)), (AV.int (IntKind.i64) ((v_r05_with (v_r03_Lay c n).fst false).ty)), (AV.int (IntKind.i64) ((v_r05_with (v_r03_Lay c n).fst false).mo)), (AV.int (IntKind.i64) ((v_r05_with (v_r03_Lay c n).fst false).e)), (AV.int (IntKind.i64) ((v_r05_with (v_r03_Lay c n).fst false).b)), (AV.int (IntKind.i64) ((v_r05_with (v_r03_Lay c n).fst false).t)), (AV.bool ((v_r05_with (v_r03_Lay c n).fst false).big)), (AV.int (IntKind.u64) ((v_r05_with (v_r03_Lay c n).fst false).ad))])))
 (some (AV.agg [(AV.bool ((v_r05_with (v_r03_Lay c n).fst false).tag)), (AV.int (IntKind.i64) ((v_r05_with (v_r03_Lay c n).fst false).per)), (AV.int (IntKind.i64) ((v_r05_with (v_r03_Lay c n).fst false).ty)), (AV.int (IntKind.i64) ((v_r05_with (v_r03_Lay c n).fst false).mo)), (AV.int (IntKind.i64) ((v_r05_with (v_r03_Lay c n).fst false).e)), (AV.int (IntKind.i64) ((v_r05_with (v_r03_Lay c n).fst false).b)), (AV.int (IntKind.i64) ((v_r05_with (v_r03_Lay c n).fst false).t)), (AV.bool ((v_r05_with (v_r03_Lay c n).fst false).big)), (AV.int (IntKind.u64) ((v_r05_with (v_r03_Lay c n).fst false).ad))]))) by kernel_rfl).trans (by
    delta v_r05_Bound
    refine (mer _ (Cp.av) (mer _ (Cp.av) (mer _ (Cp.av) (mer _ (Cp.av) (mer _ (Cp.av) ?_ ?_) ?_) ?_) ?_) ?_)
    all_goals (try delta Cp.av)
    all_goals (try delta Rg.av)
    all_goals (try delta W2.av)
    all_goals (try delta Tr.av)
    all_goals (try delta Qu.av)
    all_goals first | with_reducible rfl | rfl)
noncomputable def C_26 : Oracle := pureE 26 (pure3 dCp dU64 dBool (fun c n exact => (v_r05_Bound c n exact).av)) (C_70)
theorem C_26_snd : Snd Try.prog C_26 := pureE_snd (pure3_ok (F := F26) (C_70_snd) Try.func26 (by kernel_rfl) run_26 (fun _ _ _ => rfl)) (C_70_snd)

/- ravelin/capops.Less -/
def F22 : Cfg := { F := 400, roots := [0, 1, 2], fl := ⟨true, false⟩ }
theorem run_22 : ∀ (c : Cp) (perms : BitVec 64), pureRun Try.prog C_26 F22 Try.f22 [c.av, .int .i64 perms] = some ((v_capops_Less c perms).av) := fun c perms =>
 (show pureRun Try.prog C_26 F22 Try.f22 [c.av, .int .i64 perms] = (some (AV.agg [(AV.bool ((v_capops_keep { tag := c.tag, per := c.per &&& perms, ty := c.ty, mo := c.mo, e := c.e, b := c.b, t := c.t, big := c.big, ad := c.ad } !v_capops_Sealed { tag := c.tag, per := c.per &&& perms, ty := c.ty, mo := c.mo, e := c.e, b := c.b, t := c.t, big := c.big, ad := c.ad }).tag)), (AV.int (IntKind.i64) ((v_capops_keep { tag := c.tag, per := c.per &&& perms, ty := c.ty, mo := c.mo, e := c.e, b := c.b, t := c.t, big := c.big, ad := c.ad } !v_capops_Sealed { tag := c.tag, per := c.per &&& perms, ty := c.ty, mo := c.mo, e := c.e, b := c.b, t := c.t, big := c.big, ad := c.ad }).per)), (AV.int (IntKind.i64) ((v_capops_keep { tag := c.tag, per := c.per &&& perms, ty := c.ty, mo := c.mo, e := c.e, b := c.b, t := c.t, big := c.big, ad := c.ad } !v_capops_Sealed { tag := c.tag, per := c.per &&& perms, ty := c.ty, mo := c.mo, e := c.e, b := c.b, t := c.t, big := c.big, ad := c.ad }).ty)), (AV.int (IntKind.i64) ((v_capops_keep { tag := c.tag, per := c.per &&& perms, ty := c.ty, mo := c.mo, e := c.e, b := c.b, t := c.t, big := c.big, ad := c.ad } !v_capops_Sealed { tag := c.tag, per := c.per &&& perms, ty := c.ty, mo := c.mo, e := c.e, b := c.b, t := c.t, big := c.big, ad := c.ad }).mo)), (AV.int (IntKind.i64) ((v_capops_keep { tag := c.tag, per := c.per &&& perms, ty := c.ty, mo := c.mo, e := c.e, b := c.b, t := c.t, big := c.big, ad := c.ad } !v_capops_Sealed { tag := c.tag, per := c.per &&& perms, ty := c.ty, mo := c.mo, e := c.e, b := c.b, t := c.t, big := c.big, ad := c.ad }).e)), (AV.int (IntKind.i64) ((v_capops_keep { tag := c.tag, per := c.per &&& perms, ty := c.ty, mo := c.mo, e := c.e, b := c.b, t := c.t, big := c.big, ad := c.ad } !v_capops_Sealed { tag := c.tag, per := c.per &&& perms, ty := c.ty, mo := c.mo, e := c.e, b := c.b, t := c.t, big := c.big, ad := c.ad }).b)), (AV.int (IntKind.i64) ((v_capops_keep { tag := c.tag, per := c.per &&& perms, ty := c.ty, mo := c.mo, e := c.e, b := c.b, t := c.t, big := c.big, ad := c.ad } !v_capops_Sealed { tag := c.tag, per := c.per &&& perms, ty := c.ty, mo := c.mo, e := c.e, b := c.b, t := c.t, big := c.big, ad := c.ad }).t)), (AV.bool ((v_capops_keep { tag := c.tag, per := c.per &&& perms, ty := c.ty, mo := c.mo, e := c.e, b := c.b, t := c.t, big := c.big, ad := c.ad } !v_capops_Sealed { tag := c.tag, per := c.per &&& perms, ty := c.ty, mo := c.mo, e := c.e, b := c.b, t := c.t, big := c.big, ad := c.ad }).big)), (AV.int (IntKind.u64) ((v_capops_keep { tag := c.tag, per := c.per &&& perms, ty := c.ty, mo := c.mo, e := c.e, b := c.b, t := c.t, big := c.big, ad := c.ad } !v_capops_Sealed { tag := c.tag, per := c.per &&& perms, ty := c.ty, mo := c.mo, e := c.e, b := c.b, t := c.t, big := c.big, ad := c.ad }).ad))])) by kernel_rfl).trans (rfl)
noncomputable def C_22 : Oracle := pureE 22 (pure2 dCp dI64 (fun c perms => (v_capops_Less c perms).av)) (C_26)
theorem C_22_snd : Snd Try.prog C_22 := pureE_snd (pure2_ok (F := F22) (C_26_snd) Try.func22 (by kernel_rfl) run_22 (fun _ _ => rfl)) (C_26_snd)

/- ravelin/ravelinref05.Less -/
def F27 : Cfg := { F := 400, roots := [0, 1, 2], fl := ⟨true, false⟩ }
theorem run_27 : ∀ (c : Cp) (perms : BitVec 64), pureRun Try.prog C_22 F27 Try.f27 [c.av, .int .i64 perms] = some ((v_r05_Less c perms).av) := fun c perms =>
 (show pureRun Try.prog C_22 F27 Try.f27 [c.av, .int .i64 perms] = (cond (c.tag)
 (some (AV.agg [(AV.bool ((v_r05_with { tag := c.tag, per := c.per &&& perms, ty := c.ty, mo := c.mo, e := c.e, b := c.b, t := c.t, big := c.big, ad := c.ad } !v_r05_Sealed { tag := c.tag, per := c.per &&& perms, ty := c.ty, mo := c.mo, e := c.e, b := c.b, t := c.t, big := c.big, ad := c.ad }).tag)), (AV.int (IntKind.i64) ((v_r05_with { tag := c.tag, per := c.per &&& perms, ty := c.ty, mo := c.mo, e := c.e, b := c.b, t := c.t, big := c.big, ad := c.ad } !v_r05_Sealed { tag := c.tag, per := c.per &&& perms, ty := c.ty, mo := c.mo, e := c.e, b := c.b, t := c.t, big := c.big, ad := c.ad }).per)), (AV.int (IntKind.i64) ((v_r05_with { tag := c.tag, per := c.per &&& perms, ty := c.ty, mo := c.mo, e := c.e, b := c.b, t := c.t, big := c.big, ad := c.ad } !v_r05_Sealed { tag := c.tag, per := c.per &&& perms, ty := c.ty, mo := c.mo, e := c.e, b := c.b, t := c.t, big := c.big, ad := c.ad }).ty)), (AV.int (IntKind.i64) ((v_r05_with { tag := c.tag, per := c.per &&& perms, ty := c.ty, mo := c.mo, e := c.e, b := c.b, t := c.t, big := c.big, ad := c.ad } !v_r05_Sealed { tag := c.tag, per := c.per &&& perms, ty := c.ty, mo := c.mo, e := c.e, b := c.b, t := c.t, big := c.big, ad := c.ad }).mo)), (AV.int (IntKind.i64) ((v_r05_with { tag := c.tag, per := c.per &&& perms, ty := c.ty, mo := c.mo, e := c.e, b := c.b, t := c.t, big := c.big, ad := c.ad } !v_r05_Sealed { tag := c.tag, per := c.per &&& perms, ty := c.ty, mo := c.mo, e := c.e, b := c.b, t := c.t, big := c.big, ad := c.ad }).e)), (AV.int (IntKind.i64) ((v_r05_with { tag := c.tag, per := c.per &&& perms, ty := c.ty, mo := c.mo, e := c.e, b := c.b, t := c.t, big := c.big, ad := c.ad } !v_r05_Sealed { tag := c.tag, per := c.per &&& perms, ty := c.ty, mo := c.mo, e := c.e, b := c.b, t := c.t, big := c.big, ad := c.ad }).b)), (AV.int (IntKind.i64) ((v_r05_with { tag := c.tag, per := c.per &&& perms, ty := c.ty, mo := c.mo, e := c.e, b := c.b, t := c.t, big := c.big, ad := c.ad } !v_r05_Sealed { tag := c.tag, per := c.per &&& perms, ty := c.ty, mo := c.mo, e := c.e, b := c.b, t := c.t, big := c.big, ad := c.ad }).t)), (AV.bool ((v_r05_with { tag := c.tag, per := c.per &&& perms, ty := c.ty, mo := c.mo, e := c.e, b := c.b, t := c.t, big := c.big, ad := c.ad } !v_r05_Sealed { tag := c.tag, per := c.per &&& perms, ty := c.ty, mo := c.mo, e := c.e, b := c.b, t := c.t, big := c.big, ad := c.ad }).big)), (AV.int (IntKind.u64) ((v_r05_with { tag := c.tag, per := c.per &&& perms, ty := c.ty, mo := c.mo, e := c.e, b := c.b, t := c.t, big := c.big, ad := c.ad } !v_r05_Sealed { tag := c.tag, per := c.per &&& perms, ty := c.ty, mo := c.mo, e := c.e, b := c.b, t := c.t, big := c.big, ad := c.ad }).ad))]))
 (some (AV.agg [(AV.bool ((v_r05_with { tag := c.tag, per := c.per &&& perms, ty := c.ty, mo := c.mo, e := c.e, b := c.b, t := c.t, big := c.big, ad := c.ad } false).tag)), (AV.int (IntKind.i64) ((v_r05_with { tag := c.tag, per := c.per &&& perms, ty := c.ty, mo := c.mo, e := c.e, b := c.b, t := c.t, big := c.big, ad := c.ad } false).per)), (AV.int (IntKind.i64) ((v_r05_with { tag := c.tag, per := c.per &&& perms, ty := c.ty, mo := c.mo, e := c.e, b := c.b, t := c.t, big := c.big, ad := c.ad } false).ty)), (AV.int (IntKind.i64) ((v_r05_with { tag := c.tag, per := c.per &&& perms, ty := c.ty, mo := c.mo, e := c.e, b := c.b, t := c.t, big := c.big, ad := c.ad } false).mo)), (AV.int (IntKind.i64) ((v_r05_with { tag := c.tag, per := c.per &&& perms, ty := c.ty, mo := c.mo, e := c.e, b := c.b, t := c.t, big := c.big, ad := c.ad } false).e)), (AV.int (IntKind.i64) ((v_r05_with { tag := c.tag, per := c.per &&& perms, ty := c.ty, mo := c.mo, e := c.e, b := c.b, t := c.t, big := c.big, ad := c.ad } false).b)), (AV.int (IntKind.i64) ((v_r05_with { tag := c.tag, per := c.per &&& perms, ty := c.ty, mo := c.mo, e := c.e, b := c.b, t := c.t, big := c.big, ad := c.ad } false).t)), (AV.bool ((v_r05_with { tag := c.tag, per := c.per &&& perms, ty := c.ty, mo := c.mo, e := c.e, b := c.b, t := c.t, big := c.big, ad := c.ad } false).big)), (AV.int (IntKind.u64) ((v_r05_with { tag := c.tag, per := c.per &&& perms, ty := c.ty, mo := c.mo, e := c.e, b := c.b, t := c.t, big := c.big, ad := c.ad } false).ad))]))) by kernel_rfl).trans (by
    delta v_r05_Less
    refine (mer _ (Cp.av) ?_ ?_)
    all_goals (try delta Cp.av)
    all_goals (try delta Rg.av)
    all_goals (try delta W2.av)
    all_goals (try delta Tr.av)
    all_goals (try delta Qu.av)
    all_goals first | with_reducible rfl | rfl)
noncomputable def C_27 : Oracle := pureE 27 (pure2 dCp dI64 (fun c perms => (v_r05_Less c perms).av)) (C_22)
theorem C_27_snd : Snd Try.prog C_27 := pureE_snd (pure2_ok (F := F27) (C_22_snd) Try.func27 (by kernel_rfl) run_27 (fun _ _ => rfl)) (C_22_snd)

/- ravelin/capops.Mode -/
def F28 : Cfg := { F := 400, roots := [0, 1, 2], fl := ⟨true, false⟩ }
theorem run_28 : ∀ (c : Cp) (mode : BitVec 64), pureRun Try.prog C_27 F28 Try.f28 [c.av, .int .i64 mode] = some ((v_capops_Mode c mode).av) := fun c mode =>
 (show pureRun Try.prog C_27 F28 Try.f28 [c.av, .int .i64 mode] = (some (AV.agg [(AV.bool ((v_capops_keep { tag := c.tag, per := c.per, ty := c.ty, mo := mode &&& 1#64, e := c.e, b := c.b, t := c.t, big := c.big, ad := c.ad } !v_capops_Sealed { tag := c.tag, per := c.per, ty := c.ty, mo := mode &&& 1#64, e := c.e, b := c.b, t := c.t, big := c.big, ad := c.ad }).tag)), (AV.int (IntKind.i64) ((v_capops_keep { tag := c.tag, per := c.per, ty := c.ty, mo := mode &&& 1#64, e := c.e, b := c.b, t := c.t, big := c.big, ad := c.ad } !v_capops_Sealed { tag := c.tag, per := c.per, ty := c.ty, mo := mode &&& 1#64, e := c.e, b := c.b, t := c.t, big := c.big, ad := c.ad }).per)), (AV.int (IntKind.i64) ((v_capops_keep { tag := c.tag, per := c.per, ty := c.ty, mo := mode &&& 1#64, e := c.e, b := c.b, t := c.t, big := c.big, ad := c.ad } !v_capops_Sealed { tag := c.tag, per := c.per, ty := c.ty, mo := mode &&& 1#64, e := c.e, b := c.b, t := c.t, big := c.big, ad := c.ad }).ty)), (AV.int (IntKind.i64) ((v_capops_keep { tag := c.tag, per := c.per, ty := c.ty, mo := mode &&& 1#64, e := c.e, b := c.b, t := c.t, big := c.big, ad := c.ad } !v_capops_Sealed { tag := c.tag, per := c.per, ty := c.ty, mo := mode &&& 1#64, e := c.e, b := c.b, t := c.t, big := c.big, ad := c.ad }).mo)), (AV.int (IntKind.i64) ((v_capops_keep { tag := c.tag, per := c.per, ty := c.ty, mo := mode &&& 1#64, e := c.e, b := c.b, t := c.t, big := c.big, ad := c.ad } !v_capops_Sealed { tag := c.tag, per := c.per, ty := c.ty, mo := mode &&& 1#64, e := c.e, b := c.b, t := c.t, big := c.big, ad := c.ad }).e)), (AV.int (IntKind.i64) ((v_capops_keep { tag := c.tag, per := c.per, ty := c.ty, mo := mode &&& 1#64, e := c.e, b := c.b, t := c.t, big := c.big, ad := c.ad } !v_capops_Sealed { tag := c.tag, per := c.per, ty := c.ty, mo := mode &&& 1#64, e := c.e, b := c.b, t := c.t, big := c.big, ad := c.ad }).b)), (AV.int (IntKind.i64) ((v_capops_keep { tag := c.tag, per := c.per, ty := c.ty, mo := mode &&& 1#64, e := c.e, b := c.b, t := c.t, big := c.big, ad := c.ad } !v_capops_Sealed { tag := c.tag, per := c.per, ty := c.ty, mo := mode &&& 1#64, e := c.e, b := c.b, t := c.t, big := c.big, ad := c.ad }).t)), (AV.bool ((v_capops_keep { tag := c.tag, per := c.per, ty := c.ty, mo := mode &&& 1#64, e := c.e, b := c.b, t := c.t, big := c.big, ad := c.ad } !v_capops_Sealed { tag := c.tag, per := c.per, ty := c.ty, mo := mode &&& 1#64, e := c.e, b := c.b, t := c.t, big := c.big, ad := c.ad }).big)), (AV.int (IntKind.u64) ((v_capops_keep { tag := c.tag, per := c.per, ty := c.ty, mo := mode &&& 1#64, e := c.e, b := c.b, t := c.t, big := c.big, ad := c.ad } !v_capops_Sealed { tag := c.tag, per := c.per, ty := c.ty, mo := mode &&& 1#64, e := c.e, b := c.b, t := c.t, big := c.big, ad := c.ad }).ad))])) by kernel_rfl).trans (rfl)
noncomputable def C_28 : Oracle := pureE 28 (pure2 dCp dI64 (fun c mode => (v_capops_Mode c mode).av)) (C_27)
theorem C_28_snd : Snd Try.prog C_28 := pureE_snd (pure2_ok (F := F28) (C_27_snd) Try.func28 (by kernel_rfl) run_28 (fun _ _ => rfl)) (C_27_snd)

/- ravelin/ravelinref05.Mode -/
def F29 : Cfg := { F := 400, roots := [0, 1, 2], fl := ⟨true, false⟩ }
theorem run_29 : ∀ (c : Cp) (mode : BitVec 64), pureRun Try.prog C_28 F29 Try.f29 [c.av, .int .i64 mode] = some ((v_r05_Mode c mode).av) := fun c mode =>
 (show pureRun Try.prog C_28 F29 Try.f29 [c.av, .int .i64 mode] = (cond (c.tag)
 (some (AV.agg [(AV.bool ((v_r05_with { tag := c.tag, per := c.per, ty := c.ty, mo := mode &&& 1#64, e := c.e, b := c.b, t := c.t, big := c.big, ad := c.ad } !v_r05_Sealed { tag := c.tag, per := c.per, ty := c.ty, mo := mode &&& 1#64, e := c.e, b := c.b, t := c.t, big := c.big, ad := c.ad }).tag)), (AV.int (IntKind.i64) ((v_r05_with { tag := c.tag, per := c.per, ty := c.ty, mo := mode &&& 1#64, e := c.e, b := c.b, t := c.t, big := c.big, ad := c.ad } !v_r05_Sealed { tag := c.tag, per := c.per, ty := c.ty, mo := mode &&& 1#64, e := c.e, b := c.b, t := c.t, big := c.big, ad := c.ad }).per)), (AV.int (IntKind.i64) ((v_r05_with { tag := c.tag, per := c.per, ty := c.ty, mo := mode &&& 1#64, e := c.e, b := c.b, t := c.t, big := c.big, ad := c.ad } !v_r05_Sealed { tag := c.tag, per := c.per, ty := c.ty, mo := mode &&& 1#64, e := c.e, b := c.b, t := c.t, big := c.big, ad := c.ad }).ty)), (AV.int (IntKind.i64) ((v_r05_with { tag := c.tag, per := c.per, ty := c.ty, mo := mode &&& 1#64, e := c.e, b := c.b, t := c.t, big := c.big, ad := c.ad } !v_r05_Sealed { tag := c.tag, per := c.per, ty := c.ty, mo := mode &&& 1#64, e := c.e, b := c.b, t := c.t, big := c.big, ad := c.ad }).mo)), (AV.int (IntKind.i64) ((v_r05_with { tag := c.tag, per := c.per, ty := c.ty, mo := mode &&& 1#64, e := c.e, b := c.b, t := c.t, big := c.big, ad := c.ad } !v_r05_Sealed { tag := c.tag, per := c.per, ty := c.ty, mo := mode &&& 1#64, e := c.e, b := c.b, t := c.t, big := c.big, ad := c.ad }).e)), (AV.int (IntKind.i64) ((v_r05_with { tag := c.tag, per := c.per, ty := c.ty, mo := mode &&& 1#64, e := c.e, b := c.b, t := c.t, big := c.big, ad := c.ad } !v_r05_Sealed { tag := c.tag, per := c.per, ty := c.ty, mo := mode &&& 1#64, e := c.e, b := c.b, t := c.t, big := c.big, ad := c.ad }).b)), (AV.int (IntKind.i64) ((v_r05_with { tag := c.tag, per := c.per, ty := c.ty, mo := mode &&& 1#64, e := c.e, b := c.b, t := c.t, big := c.big, ad := c.ad } !v_r05_Sealed { tag := c.tag, per := c.per, ty := c.ty, mo := mode &&& 1#64, e := c.e, b := c.b, t := c.t, big := c.big, ad := c.ad }).t)), (AV.bool ((v_r05_with { tag := c.tag, per := c.per, ty := c.ty, mo := mode &&& 1#64, e := c.e, b := c.b, t := c.t, big := c.big, ad := c.ad } !v_r05_Sealed { tag := c.tag, per := c.per, ty := c.ty, mo := mode &&& 1#64, e := c.e, b := c.b, t := c.t, big := c.big, ad := c.ad }).big)), (AV.int (IntKind.u64) ((v_r05_with { tag := c.tag, per := c.per, ty := c.ty, mo := mode &&& 1#64, e := c.e, b := c.b, t := c.t, big := c.big, ad := c.ad } !v_r05_Sealed { tag := c.tag, per := c.per, ty := c.ty, mo := mode &&& 1#64, e := c.e, b := c.b, t := c.t, big := c.big, ad := c.ad }).ad))]))
 (some (AV.agg [(AV.bool ((v_r05_with { tag := c.tag, per := c.per, ty := c.ty, mo := mode &&& 1#64, e := c.e, b := c.b, t := c.t, big := c.big, ad := c.ad } false).tag)), (AV.int (IntKind.i64) ((v_r05_with { tag := c.tag, per := c.per, ty := c.ty, mo := mode &&& 1#64, e := c.e, b := c.b, t := c.t, big := c.big, ad := c.ad } false).per)), (AV.int (IntKind.i64) ((v_r05_with { tag := c.tag, per := c.per, ty := c.ty, mo := mode &&& 1#64, e := c.e, b := c.b, t := c.t, big := c.big, ad := c.ad } false).ty)), (AV.int (IntKind.i64) ((v_r05_with { tag := c.tag, per := c.per, ty := c.ty, mo := mode &&& 1#64, e := c.e, b := c.b, t := c.t, big := c.big, ad := c.ad } false).mo)), (AV.int (IntKind.i64) ((v_r05_with { tag := c.tag, per := c.per, ty := c.ty, mo := mode &&& 1#64, e := c.e, b := c.b, t := c.t, big := c.big, ad := c.ad } false).e)), (AV.int (IntKind.i64) ((v_r05_with { tag := c.tag, per := c.per, ty := c.ty, mo := mode &&& 1#64, e := c.e, b := c.b, t := c.t, big := c.big, ad := c.ad } false).b)), (AV.int (IntKind.i64) ((v_r05_with { tag := c.tag, per := c.per, ty := c.ty, mo := mode &&& 1#64, e := c.e, b := c.b, t := c.t, big := c.big, ad := c.ad } false).t)), (AV.bool ((v_r05_with { tag := c.tag, per := c.per, ty := c.ty, mo := mode &&& 1#64, e := c.e, b := c.b, t := c.t, big := c.big, ad := c.ad } false).big)), (AV.int (IntKind.u64) ((v_r05_with { tag := c.tag, per := c.per, ty := c.ty, mo := mode &&& 1#64, e := c.e, b := c.b, t := c.t, big := c.big, ad := c.ad } false).ad))]))) by kernel_rfl).trans (by
    delta v_r05_Mode
    refine (mer _ (Cp.av) ?_ ?_)
    all_goals (try delta Cp.av)
    all_goals (try delta Rg.av)
    all_goals (try delta W2.av)
    all_goals (try delta Tr.av)
    all_goals (try delta Qu.av)
    all_goals first | with_reducible rfl | rfl)
noncomputable def C_29 : Oracle := pureE 29 (pure2 dCp dI64 (fun c mode => (v_r05_Mode c mode).av)) (C_28)
theorem C_29_snd : Snd Try.prog C_29 := pureE_snd (pure2_ok (F := F29) (C_28_snd) Try.func29 (by kernel_rfl) run_29 (fun _ _ => rfl)) (C_28_snd)

/- ravelin/capops.Sentry -/
def F30 : Cfg := { F := 400, roots := [0, 1], fl := ⟨true, false⟩ }
theorem run_30 : ∀ (c : Cp), pureRun Try.prog C_29 F30 Try.f30 [c.av] = some ((v_capops_Sentry c).av) := fun c =>
 (show pureRun Try.prog C_29 F30 Try.f30 [c.av] = (cond (v_capops_Sealed c)
 (some (AV.agg [(AV.bool ((v_capops_keep c false).tag)), (AV.int (IntKind.i64) ((v_capops_keep c false).per)), (AV.int (IntKind.i64) ((v_capops_keep c false).ty)), (AV.int (IntKind.i64) ((v_capops_keep c false).mo)), (AV.int (IntKind.i64) ((v_capops_keep c false).e)), (AV.int (IntKind.i64) ((v_capops_keep c false).b)), (AV.int (IntKind.i64) ((v_capops_keep c false).t)), (AV.bool ((v_capops_keep c false).big)), (AV.int (IntKind.u64) ((v_capops_keep c false).ad))]))
 (cond (c.per &&& 2#64 == 0#64)
 (some (AV.agg [(AV.bool ((v_capops_keep c false).tag)), (AV.int (IntKind.i64) ((v_capops_keep c false).per)), (AV.int (IntKind.i64) ((v_capops_keep c false).ty)), (AV.int (IntKind.i64) ((v_capops_keep c false).mo)), (AV.int (IntKind.i64) ((v_capops_keep c false).e)), (AV.int (IntKind.i64) ((v_capops_keep c false).b)), (AV.int (IntKind.i64) ((v_capops_keep c false).t)), (AV.bool ((v_capops_keep c false).big)), (AV.int (IntKind.u64) ((v_capops_keep c false).ad))]))
 (cond (!c.tag)
 (some (AV.agg [(AV.bool ((v_capops_keep c false).tag)), (AV.int (IntKind.i64) ((v_capops_keep c false).per)), (AV.int (IntKind.i64) ((v_capops_keep c false).ty)), (AV.int (IntKind.i64) ((v_capops_keep c false).mo)), (AV.int (IntKind.i64) ((v_capops_keep c false).e)), (AV.int (IntKind.i64) ((v_capops_keep c false).b)), (AV.int (IntKind.i64) ((v_capops_keep c false).t)), (AV.bool ((v_capops_keep c false).big)), (AV.int (IntKind.u64) ((v_capops_keep c false).ad))]))
 (some (AV.agg [(AV.bool (c.tag)), (AV.int (IntKind.i64) (c.per)), (AV.int (IntKind.i64) (262142#64)), (AV.int (IntKind.i64) (c.mo)), (AV.int (IntKind.i64) (c.e)), (AV.int (IntKind.i64) (c.b)), (AV.int (IntKind.i64) (c.t)), (AV.bool (c.big)), (AV.int (IntKind.u64) (c.ad))]))))) by kernel_rfl).trans (by
    delta v_capops_Sentry
    refine (mer _ (Cp.av) ?_ (mer _ (Cp.av) ?_ (mer _ (Cp.av) ?_ ?_)))
    all_goals (try delta Cp.av)
    all_goals (try delta Rg.av)
    all_goals (try delta W2.av)
    all_goals (try delta Tr.av)
    all_goals (try delta Qu.av)
    all_goals first | with_reducible rfl | rfl)
noncomputable def C_30 : Oracle := pureE 30 (pure1 dCp (fun c => (v_capops_Sentry c).av)) (C_29)
theorem C_30_snd : Snd Try.prog C_30 := pureE_snd (pure1_ok (F := F30) (C_29_snd) Try.func30 (by kernel_rfl) run_30 (fun _ => rfl)) (C_29_snd)

/- ravelin/ravelinref05.Sentry -/
def F31 : Cfg := { F := 400, roots := [0, 1], fl := ⟨true, false⟩ }
theorem run_31 : ∀ (c : Cp), pureRun Try.prog C_30 F31 Try.f31 [c.av] = some ((v_r05_Sentry c).av) := fun c =>
 (show pureRun Try.prog C_30 F31 Try.f31 [c.av] = (cond (!c.tag)
 (some (AV.agg [(AV.bool ((v_r05_with c false).tag)), (AV.int (IntKind.i64) ((v_r05_with c false).per)), (AV.int (IntKind.i64) ((v_r05_with c false).ty)), (AV.int (IntKind.i64) ((v_r05_with c false).mo)), (AV.int (IntKind.i64) ((v_r05_with c false).e)), (AV.int (IntKind.i64) ((v_r05_with c false).b)), (AV.int (IntKind.i64) ((v_r05_with c false).t)), (AV.bool ((v_r05_with c false).big)), (AV.int (IntKind.u64) ((v_r05_with c false).ad))]))
 (cond (v_r05_Sealed c)
 (some (AV.agg [(AV.bool ((v_r05_with c false).tag)), (AV.int (IntKind.i64) ((v_r05_with c false).per)), (AV.int (IntKind.i64) ((v_r05_with c false).ty)), (AV.int (IntKind.i64) ((v_r05_with c false).mo)), (AV.int (IntKind.i64) ((v_r05_with c false).e)), (AV.int (IntKind.i64) ((v_r05_with c false).b)), (AV.int (IntKind.i64) ((v_r05_with c false).t)), (AV.bool ((v_r05_with c false).big)), (AV.int (IntKind.u64) ((v_r05_with c false).ad))]))
 (cond (c.per &&& 2#64 == 0#64)
 (some (AV.agg [(AV.bool ((v_r05_with c false).tag)), (AV.int (IntKind.i64) ((v_r05_with c false).per)), (AV.int (IntKind.i64) ((v_r05_with c false).ty)), (AV.int (IntKind.i64) ((v_r05_with c false).mo)), (AV.int (IntKind.i64) ((v_r05_with c false).e)), (AV.int (IntKind.i64) ((v_r05_with c false).b)), (AV.int (IntKind.i64) ((v_r05_with c false).t)), (AV.bool ((v_r05_with c false).big)), (AV.int (IntKind.u64) ((v_r05_with c false).ad))]))
 (some (AV.agg [(AV.bool (c.tag)), (AV.int (IntKind.i64) (c.per)), (AV.int (IntKind.i64) (262142#64)), (AV.int (IntKind.i64) (c.mo)), (AV.int (IntKind.i64) (c.e)), (AV.int (IntKind.i64) (c.b)), (AV.int (IntKind.i64) (c.t)), (AV.bool (c.big)), (AV.int (IntKind.u64) (c.ad))]))))) by kernel_rfl).trans (by
    delta v_r05_Sentry
    refine (mer _ (Cp.av) ?_ (mer _ (Cp.av) ?_ (mer _ (Cp.av) ?_ ?_)))
    all_goals (try delta Cp.av)
    all_goals (try delta Rg.av)
    all_goals (try delta W2.av)
    all_goals (try delta Tr.av)
    all_goals (try delta Qu.av)
    all_goals first | with_reducible rfl | rfl)
noncomputable def C_31 : Oracle := pureE 31 (pure1 dCp (fun c => (v_r05_Sentry c).av)) (C_30)
theorem C_31_snd : Snd Try.prog C_31 := pureE_snd (pure1_ok (F := F31) (C_30_snd) Try.func31 (by kernel_rfl) run_31 (fun _ => rfl)) (C_30_snd)

/- ravelin/capenc.Number -/
def F44 : Cfg := { F := 400, roots := [0, 1], fl := ⟨true, false⟩ }
theorem run_44 : ∀ (n : BitVec 64), pureRun Try.prog C_31 F44 Try.f44 [.int .u64 n] = some ((v_capenc_Number n).av) := fun n =>
 (show pureRun Try.prog C_31 F44 Try.f44 [.int .u64 n] = (some (AV.agg [(AV.bool (false)), (AV.int (IntKind.i64) (0#64)), (AV.int (IntKind.i64) (262143#64)), (AV.int (IntKind.i64) (0#64)), (AV.int (IntKind.i64) (52#64)), (AV.int (IntKind.i64) (0#64)), (AV.int (IntKind.i64) (0#64)), (AV.bool (true)), (AV.int (IntKind.u64) (n))])) by kernel_rfl).trans (rfl)
noncomputable def C_44 : Oracle := pureE 44 (pure1 dU64 (fun n => (v_capenc_Number n).av)) (C_31)
theorem C_44_snd : Snd Try.prog C_44 := pureE_snd (pure1_ok (F := F44) (C_31_snd) Try.func44 (by kernel_rfl) run_44 (fun _ => rfl)) (C_31_snd)

/- ravelin/capops.From -/
def F32 : Cfg := { F := 400, roots := [0, 1, 2], fl := ⟨true, false⟩ }
theorem run_32 : ∀ (c : Cp) (n : BitVec 64), pureRun Try.prog C_44 F32 Try.f32 [c.av, .int .u64 n] = cond (g_capops_From c n) (some ((v_capops_From c n).av)) none := fun c n =>
 (show pureRun Try.prog C_44 F32 Try.f32 [c.av, .int .u64 n] = (cond (n == 0#64)
 (some (AV.agg [(AV.bool (false)), (AV.int (IntKind.i64) (0#64)), (AV.int (IntKind.i64) (262143#64)), (AV.int (IntKind.i64) (0#64)), (AV.int (IntKind.i64) (52#64)), (AV.int (IntKind.i64) (0#64)), (AV.int (IntKind.i64) (0#64)), (AV.bool (true)), (AV.int (IntKind.u64) (0#64))]))
 (cond (g_bounds_Of c)
 (cond (g_capops_Move c ((v_bounds_Of c).base + n))
 (some (AV.agg [(AV.bool ((v_capops_Move c ((v_bounds_Of c).base + n)).tag)), (AV.int (IntKind.i64) ((v_capops_Move c ((v_bounds_Of c).base + n)).per)), (AV.int (IntKind.i64) ((v_capops_Move c ((v_bounds_Of c).base + n)).ty)), (AV.int (IntKind.i64) ((v_capops_Move c ((v_bounds_Of c).base + n)).mo)), (AV.int (IntKind.i64) ((v_capops_Move c ((v_bounds_Of c).base + n)).e)), (AV.int (IntKind.i64) ((v_capops_Move c ((v_bounds_Of c).base + n)).b)), (AV.int (IntKind.i64) ((v_capops_Move c ((v_bounds_Of c).base + n)).t)), (AV.bool ((v_capops_Move c ((v_bounds_Of c).base + n)).big)), (AV.int (IntKind.u64) ((v_capops_Move c ((v_bounds_Of c).base + n)).ad))]))
   none)
  none)) by kernel_rfl).trans ((merG _ (Cp.av) rfl (merR _ (Cp.av) (merR _ (Cp.av) rfl))))
noncomputable def C_32 : Oracle := pureGE 32 (pure2 dCp dU64 (fun c n => .tup [.bool (g_capops_From c n), (v_capops_From c n).av])) (C_44)
theorem C_32_snd : Snd Try.prog C_32 := pureGE_snd (pure2_gok (F := F32) (C_44_snd) Try.func32 (by kernel_rfl) run_32 (fun _ _ => rfl)) (C_44_snd)

/- ravelin/ravelinref04.Number -/
def F71 : Cfg := { F := 400, roots := [0, 1], fl := ⟨true, false⟩ }
theorem run_71 : ∀ (n : BitVec 64), pureRun Try.prog C_32 F71 Try.f71 [.int .u64 n] = some ((v_r04_Number n).av) := fun n =>
 (show pureRun Try.prog C_32 F71 Try.f71 [.int .u64 n] = (some (AV.agg [(AV.bool (false)), (AV.int (IntKind.i64) (0#64)), (AV.int (IntKind.i64) (262143#64)), (AV.int (IntKind.i64) (0#64)), (AV.int (IntKind.i64) (52#64)), (AV.int (IntKind.i64) (0#64)), (AV.int (IntKind.i64) (0#64)), (AV.bool (true)), (AV.int (IntKind.u64) (n))])) by kernel_rfl).trans (rfl)
noncomputable def C_71 : Oracle := pureE 71 (pure1 dU64 (fun n => (v_r04_Number n).av)) (C_32)
theorem C_71_snd : Snd Try.prog C_71 := pureE_snd (pure1_ok (F := F71) (C_32_snd) Try.func71 (by kernel_rfl) run_71 (fun _ => rfl)) (C_32_snd)

/- ravelin/ravelinref05.From -/
def F33 : Cfg := { F := 400, roots := [0, 1, 2], fl := ⟨true, false⟩ }
theorem run_33 : ∀ (c : Cp) (n : BitVec 64), pureRun Try.prog C_71 F33 Try.f33 [c.av, .int .u64 n] = some ((v_r05_From c n).av) := fun c n =>
 (show pureRun Try.prog C_71 F33 Try.f33 [c.av, .int .u64 n] = (cond (n == 0#64)
 (some (AV.agg [(AV.bool (false)), (AV.int (IntKind.i64) (0#64)), (AV.int (IntKind.i64) (262143#64)), (AV.int (IntKind.i64) (0#64)), (AV.int (IntKind.i64) (52#64)), (AV.int (IntKind.i64) (0#64)), (AV.int (IntKind.i64) (0#64)), (AV.bool (true)), (AV.int (IntKind.u64) (0#64))]))
 (some (AV.agg [(AV.bool ((v_r05_Move c ((v_r03_Of c).base + n)).tag)), (AV.int (IntKind.i64) ((v_r05_Move c ((v_r03_Of c).base + n)).per)), (AV.int (IntKind.i64) ((v_r05_Move c ((v_r03_Of c).base + n)).ty)), (AV.int (IntKind.i64) ((v_r05_Move c ((v_r03_Of c).base + n)).mo)), (AV.int (IntKind.i64) ((v_r05_Move c ((v_r03_Of c).base + n)).e)), (AV.int (IntKind.i64) ((v_r05_Move c ((v_r03_Of c).base + n)).b)), (AV.int (IntKind.i64) ((v_r05_Move c ((v_r03_Of c).base + n)).t)), (AV.bool ((v_r05_Move c ((v_r03_Of c).base + n)).big)), (AV.int (IntKind.u64) ((v_r05_Move c ((v_r03_Of c).base + n)).ad))]))) by kernel_rfl).trans (by
    delta v_r05_From
    refine (mer _ (Cp.av) ?_ ?_)
    all_goals (try delta Cp.av)
    all_goals (try delta Rg.av)
    all_goals (try delta W2.av)
    all_goals (try delta Tr.av)
    all_goals (try delta Qu.av)
    all_goals first | with_reducible rfl | rfl)
noncomputable def C_33 : Oracle := pureE 33 (pure2 dCp dU64 (fun c n => (v_r05_From c n).av)) (C_71)
theorem C_33_snd : Snd Try.prog C_33 := pureE_snd (pure2_ok (F := F33) (C_71_snd) Try.func33 (by kernel_rfl) run_33 (fun _ _ => rfl)) (C_71_snd)

/- ravelin/capenc.Root -/
def F43 : Cfg := { F := 400, roots := [0, 1, 2, 3], fl := ⟨true, false⟩ }
theorem run_43 : ∀ (mode : BitVec 64) (xat : BitVec 64), pureRun Try.prog C_33 F43 Try.f43 [.int .i64 mode, .int .u64 xat] = some ((v_capenc_Root mode xat).av) := fun mode xat =>
 (show pureRun Try.prog C_33 F43 Try.f43 [.int .i64 mode, .int .u64 xat] = (cond (mode == 1#64)
 (some (AV.agg [(AV.bool (true)), (AV.int (IntKind.i64) (65535#64)), (AV.int (IntKind.i64) ((v_capenc_Number xat).ty)), (AV.int (IntKind.i64) (1#64)), (AV.int (IntKind.i64) ((v_capenc_Number xat).e)), (AV.int (IntKind.i64) ((v_capenc_Number xat).b)), (AV.int (IntKind.i64) ((v_capenc_Number xat).t)), (AV.bool ((v_capenc_Number xat).big)), (AV.int (IntKind.u64) ((v_capenc_Number xat).ad))]))
 (some (AV.agg [(AV.bool (true)), (AV.int (IntKind.i64) (65535#64)), (AV.int (IntKind.i64) ((v_capenc_Number xat).ty)), (AV.int (IntKind.i64) ((v_capenc_Number xat).mo)), (AV.int (IntKind.i64) ((v_capenc_Number xat).e)), (AV.int (IntKind.i64) ((v_capenc_Number xat).b)), (AV.int (IntKind.i64) ((v_capenc_Number xat).t)), (AV.bool ((v_capenc_Number xat).big)), (AV.int (IntKind.u64) ((v_capenc_Number xat).ad))]))) by kernel_rfl).trans (by
    delta v_capenc_Root
    refine (mer _ (Cp.av) ?_ ?_)
    all_goals (try delta Cp.av)
    all_goals (try delta Rg.av)
    all_goals (try delta W2.av)
    all_goals (try delta Tr.av)
    all_goals (try delta Qu.av)
    all_goals first | with_reducible rfl | rfl)
noncomputable def C_43 : Oracle := pureE 43 (pure2 dI64 dU64 (fun mode xat => (v_capenc_Root mode xat).av)) (C_33)
theorem C_43_snd : Snd Try.prog C_43 := pureE_snd (pure2_ok (F := F43) (C_33_snd) Try.func43 (by kernel_rfl) run_43 (fun _ _ => rfl)) (C_33_snd)

/- ravelin/capops.asked$1 -/
def F73 : Cfg := { F := 400, roots := [0, 1], fl := ⟨true, false⟩ }
theorem run_73 : ∀ (c : Cp), pureRun Try.prog C_43 F73 Try.f73 [c.av] = some (.int .u64 (v_capops_asked_1 c)) := fun c =>
 (show pureRun Try.prog C_43 F73 Try.f73 [c.av] = (some (AV.int (IntKind.u64) (BitVec.signExtend 64 c.per))) by kernel_rfl).trans (rfl)
noncomputable def C_73 : Oracle := pureE 73 (pure1 dCp (fun c => .int .u64 (v_capops_asked_1 c))) (C_43)
theorem C_73_snd : Snd Try.prog C_73 := pureE_snd (pure1_ok (F := F73) (C_43_snd) Try.func73 (by kernel_rfl) run_73 (fun _ => rfl)) (C_43_snd)

/- ravelin/capops.asked$2 -/
def F74 : Cfg := { F := 400, roots := [0, 1], fl := ⟨true, false⟩ }
theorem run_74 : ∀ (c : Cp), pureRun Try.prog C_73 F74 Try.f74 [c.av] = some (.int .u64 (v_capops_asked_2 c)) := fun c =>
 (show pureRun Try.prog C_73 F74 Try.f74 [c.av] = (cond ((262142#64).sle c.ty)
 (some (AV.int (IntKind.u64) (BitVec.signExtend 64 c.ty ||| 18446744073709289472#64)))
 (some (AV.int (IntKind.u64) (BitVec.signExtend 64 c.ty)))) by kernel_rfl).trans (by
    delta v_capops_asked_2
    refine (mer _ (fun p => .int .u64 p) ?_ ?_)
    all_goals first | with_reducible rfl | rfl)
noncomputable def C_74 : Oracle := pureE 74 (pure1 dCp (fun c => .int .u64 (v_capops_asked_2 c))) (C_73)
theorem C_74_snd : Snd Try.prog C_74 := pureE_snd (pure1_ok (F := F74) (C_73_snd) Try.func74 (by kernel_rfl) run_74 (fun _ => rfl)) (C_73_snd)

/- ravelin/capops.asked$3 -/
def F75 : Cfg := { F := 400, roots := [0, 1], fl := ⟨true, false⟩ }
theorem run_75 : ∀ (c : Cp), pureRun Try.prog C_74 F75 Try.f75 [c.av] = cond (g_capops_asked_3 c) (some (.int .u64 (v_capops_asked_3 c))) none := fun c =>
 (show pureRun Try.prog C_74 F75 Try.f75 [c.av] = (cond (g_bounds_Of c)
 (some (AV.int (IntKind.u64) ((v_bounds_Of c).base)))
 none) by kernel_rfl).trans ((merR _ (fun p => .int .u64 p) rfl))
noncomputable def C_75 : Oracle := pureGE 75 (pure1 dCp (fun c => .tup [.bool (g_capops_asked_3 c), .int .u64 (v_capops_asked_3 c)])) (C_74)
theorem C_75_snd : Snd Try.prog C_75 := pureGE_snd (pure1_gok (F := F75) (C_74_snd) Try.func75 (by kernel_rfl) run_75 (fun _ => rfl)) (C_74_snd)

/- ravelin/bounds.Len -/
def F46 : Cfg := { F := 400, roots := [0, 1], fl := ⟨true, false⟩ }
theorem run_46 : ∀ (r : Rg), pureRun Try.prog C_75 F46 Try.f46 [r.av] = some (.int .u64 (v_bounds_Len r)) := fun r =>
 (show pureRun Try.prog C_75 F46 Try.f46 [r.av] = (cond (!v_bounds_number_above (v_bounds_top r) { hi := 0#64, lo := r.base })
 (some (AV.int (IntKind.u64) (0#64)))
 (cond (r.over)
 (cond (r.base.ule r.top)
 (some (AV.int (IntKind.u64) (18446744073709551615#64)))
 (some (AV.int (IntKind.u64) (r.top - r.base))))
 (some (AV.int (IntKind.u64) (r.top - r.base))))) by kernel_rfl).trans (by
    delta v_bounds_Len
    refine (mer _ (fun p => .int .u64 p) ?_ (mer _ (fun p => .int .u64 p) (mer _ (fun p => .int .u64 p) ?_ ?_) ?_))
    all_goals first | with_reducible rfl | rfl)
noncomputable def C_46 : Oracle := pureE 46 (pure1 dRg (fun r => .int .u64 (v_bounds_Len r))) (C_75)
theorem C_46_snd : Snd Try.prog C_46 := pureE_snd (pure1_ok (F := F46) (C_75_snd) Try.func46 (by kernel_rfl) run_46 (fun _ => rfl)) (C_75_snd)

/- ravelin/capops.asked$4 -/
def F76 : Cfg := { F := 400, roots := [0, 1], fl := ⟨true, false⟩ }
theorem run_76 : ∀ (c : Cp), pureRun Try.prog C_46 F76 Try.f76 [c.av] = cond (g_capops_asked_4 c) (some (.int .u64 (v_capops_asked_4 c))) none := fun c =>
 (show pureRun Try.prog C_46 F76 Try.f76 [c.av] = (cond (g_bounds_Of c)
 (some (AV.int (IntKind.u64) (v_bounds_Len (v_bounds_Of c))))
 none) by kernel_rfl).trans ((merR _ (fun p => .int .u64 p) rfl))
noncomputable def C_76 : Oracle := pureGE 76 (pure1 dCp (fun c => .tup [.bool (g_capops_asked_4 c), .int .u64 (v_capops_asked_4 c)])) (C_46)
theorem C_76_snd : Snd Try.prog C_76 := pureGE_snd (pure1_gok (F := F76) (C_46_snd) Try.func76 (by kernel_rfl) run_76 (fun _ => rfl)) (C_46_snd)

/- ravelin/capops.truth -/
def F78 : Cfg := { F := 400, roots := [0, 1], fl := ⟨true, false⟩ }
theorem run_78 : ∀ (xis : Bool), pureRun Try.prog C_76 F78 Try.f78 [.bool xis] = some (.int .u64 (v_capops_truth xis)) := fun xis =>
 (show pureRun Try.prog C_76 F78 Try.f78 [.bool xis] = (cond (xis)
 (some (AV.int (IntKind.u64) (1#64)))
 (some (AV.int (IntKind.u64) (0#64)))) by kernel_rfl).trans (by
    delta v_capops_truth
    refine (mer _ (fun p => .int .u64 p) ?_ ?_)
    all_goals first | with_reducible rfl | rfl)
noncomputable def C_78 : Oracle := pureE 78 (pure1 dBool (fun xis => .int .u64 (v_capops_truth xis))) (C_76)
theorem C_78_snd : Snd Try.prog C_78 := pureE_snd (pure1_ok (F := F78) (C_76_snd) Try.func78 (by kernel_rfl) run_78 (fun _ => rfl)) (C_76_snd)

/- ravelin/capops.asked$5 -/
def F77 : Cfg := { F := 400, roots := [0, 1], fl := ⟨true, false⟩ }
theorem run_77 : ∀ (c : Cp), pureRun Try.prog C_78 F77 Try.f77 [c.av] = some (.int .u64 (v_capops_asked_5 c)) := fun c =>
 (show pureRun Try.prog C_78 F77 Try.f77 [c.av] = (some (AV.int (IntKind.u64) (v_capops_truth c.tag))) by kernel_rfl).trans (rfl)
noncomputable def C_77 : Oracle := pureE 77 (pure1 dCp (fun c => .int .u64 (v_capops_asked_5 c))) (C_78)
theorem C_77_snd : Snd Try.prog C_77 := pureE_snd (pure1_ok (F := F77) (C_78_snd) Try.func77 (by kernel_rfl) run_77 (fun _ => rfl)) (C_78_snd)

/- ravelin/capops.asked$6 -/
def F79 : Cfg := { F := 400, roots := [0, 1], fl := ⟨true, false⟩ }
theorem run_79 : ∀ (c : Cp), pureRun Try.prog C_77 F79 Try.f79 [c.av] = some (.int .u64 (v_capops_asked_6 c)) := fun c =>
 (show pureRun Try.prog C_77 F79 Try.f79 [c.av] = (some (AV.int (IntKind.u64) (v_capops_truth (v_capops_Sealed c)))) by kernel_rfl).trans (rfl)
noncomputable def C_79 : Oracle := pureE 79 (pure1 dCp (fun c => .int .u64 (v_capops_asked_6 c))) (C_77)
theorem C_79_snd : Snd Try.prog C_79 := pureE_snd (pure1_ok (F := F79) (C_77_snd) Try.func79 (by kernel_rfl) run_79 (fun _ => rfl)) (C_77_snd)

/- ravelin/capops.asked$7 -/
def F80 : Cfg := { F := 400, roots := [0, 1], fl := ⟨true, false⟩ }
theorem run_80 : ∀ (c : Cp), pureRun Try.prog C_79 F80 Try.f80 [c.av] = cond (g_capops_asked_7 c) (some (.int .u64 (v_capops_asked_7 c))) none := fun c =>
 (show pureRun Try.prog C_79 F80 Try.f80 [c.av] = (cond (g_bounds_Of c)
 (some (AV.int (IntKind.u64) (c.ad - (v_bounds_Of c).base)))
 none) by kernel_rfl).trans ((merR _ (fun p => .int .u64 p) rfl))
noncomputable def C_80 : Oracle := pureGE 80 (pure1 dCp (fun c => .tup [.bool (g_capops_asked_7 c), .int .u64 (v_capops_asked_7 c)])) (C_79)
theorem C_80_snd : Snd Try.prog C_80 := pureGE_snd (pure1_gok (F := F80) (C_79_snd) Try.func80 (by kernel_rfl) run_80 (fun _ => rfl)) (C_79_snd)

/- ravelin/capops.asked$8 -/
def F81 : Cfg := { F := 400, roots := [0, 1], fl := ⟨true, false⟩ }
theorem run_81 : ∀ (c : Cp), pureRun Try.prog C_80 F81 Try.f81 [c.av] = some (.int .u64 (v_capops_asked_8 c)) := fun c =>
 (show pureRun Try.prog C_80 F81 Try.f81 [c.av] = (some (AV.int (IntKind.u64) (BitVec.signExtend 64 c.mo))) by kernel_rfl).trans (rfl)
noncomputable def C_81 : Oracle := pureE 81 (pure1 dCp (fun c => .int .u64 (v_capops_asked_8 c))) (C_80)
theorem C_81_snd : Snd Try.prog C_81 := pureE_snd (pure1_ok (F := F81) (C_80_snd) Try.func81 (by kernel_rfl) run_81 (fun _ => rfl)) (C_80_snd)

/- ravelin/bounds.Mask -/
def F85 : Cfg := { F := 400, roots := [0, 1, 2, 3], fl := ⟨true, false⟩ }
theorem run_85 : ∀ (n : BitVec 64), pureRun Try.prog C_81 F85 Try.f85 [.int .u64 n] = cond (g_bounds_Mask n) (some (.int .u64 (v_bounds_Mask n))) none := fun n =>
 (show pureRun Try.prog C_81 F85 Try.f85 [.int .u64 n] = (cond (g_bounds_Lay { tag := false, per := BitVec.ofInt IntKind.i64.bits 0, ty := BitVec.ofInt IntKind.i64.bits 0, mo := BitVec.ofInt IntKind.i64.bits 0, e := BitVec.ofInt IntKind.i64.bits 0, b := BitVec.ofInt IntKind.i64.bits 0, t := BitVec.ofInt IntKind.i64.bits 0, big := false, ad := BitVec.ofInt IntKind.u64.bits 0 } n)
 (cond (!(v_bounds_Lay { tag := false, per := BitVec.ofInt IntKind.i64.bits 0, ty := BitVec.ofInt IntKind.i64.bits 0, mo := BitVec.ofInt IntKind.i64.bits 0, e := BitVec.ofInt IntKind.i64.bits 0, b := BitVec.ofInt IntKind.i64.bits 0, t := BitVec.ofInt IntKind.i64.bits 0, big := false, ad := BitVec.ofInt IntKind.u64.bits 0 } n).fst.big)
 (some (AV.int (IntKind.u64) (18446744073709551615#64)))
 (cond (nonneg IntKind.i64 ((v_bounds_Lay { tag := false, per := BitVec.ofInt IntKind.i64.bits 0, ty := BitVec.ofInt IntKind.i64.bits 0, mo := BitVec.ofInt IntKind.i64.bits 0, e := BitVec.ofInt IntKind.i64.bits 0, b := BitVec.ofInt IntKind.i64.bits 0, t := BitVec.ofInt IntKind.i64.bits 0, big := false, ad := BitVec.ofInt IntKind.u64.bits 0 } n).fst.e + 3#64))
 (some (AV.int (IntKind.u64) (18446744073709551615#64 <<< min ((v_bounds_Lay { tag := false, per := BitVec.ofInt IntKind.i64.bits 0, ty := BitVec.ofInt IntKind.i64.bits 0, mo := BitVec.ofInt IntKind.i64.bits 0, e := BitVec.ofInt IntKind.i64.bits 0, b := BitVec.ofInt IntKind.i64.bits 0, t := BitVec.ofInt IntKind.i64.bits 0, big := false, ad := BitVec.ofInt IntKind.u64.bits 0 } n).fst.e + 3#64).toNat 64)))
   none))
 none) by kernel_rfl).trans ((merR _ (fun p => .int .u64 p) (merG _ (fun p => .int .u64 p) rfl (merR _ (fun p => .int .u64 p) rfl))))
noncomputable def C_85 : Oracle := pureGE 85 (pure1 dU64 (fun n => .tup [.bool (g_bounds_Mask n), .int .u64 (v_bounds_Mask n)])) (C_81)
theorem C_85_snd : Snd Try.prog C_85 := pureGE_snd (pure1_gok (F := F85) (C_81_snd) Try.func85 (by kernel_rfl) run_85 (fun _ => rfl)) (C_81_snd)

/- ravelin/bounds.Round -/
def F83 : Cfg := { F := 400, roots := [0, 1, 2], fl := ⟨true, false⟩ }
theorem run_83 : ∀ (n : BitVec 64), pureRun Try.prog C_85 F83 Try.f83 [.int .u64 n] = cond (g_bounds_Round n) (some (.int .u64 (v_bounds_Round n))) none := fun n =>
 (show pureRun Try.prog C_85 F83 Try.f83 [.int .u64 n] = (cond (g_bounds_Mask n)
 (some (AV.int (IntKind.u64) (n + ~~~v_bounds_Mask n &&& v_bounds_Mask n)))
 none) by kernel_rfl).trans ((merR _ (fun p => .int .u64 p) rfl))
noncomputable def C_83 : Oracle := pureGE 83 (pure1 dU64 (fun n => .tup [.bool (g_bounds_Round n), .int .u64 (v_bounds_Round n)])) (C_85)
theorem C_83_snd : Snd Try.prog C_83 := pureGE_snd (pure1_gok (F := F83) (C_85_snd) Try.func83 (by kernel_rfl) run_83 (fun _ => rfl)) (C_85_snd)

/- ravelin/capops.asked$9 -/
def F82 : Cfg := { F := 400, roots := [0, 1], fl := ⟨true, false⟩ }
theorem run_82 : ∀ (c : Cp), pureRun Try.prog C_83 F82 Try.f82 [c.av] = cond (g_capops_asked_9 c) (some (.int .u64 (v_capops_asked_9 c))) none := fun c =>
 (show pureRun Try.prog C_83 F82 Try.f82 [c.av] = (cond (g_bounds_Round c.ad)
 (some (AV.int (IntKind.u64) (v_bounds_Round c.ad)))
 none) by kernel_rfl).trans ((merR _ (fun p => .int .u64 p) rfl))
noncomputable def C_82 : Oracle := pureGE 82 (pure1 dCp (fun c => .tup [.bool (g_capops_asked_9 c), .int .u64 (v_capops_asked_9 c)])) (C_83)
theorem C_82_snd : Snd Try.prog C_82 := pureGE_snd (pure1_gok (F := F82) (C_83_snd) Try.func82 (by kernel_rfl) run_82 (fun _ => rfl)) (C_83_snd)

/- ravelin/capops.asked$10 -/
def F84 : Cfg := { F := 400, roots := [0, 1], fl := ⟨true, false⟩ }
theorem run_84 : ∀ (c : Cp), pureRun Try.prog C_82 F84 Try.f84 [c.av] = cond (g_capops_asked_10 c) (some (.int .u64 (v_capops_asked_10 c))) none := fun c =>
 (show pureRun Try.prog C_82 F84 Try.f84 [c.av] = (cond (g_bounds_Mask c.ad)
 (some (AV.int (IntKind.u64) (v_bounds_Mask c.ad)))
 none) by kernel_rfl).trans ((merR _ (fun p => .int .u64 p) rfl))
noncomputable def C_84 : Oracle := pureGE 84 (pure1 dCp (fun c => .tup [.bool (g_capops_asked_10 c), .int .u64 (v_capops_asked_10 c)])) (C_82)
theorem C_84_snd : Snd Try.prog C_84 := pureGE_snd (pure1_gok (F := F84) (C_82_snd) Try.func84 (by kernel_rfl) run_84 (fun _ => rfl)) (C_82_snd)

/- ravelin/capops.asked$11 -/
def F86 : Cfg := { F := 400, roots := [0, 1], fl := ⟨true, false⟩ }
theorem run_86 : ∀ (c : Cp), pureRun Try.prog C_84 F86 Try.f86 [c.av] = some (.int .u64 (v_capops_asked_11 c)) := fun c =>
 (show pureRun Try.prog C_84 F86 Try.f86 [c.av] = (some (AV.int (IntKind.u64) (c.ad))) by kernel_rfl).trans (rfl)
noncomputable def C_86 : Oracle := pureE 86 (pure1 dCp (fun c => .int .u64 (v_capops_asked_11 c))) (C_84)
theorem C_86_snd : Snd Try.prog C_86 := pureE_snd (pure1_ok (F := F86) (C_84_snd) Try.func86 (by kernel_rfl) run_86 (fun _ => rfl)) (C_84_snd)

/- ravelin/capops.asked$12 -/
def F87 : Cfg := { F := 400, roots := [0, 1, 2], fl := ⟨true, false⟩ }
theorem run_87 : ∀ (c : Cp), pureRun Try.prog C_86 F87 Try.f87 [c.av] = cond (g_capops_asked_12 c) (some (.int .u64 (v_capops_asked_12 c))) none := fun c =>
 (show pureRun Try.prog C_86 F87 Try.f87 [c.av] = (cond (g_bounds_Of c)
 (cond (!(v_bounds_Of c).over)
 (some (AV.int (IntKind.u64) ((v_bounds_Of c).top)))
 (some (AV.int (IntKind.u64) (18446744073709551615#64))))
 none) by kernel_rfl).trans ((merR _ (fun p => .int .u64 p) (merG _ (fun p => .int .u64 p) rfl rfl)))
noncomputable def C_87 : Oracle := pureGE 87 (pure1 dCp (fun c => .tup [.bool (g_capops_asked_12 c), .int .u64 (v_capops_asked_12 c)])) (C_86)
theorem C_87_snd : Snd Try.prog C_87 := pureGE_snd (pure1_gok (F := F87) (C_86_snd) Try.func87 (by kernel_rfl) run_87 (fun _ => rfl)) (C_86_snd)

def ents : List (Int × FuncId) := [(0, 73), (1, 74), (2, 75), (3, 76), (4, 77), (5, 79), (6, 80), (7, 81), (8, 82), (9, 84), (15, 86), (24, 87)]

/- ravelin/capops.Get -/
noncomputable def F12 : Cfg := { F := 400, roots := [0, 1, 2, 3, 4], fl := ⟨true, false⟩, laws := [(1000001, lookH ents 0 7 8 9 6)] }

noncomputable def gops : Array Oper := match subs 1000001 (bodyC Try.f12) with
  | [.region _ o _] => o
  | _ => #[]
noncomputable def aops (i : Nat) : Array Oper := match subs i (bodyC Try.f49) with
  | [.region _ o _] => o
  | _ => #[]
theorem asked_ok (w : World) : Calls Try.prog 49 #[] w (fun e w' => ∃ r es clock, e = .returned (.map (some r)) ∧ Fr w w' ∧ w'.heap[r]? = some (.map es clock) ∧ es.toList.map (fun e => (e.key, e.val)) = ents.map entOf) :=
  asked_calls (i0 := 0) (i1 := 1) (mty := 53) (kt := 3) (et := 52) (ops0 := aops 1000000) (ops1 := aops 1000001) (entries := ents) (by kernel_rfl) (by kernel_rfl) Try.func49 (by kernel_rfl) (by kernel_rfl) (by decide +kernel) (by kernel_rfl) (by kernel_rfl) (by decide) w
theorem fok_12 : FOK Try.prog Try.f12 F12 :=
  fok_one (b := .region 1 gops false) rfl (by kernel_rfl) (lookH_snd (mty := 53) (kt := 3) (et := 52) (by kernel_rfl) (by kernel_rfl) (fun w => by simp [zeroValue]; rfl) Try.func49 (by kernel_rfl) (by kernel_rfl) asked_ok (by kernel_rfl) (hasB (by decide +kernel)) (by decide +kernel) (by decide +kernel) (by decide +kernel) (by decide +kernel) (by decide) (by decide) (by decide))
theorem run_12 : ∀ (fn : BitVec 64) (c : Cp), pureRun Try.prog C_87 F12 Try.f12 [.int .i64 fn, c.av] = cond (g_capops_Get fn c) (some ((fun (p : BitVec 64 × Bool) => .tup [.int .u64 (p.1), .bool (p.2)]) (v_capops_Get fn c))) none := fun fn c =>
 (show pureRun Try.prog C_87 F12 Try.f12 [.int .i64 fn, c.av] = (cond (fn == 0#64)
 (some (AV.tup [(AV.int (IntKind.u64) (v_capops_asked_1 c)), (AV.bool (true))]))
 (cond (fn == 1#64)
 (some (AV.tup [(AV.int (IntKind.u64) (v_capops_asked_2 c)), (AV.bool (true))]))
 (cond (fn == 2#64)
 (cond (g_capops_asked_3 c)
 (some (AV.tup [(AV.int (IntKind.u64) (v_capops_asked_3 c)), (AV.bool (true))]))
    none)
 (cond (fn == 3#64)
 (cond (g_capops_asked_4 c)
 (some (AV.tup [(AV.int (IntKind.u64) (v_capops_asked_4 c)), (AV.bool (true))]))
     none)
 (cond (fn == 4#64)
 (some (AV.tup [(AV.int (IntKind.u64) (v_capops_asked_5 c)), (AV.bool (true))]))
 (cond (fn == 5#64)
 (some (AV.tup [(AV.int (IntKind.u64) (v_capops_asked_6 c)), (AV.bool (true))]))
 (cond (fn == 6#64)
 (cond (g_capops_asked_7 c)
 (some (AV.tup [(AV.int (IntKind.u64) (v_capops_asked_7 c)), (AV.bool (true))]))
        none)
 (cond (fn == 7#64)
 (some (AV.tup [(AV.int (IntKind.u64) (v_capops_asked_8 c)), (AV.bool (true))]))
 (cond (fn == 8#64)
 (cond (g_capops_asked_9 c)
 (some (AV.tup [(AV.int (IntKind.u64) (v_capops_asked_9 c)), (AV.bool (true))]))
          none)
 (cond (fn == 9#64)
 (cond (g_capops_asked_10 c)
 (some (AV.tup [(AV.int (IntKind.u64) (v_capops_asked_10 c)), (AV.bool (true))]))
           none)
 (cond (fn == 15#64)
 (some (AV.tup [(AV.int (IntKind.u64) (v_capops_asked_11 c)), (AV.bool (true))]))
 (cond (fn == 24#64)
 (cond (g_capops_asked_12 c)
 (some (AV.tup [(AV.int (IntKind.u64) (v_capops_asked_12 c)), (AV.bool (true))]))
             none)
 (some (AV.tup [(AV.int (IntKind.u64) (0#64)), (AV.bool (false))])))))))))))))) by kernel_rfl).trans ((merG _ (fun (p : BitVec 64 × Bool) => .tup [.int .u64 (p.1), .bool (p.2)]) rfl (merG _ (fun (p : BitVec 64 × Bool) => .tup [.int .u64 (p.1), .bool (p.2)]) rfl (merG _ (fun (p : BitVec 64 × Bool) => .tup [.int .u64 (p.1), .bool (p.2)]) (merR _ (fun (p : BitVec 64 × Bool) => .tup [.int .u64 (p.1), .bool (p.2)]) rfl) (merG _ (fun (p : BitVec 64 × Bool) => .tup [.int .u64 (p.1), .bool (p.2)]) (merR _ (fun (p : BitVec 64 × Bool) => .tup [.int .u64 (p.1), .bool (p.2)]) rfl) (merG _ (fun (p : BitVec 64 × Bool) => .tup [.int .u64 (p.1), .bool (p.2)]) rfl (merG _ (fun (p : BitVec 64 × Bool) => .tup [.int .u64 (p.1), .bool (p.2)]) rfl (merG _ (fun (p : BitVec 64 × Bool) => .tup [.int .u64 (p.1), .bool (p.2)]) (merR _ (fun (p : BitVec 64 × Bool) => .tup [.int .u64 (p.1), .bool (p.2)]) rfl) (merG _ (fun (p : BitVec 64 × Bool) => .tup [.int .u64 (p.1), .bool (p.2)]) rfl (merG _ (fun (p : BitVec 64 × Bool) => .tup [.int .u64 (p.1), .bool (p.2)]) (merR _ (fun (p : BitVec 64 × Bool) => .tup [.int .u64 (p.1), .bool (p.2)]) rfl) (merG _ (fun (p : BitVec 64 × Bool) => .tup [.int .u64 (p.1), .bool (p.2)]) (merR _ (fun (p : BitVec 64 × Bool) => .tup [.int .u64 (p.1), .bool (p.2)]) rfl) (merG _ (fun (p : BitVec 64 × Bool) => .tup [.int .u64 (p.1), .bool (p.2)]) rfl (merG _ (fun (p : BitVec 64 × Bool) => .tup [.int .u64 (p.1), .bool (p.2)]) (merR _ (fun (p : BitVec 64 × Bool) => .tup [.int .u64 (p.1), .bool (p.2)]) rfl) rfl)))))))))))))
noncomputable def C_12 : Oracle := pureGE 12 (pure2 dI64 dCp (fun fn c => .tup [.bool (g_capops_Get fn c), (fun (p : BitVec 64 × Bool) => .tup [.int .u64 (p.1), .bool (p.2)]) (v_capops_Get fn c)])) (C_87)
theorem C_12_snd : Snd Try.prog C_12 := pureGE_snd (pure2_gok (F := F12) (C_87_snd) Try.func12 (by kernel_rfl) run_12 (fun _ _ => rfl) (hF := fok_12)) (C_87_snd)

/- ravelin/bounds.In -/
def F16 : Cfg := { F := 400, roots := [0, 1, 2, 3], fl := ⟨true, false⟩ }
theorem run_16 : ∀ (r : Rg) (xat : BitVec 64) (n : BitVec 64), pureRun Try.prog C_12 F16 Try.f16 [r.av, .int .u64 xat, .int .i64 n] = some (.bool (v_bounds_In r xat n)) := fun r xat n =>
 (show pureRun Try.prog C_12 F16 Try.f16 [r.av, .int .u64 xat, .int .i64 n] = (cond ((0#64).sle n)
 (cond (r.base.ule xat)
 (some (AV.bool (!v_bounds_number_above (v_bounds_number_plus { hi := 0#64, lo := xat } { hi := 0#64, lo := BitVec.signExtend 64 n }) (v_bounds_top r))))
 (some (AV.bool (false))))
 (some (AV.bool (false)))) by kernel_rfl).trans (by
    delta v_bounds_In
    refine (mer _ (fun p => .bool p) (mer _ (fun p => .bool p) ?_ ?_) ?_)
    all_goals first | with_reducible rfl | rfl)
noncomputable def C_16 : Oracle := pureE 16 (pure3 dRg dU64 dI64 (fun r xat n => .bool (v_bounds_In r xat n))) (C_12)
theorem C_16_snd : Snd Try.prog C_16 := pureE_snd (pure3_ok (F := F16) (C_12_snd) Try.func16 (by kernel_rfl) run_16 (fun _ _ _ => rfl)) (C_12_snd)

/- ravelin/capops.seals -/
def F55 : Cfg := { F := 400, roots := [0, 1, 2], fl := ⟨true, false⟩ }
theorem run_55 : ∀ (xby : Cp) (perm : BitVec 64), pureRun Try.prog C_16 F55 Try.f55 [xby.av, .int .i64 perm] = cond (g_capops_seals xby perm) (some (.bool (v_capops_seals xby perm))) none := fun xby perm =>
 (show pureRun Try.prog C_16 F55 Try.f55 [xby.av, .int .i64 perm] = (cond (xby.tag)
 (cond (!v_capops_Sealed xby)
 (cond (!xby.per &&& perm == 0#64)
 (cond (g_bounds_Of xby)
 (some (AV.bool (v_bounds_In (v_bounds_Of xby) xby.ad 1#64)))
    none)
 (some (AV.bool (false))))
 (some (AV.bool (false))))
 (some (AV.bool (false)))) by kernel_rfl).trans ((merG _ (fun p => .bool p) (merG _ (fun p => .bool p) (merG _ (fun p => .bool p) (merR _ (fun p => .bool p) rfl) rfl) rfl) rfl))
noncomputable def C_55 : Oracle := pureGE 55 (pure2 dCp dI64 (fun xby perm => .tup [.bool (g_capops_seals xby perm), .bool (v_capops_seals xby perm)])) (C_16)
theorem C_55_snd : Snd Try.prog C_55 := pureGE_snd (pure2_gok (F := F55) (C_16_snd) Try.func55 (by kernel_rfl) run_55 (fun _ _ => rfl)) (C_16_snd)

/- ravelin/capops.Seal -/
def F15 : Cfg := { F := 400, roots := [0, 1, 2], fl := ⟨true, false⟩ }
theorem run_15 : ∀ (c : Cp) (xby : Cp), pureRun Try.prog C_55 F15 Try.f15 [c.av, xby.av] = cond (g_capops_Seal c xby) (some ((v_capops_Seal c xby).av)) none := fun c xby =>
 (show pureRun Try.prog C_55 F15 Try.f15 [c.av, xby.av] = (cond (v_capops_Sealed c)
 (some (AV.agg [(AV.bool ((v_capops_keep c false).tag)), (AV.int (IntKind.i64) ((v_capops_keep c false).per)), (AV.int (IntKind.i64) ((v_capops_keep c false).ty)), (AV.int (IntKind.i64) ((v_capops_keep c false).mo)), (AV.int (IntKind.i64) ((v_capops_keep c false).e)), (AV.int (IntKind.i64) ((v_capops_keep c false).b)), (AV.int (IntKind.i64) ((v_capops_keep c false).t)), (AV.bool ((v_capops_keep c false).big)), (AV.int (IntKind.u64) ((v_capops_keep c false).ad))]))
 (cond (g_capops_seals xby 128#64)
 (cond (!v_capops_seals xby 128#64)
 (some (AV.agg [(AV.bool ((v_capops_keep c false).tag)), (AV.int (IntKind.i64) ((v_capops_keep c false).per)), (AV.int (IntKind.i64) ((v_capops_keep c false).ty)), (AV.int (IntKind.i64) ((v_capops_keep c false).mo)), (AV.int (IntKind.i64) ((v_capops_keep c false).e)), (AV.int (IntKind.i64) ((v_capops_keep c false).b)), (AV.int (IntKind.i64) ((v_capops_keep c false).t)), (AV.bool ((v_capops_keep c false).big)), (AV.int (IntKind.u64) ((v_capops_keep c false).ad))]))
 (cond ((262135#64).ult xby.ad)
 (some (AV.agg [(AV.bool ((v_capops_keep c false).tag)), (AV.int (IntKind.i64) ((v_capops_keep c false).per)), (AV.int (IntKind.i64) ((v_capops_keep c false).ty)), (AV.int (IntKind.i64) ((v_capops_keep c false).mo)), (AV.int (IntKind.i64) ((v_capops_keep c false).e)), (AV.int (IntKind.i64) ((v_capops_keep c false).b)), (AV.int (IntKind.i64) ((v_capops_keep c false).t)), (AV.bool ((v_capops_keep c false).big)), (AV.int (IntKind.u64) ((v_capops_keep c false).ad))]))
 (cond (!c.tag)
 (some (AV.agg [(AV.bool ((v_capops_keep c false).tag)), (AV.int (IntKind.i64) ((v_capops_keep c false).per)), (AV.int (IntKind.i64) ((v_capops_keep c false).ty)), (AV.int (IntKind.i64) ((v_capops_keep c false).mo)), (AV.int (IntKind.i64) ((v_capops_keep c false).e)), (AV.int (IntKind.i64) ((v_capops_keep c false).b)), (AV.int (IntKind.i64) ((v_capops_keep c false).t)), (AV.bool ((v_capops_keep c false).big)), (AV.int (IntKind.u64) ((v_capops_keep c false).ad))]))
 (some (AV.agg [(AV.bool (c.tag)), (AV.int (IntKind.i64) (c.per)), (AV.int (IntKind.i64) (BitVec.setWidth 64 xby.ad)), (AV.int (IntKind.i64) (c.mo)), (AV.int (IntKind.i64) (c.e)), (AV.int (IntKind.i64) (c.b)), (AV.int (IntKind.i64) (c.t)), (AV.bool (c.big)), (AV.int (IntKind.u64) (c.ad))])))))
  none)) by kernel_rfl).trans ((merG _ (Cp.av) rfl (merR _ (Cp.av) (merG _ (Cp.av) rfl (merG _ (Cp.av) rfl (merG _ (Cp.av) rfl rfl))))))
noncomputable def C_15 : Oracle := pureGE 15 (pure2 dCp dCp (fun c xby => .tup [.bool (g_capops_Seal c xby), (v_capops_Seal c xby).av])) (C_55)
theorem C_15_snd : Snd Try.prog C_15 := pureGE_snd (pure2_gok (F := F15) (C_55_snd) Try.func15 (by kernel_rfl) run_15 (fun _ _ => rfl)) (C_55_snd)

/- ravelin/capops.Unseal -/
def F19 : Cfg := { F := 400, roots := [0, 1, 2], fl := ⟨true, false⟩ }
theorem run_19 : ∀ (c : Cp) (xby : Cp), pureRun Try.prog C_15 F19 Try.f19 [c.av, xby.av] = cond (g_capops_Unseal c xby) (some ((v_capops_Unseal c xby).av)) none := fun c xby =>
 (show pureRun Try.prog C_15 F19 Try.f19 [c.av, xby.av] = (cond ((262135#64).slt c.ty)
 (some (AV.agg [(AV.bool ((v_capops_keep c false).tag)), (AV.int (IntKind.i64) ((v_capops_keep c false).per)), (AV.int (IntKind.i64) ((v_capops_keep c false).ty)), (AV.int (IntKind.i64) ((v_capops_keep c false).mo)), (AV.int (IntKind.i64) ((v_capops_keep c false).e)), (AV.int (IntKind.i64) ((v_capops_keep c false).b)), (AV.int (IntKind.i64) ((v_capops_keep c false).t)), (AV.bool ((v_capops_keep c false).big)), (AV.int (IntKind.u64) ((v_capops_keep c false).ad))]))
 (cond (g_capops_seals xby 256#64)
 (cond (!v_capops_seals xby 256#64)
 (some (AV.agg [(AV.bool ((v_capops_keep c false).tag)), (AV.int (IntKind.i64) ((v_capops_keep c false).per)), (AV.int (IntKind.i64) ((v_capops_keep c false).ty)), (AV.int (IntKind.i64) ((v_capops_keep c false).mo)), (AV.int (IntKind.i64) ((v_capops_keep c false).e)), (AV.int (IntKind.i64) ((v_capops_keep c false).b)), (AV.int (IntKind.i64) ((v_capops_keep c false).t)), (AV.bool ((v_capops_keep c false).big)), (AV.int (IntKind.u64) ((v_capops_keep c false).ad))]))
 (cond (!xby.ad == BitVec.signExtend 64 c.ty)
 (some (AV.agg [(AV.bool ((v_capops_keep c false).tag)), (AV.int (IntKind.i64) ((v_capops_keep c false).per)), (AV.int (IntKind.i64) ((v_capops_keep c false).ty)), (AV.int (IntKind.i64) ((v_capops_keep c false).mo)), (AV.int (IntKind.i64) ((v_capops_keep c false).e)), (AV.int (IntKind.i64) ((v_capops_keep c false).b)), (AV.int (IntKind.i64) ((v_capops_keep c false).t)), (AV.bool ((v_capops_keep c false).big)), (AV.int (IntKind.u64) ((v_capops_keep c false).ad))]))
 (cond (!c.tag)
 (some (AV.agg [(AV.bool ((v_capops_keep c false).tag)), (AV.int (IntKind.i64) ((v_capops_keep c false).per)), (AV.int (IntKind.i64) ((v_capops_keep c false).ty)), (AV.int (IntKind.i64) ((v_capops_keep c false).mo)), (AV.int (IntKind.i64) ((v_capops_keep c false).e)), (AV.int (IntKind.i64) ((v_capops_keep c false).b)), (AV.int (IntKind.i64) ((v_capops_keep c false).t)), (AV.bool ((v_capops_keep c false).big)), (AV.int (IntKind.u64) ((v_capops_keep c false).ad))]))
 (some (AV.agg [(AV.bool (c.tag)), (AV.int (IntKind.i64) (c.per &&& (xby.per ||| 18446744073709551614#64))), (AV.int (IntKind.i64) (262143#64)), (AV.int (IntKind.i64) (c.mo)), (AV.int (IntKind.i64) (c.e)), (AV.int (IntKind.i64) (c.b)), (AV.int (IntKind.i64) (c.t)), (AV.bool (c.big)), (AV.int (IntKind.u64) (c.ad))])))))
  none)) by kernel_rfl).trans ((merG _ (Cp.av) rfl (merR _ (Cp.av) (merG _ (Cp.av) rfl (merG _ (Cp.av) rfl (merG _ (Cp.av) rfl rfl))))))
noncomputable def C_19 : Oracle := pureGE 19 (pure2 dCp dCp (fun c xby => .tup [.bool (g_capops_Unseal c xby), (v_capops_Unseal c xby).av])) (C_15)
theorem C_19_snd : Snd Try.prog C_19 := pureGE_snd (pure2_gok (F := F19) (C_15_snd) Try.func19 (by kernel_rfl) run_19 (fun _ _ => rfl)) (C_15_snd)

/- ravelin/ravelinlaw05.known -/
def F14 : Cfg := { F := 400, roots := [0, 1, 2, 3, 4, 5], fl := ⟨true, false⟩ }
theorem run_14 : pureRun Try.prog C_19 F14 Try.f14 [] = some (.bool v_l05_known) := (show pureRun Try.prog C_19 F14 Try.f14 [] = (some (AV.bool (true))) by kernel_rfl).trans (rfl)
noncomputable def C_14 : Oracle := pureE 14 (pure0  (.bool v_l05_known)) (C_19)
theorem C_14_snd : Snd Try.prog C_14 := pureE_snd (pure0_ok (F := F14) (C_19_snd) Try.func14 (by kernel_rfl) run_14 rfl) (C_19_snd)

/- ravelin/ravelinlaw05.CapopsOne -/
def F6 : Cfg := { F := 400, roots := [0, 1, 2, 3, 4], fl := ⟨true, false⟩ }
theorem run_6 : ∀ (c : Cp) (n : BitVec 64) (k : BitVec 64) (exact : Bool), pureRun Try.prog C_14 F6 Try.f6 [c.av, .int .u64 n, .int .i64 k, .bool exact] = t_l05_CapopsOne c n k exact := fun c n k exact =>
  by kernel_rfl
theorem snd_6 : Snd Try.prog (C_14) := C_14_snd

/- ravelin/ravelinref03.Len -/
def F51 : Cfg := { F := 400, roots := [0, 1], fl := ⟨true, false⟩ }
theorem run_51 : ∀ (r : Rg), pureRun Try.prog C_14 F51 Try.f51 [r.av] = some (.int .u64 (v_r03_Len r)) := fun r =>
 (show pureRun Try.prog C_14 F51 Try.f51 [r.av] = (cond (v_r03_notAbove (v_r03_top r) { hi := 0#64, lo := r.base })
 (some (AV.int (IntKind.u64) (0#64)))
 (cond (r.over)
 (cond (r.base.ule r.top)
 (some (AV.int (IntKind.u64) (18446744073709551615#64)))
 (some (AV.int (IntKind.u64) (r.top - r.base))))
 (some (AV.int (IntKind.u64) (r.top - r.base))))) by kernel_rfl).trans (by
    delta v_r03_Len
    refine (mer _ (fun p => .int .u64 p) ?_ (mer _ (fun p => .int .u64 p) (mer _ (fun p => .int .u64 p) ?_ ?_) ?_))
    all_goals first | with_reducible rfl | rfl)
noncomputable def C_51 : Oracle := pureE 51 (pure1 dRg (fun r => .int .u64 (v_r03_Len r))) (C_14)
theorem C_51_snd : Snd Try.prog C_51 := pureE_snd (pure1_ok (F := F51) (C_14_snd) Try.func51 (by kernel_rfl) run_51 (fun _ => rfl)) (C_14_snd)

/- ravelin/ravelinref05.one -/
def F52 : Cfg := { F := 400, roots := [0, 1], fl := ⟨true, false⟩ }
theorem run_52 : ∀ (xis : Bool), pureRun Try.prog C_51 F52 Try.f52 [.bool xis] = some (.int .u64 (v_r05_one xis)) := fun xis =>
 (show pureRun Try.prog C_51 F52 Try.f52 [.bool xis] = (cond (xis)
 (some (AV.int (IntKind.u64) (1#64)))
 (some (AV.int (IntKind.u64) (0#64)))) by kernel_rfl).trans (by
    delta v_r05_one
    refine (mer _ (fun p => .int .u64 p) ?_ ?_)
    all_goals first | with_reducible rfl | rfl)
noncomputable def C_52 : Oracle := pureE 52 (pure1 dBool (fun xis => .int .u64 (v_r05_one xis))) (C_51)
theorem C_52_snd : Snd Try.prog C_52 := pureE_snd (pure1_ok (F := F52) (C_51_snd) Try.func52 (by kernel_rfl) run_52 (fun _ => rfl)) (C_51_snd)

/- ravelin/ravelinref03.Mask -/
def F54 : Cfg := { F := 400, roots := [0, 1, 2, 3, 4], fl := ⟨true, false⟩ }
theorem run_54 : ∀ (n : BitVec 64), pureRun Try.prog C_52 F54 Try.f54 [.int .u64 n] = some (.int .u64 (v_r03_Mask n)) := fun n =>
 (show pureRun Try.prog C_52 F54 Try.f54 [.int .u64 n] = (cond ((v_r03_Lay { tag := false, per := BitVec.ofInt IntKind.i64.bits 0, ty := BitVec.ofInt IntKind.i64.bits 0, mo := BitVec.ofInt IntKind.i64.bits 0, e := BitVec.ofInt IntKind.i64.bits 0, b := BitVec.ofInt IntKind.i64.bits 0, t := BitVec.ofInt IntKind.i64.bits 0, big := false, ad := BitVec.ofInt IntKind.u64.bits 0 } n).fst.big)
 (some (AV.int (IntKind.u64) (18446744073709551615#64 <<< min (BitVec.signExtend 64 ((v_r03_Lay { tag := false, per := BitVec.ofInt IntKind.i64.bits 0, ty := BitVec.ofInt IntKind.i64.bits 0, mo := BitVec.ofInt IntKind.i64.bits 0, e := BitVec.ofInt IntKind.i64.bits 0, b := BitVec.ofInt IntKind.i64.bits 0, t := BitVec.ofInt IntKind.i64.bits 0, big := false, ad := BitVec.ofInt IntKind.u64.bits 0 } n).fst.e + 3#64)).toNat 64)))
 (some (AV.int (IntKind.u64) (18446744073709551615#64)))) by kernel_rfl).trans (by
    delta v_r03_Mask
    refine (mer _ (fun p => .int .u64 p) ?_ ?_)
    all_goals first | with_reducible rfl | rfl)
noncomputable def C_54 : Oracle := pureE 54 (pure1 dU64 (fun n => .int .u64 (v_r03_Mask n))) (C_52)
theorem C_54_snd : Snd Try.prog C_54 := pureE_snd (pure1_ok (F := F54) (C_52_snd) Try.func54 (by kernel_rfl) run_54 (fun _ => rfl)) (C_52_snd)

/- ravelin/ravelinref03.Round -/
def F53 : Cfg := { F := 400, roots := [0, 1, 2], fl := ⟨true, false⟩ }
theorem run_53 : ∀ (n : BitVec 64), pureRun Try.prog C_54 F53 Try.f53 [.int .u64 n] = some (.int .u64 (v_r03_Round n)) := fun n =>
 (show pureRun Try.prog C_54 F53 Try.f53 [.int .u64 n] = (some (AV.int (IntKind.u64) (n + ~~~v_r03_Mask n &&& v_r03_Mask n))) by kernel_rfl).trans (rfl)
noncomputable def C_53 : Oracle := pureE 53 (pure1 dU64 (fun n => .int .u64 (v_r03_Round n))) (C_54)
theorem C_53_snd : Snd Try.prog C_53 := pureE_snd (pure1_ok (F := F53) (C_54_snd) Try.func53 (by kernel_rfl) run_53 (fun _ => rfl)) (C_54_snd)

/- ravelin/ravelinref05.Get -/
def F13 : Cfg := { F := 400, roots := [0, 1, 2, 3, 4], fl := ⟨true, false⟩ }
theorem run_13 : ∀ (fn : BitVec 64) (c : Cp), pureRun Try.prog C_53 F13 Try.f13 [.int .i64 fn, c.av] = some ((fun (p : BitVec 64 × Bool) => .tup [.int .u64 (p.1), .bool (p.2)]) (v_r05_Get fn c)) := fun fn c =>
 (show pureRun Try.prog C_53 F13 Try.f13 [.int .i64 fn, c.av] = (cond (fn == 0#64)
 (some (AV.tup [(AV.int (IntKind.u64) (BitVec.signExtend 64 c.per)), (AV.bool (true))]))
 (cond (fn == 1#64)
 (cond (c.ty == 262143#64)
 (some (AV.tup [(AV.int (IntKind.u64) (18446744073709551615#64)), (AV.bool (true))]))
 (cond (c.ty == 262142#64)
 (some (AV.tup [(AV.int (IntKind.u64) (18446744073709551614#64)), (AV.bool (true))]))
 (some (AV.tup [(AV.int (IntKind.u64) (BitVec.signExtend 64 c.ty)), (AV.bool (true))]))))
 (cond (fn == 2#64)
 (some (AV.tup [(AV.int (IntKind.u64) ((v_r03_Of c).base)), (AV.bool (true))]))
 (cond (fn == 3#64)
 (some (AV.tup [(AV.int (IntKind.u64) (v_r03_Len (v_r03_Of c))), (AV.bool (true))]))
 (cond (fn == 4#64)
 (some (AV.tup [(AV.int (IntKind.u64) (v_r05_one c.tag)), (AV.bool (true))]))
 (cond (fn == 5#64)
 (some (AV.tup [(AV.int (IntKind.u64) (v_r05_one (v_r05_Sealed c))), (AV.bool (true))]))
 (cond (fn == 6#64)
 (some (AV.tup [(AV.int (IntKind.u64) (c.ad - (v_r03_Of c).base)), (AV.bool (true))]))
 (cond (fn == 7#64)
 (some (AV.tup [(AV.int (IntKind.u64) (BitVec.signExtend 64 c.mo)), (AV.bool (true))]))
 (cond (fn == 8#64)
 (some (AV.tup [(AV.int (IntKind.u64) (v_r03_Round c.ad)), (AV.bool (true))]))
 (cond (fn == 9#64)
 (some (AV.tup [(AV.int (IntKind.u64) (v_r03_Mask c.ad)), (AV.bool (true))]))
 (cond (fn == 15#64)
 (some (AV.tup [(AV.int (IntKind.u64) (c.ad)), (AV.bool (true))]))
 (cond (fn == 24#64)
 (cond ((v_r03_Of c).over)
 (some (AV.tup [(AV.int (IntKind.u64) (18446744073709551615#64)), (AV.bool (true))]))
 (some (AV.tup [(AV.int (IntKind.u64) ((v_r03_Of c).top)), (AV.bool (true))])))
 (some (AV.tup [(AV.int (IntKind.u64) (0#64)), (AV.bool (false))])))))))))))))) by kernel_rfl).trans (by
    delta v_r05_Get
    refine (mer _ (fun (p : BitVec 64 × Bool) => .tup [.int .u64 (p.1), .bool (p.2)]) ?_ (mer _ (fun (p : BitVec 64 × Bool) => .tup [.int .u64 (p.1), .bool (p.2)]) (mer _ (fun (p : BitVec 64 × Bool) => .tup [.int .u64 (p.1), .bool (p.2)]) ?_ (mer _ (fun (p : BitVec 64 × Bool) => .tup [.int .u64 (p.1), .bool (p.2)]) ?_ ?_)) (mer _ (fun (p : BitVec 64 × Bool) => .tup [.int .u64 (p.1), .bool (p.2)]) ?_ (mer _ (fun (p : BitVec 64 × Bool) => .tup [.int .u64 (p.1), .bool (p.2)]) ?_ (mer _ (fun (p : BitVec 64 × Bool) => .tup [.int .u64 (p.1), .bool (p.2)]) ?_ (mer _ (fun (p : BitVec 64 × Bool) => .tup [.int .u64 (p.1), .bool (p.2)]) ?_ (mer _ (fun (p : BitVec 64 × Bool) => .tup [.int .u64 (p.1), .bool (p.2)]) ?_ (mer _ (fun (p : BitVec 64 × Bool) => .tup [.int .u64 (p.1), .bool (p.2)]) ?_ (mer _ (fun (p : BitVec 64 × Bool) => .tup [.int .u64 (p.1), .bool (p.2)]) ?_ (mer _ (fun (p : BitVec 64 × Bool) => .tup [.int .u64 (p.1), .bool (p.2)]) ?_ (mer _ (fun (p : BitVec 64 × Bool) => .tup [.int .u64 (p.1), .bool (p.2)]) ?_ (mer _ (fun (p : BitVec 64 × Bool) => .tup [.int .u64 (p.1), .bool (p.2)]) (mer _ (fun (p : BitVec 64 × Bool) => .tup [.int .u64 (p.1), .bool (p.2)]) ?_ ?_) ?_))))))))))))
    all_goals first | with_reducible rfl | rfl)
noncomputable def C_13 : Oracle := pureE 13 (pure2 dI64 dCp (fun fn c => (fun (p : BitVec 64 × Bool) => .tup [.int .u64 (p.1), .bool (p.2)]) (v_r05_Get fn c))) (C_53)
theorem C_13_snd : Snd Try.prog C_13 := pureE_snd (pure2_ok (F := F13) (C_53_snd) Try.func13 (by kernel_rfl) run_13 (fun _ _ => rfl)) (C_53_snd)

/- ravelin/ravelinlaw05.CapopsGets -/
def F3 : Cfg := { F := 400, roots := [0, 1, 2, 3, 4, 5, 6], fl := ⟨true, false⟩ }
theorem run_3 : ∀ (fn : BitVec 64) (c : Cp), pureRun Try.prog C_13 F3 Try.f3 [.int .i64 fn, c.av] = t_l05_CapopsGets fn c := fun fn c =>
  by kernel_rfl
theorem snd_3 : Snd Try.prog (C_13) := C_13_snd

end Go.Proofs.Ytampipogplbobaa

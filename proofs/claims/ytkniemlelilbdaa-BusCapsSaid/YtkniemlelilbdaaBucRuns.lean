import Derived.Test.YtkniemlelilbdaaSxLen2
import Derived.Test.YtkniemlelilbdaaSxAE
import Derived.Test.YtkniemlelilbdaaSxEC
import Derived.Test.YtkniemlelilbdaaSxX
import Derived.Test.YtkniemlelilbdaaSxAt6
import Derived.Test.YtkniemlelilbdaaVa03
import Derived.Test.YtkniemlelilbdaaVa05
import Derived.Test.YtkniemlelilbdaaVa11
import Derived.Test.YtkniemlelilbdaaVa04
import Derived.Test.YtkniemlelilbdaaVl11a
import Derived.Test.YtkniemlelilbdaaPlRam
import Derived.Test.YtkniemlelilbdaaVl11b
import Derived.Test.YtkniemlelilbdaaPlRam2
import Derived.Test.YtkniemlelilbdaaVl11c
import Derived.Test.YtkniemlelilbdaaPlRam3
import Derived.Test.YtkniemlelilbdaaVl11d
import Derived.Test.YtkniemlelilbdaaPlRamT
import Derived.Test.YtkniemlelilbdaaVl11e
import Derived.Test.YtkniemlelilbdaaPlRam4
import Derived.Test.YtkniemlelilbdaaVl11s
import Derived.Test.YtkniemlelilbdaaPlRamS
import Derived.Test.YtkniemlelilbdaaVl11t
import Derived.Test.YtkniemlelilbdaaPlRamU
import Derived.Test.YtkniemlelilbdaaPlRamR
import Derived.Test.YtkniemlelilbdaaVl15a
import Derived.Test.YtkniemlelilbdaaPlBusO
import Derived.Test.YtkniemlelilbdaaPlBusC0
import Derived.Test.YtkniemlelilbdaaVa15
import Derived.Test.YtkniemlelilbdaaBuwRuns
import Derived.Test.YtkniemlelilbdaaVm15c
import Derived.KernelRfl
import Derived.Test.YtkniemlelilbdaaProg
set_option linter.unusedSimpArgs false
set_option linter.unusedVariables false
set_option linter.unnecessarySimpa false
/- What the functions of the seat answer. -/
namespace Go.Proofs.Ytkniemlelilbdaa
open Go Go.Sx Go.Proofs
set_option maxRecDepth 100000
set_option maxHeartbeats 4000000

/- ravelin/ravelinkit.Pick -/
def F33 : Cfg := { F := 400, roots := [0, 1, 2], fl := ⟨true, false⟩ }
theorem run_33 : ∀ (k : BitVec 64) (n : BitVec 64), pureRun Try.prog nothing F33 Try.f33 [.int .i64 k, .int .i64 n] = some (.int .i64 (v_kit_Pick k n)) := fun k n =>
 (show pureRun Try.prog nothing F33 Try.f33 [.int .i64 k, .int .i64 n] = t_kit_Pick k n by kernel_rfl).trans (t_kit_Pick_eq k n)
noncomputable def C_33 : Oracle := pureE 33 (pure2 dI64 dI64 (fun k n => .int .i64 (v_kit_Pick k n))) (nothing)
theorem C_33_snd : Snd Try.prog C_33 := pureE_snd (pure2_ok (F := F33) (nothing_snd) Try.func33 (by kernel_rfl) run_33 (fun _ _ => rfl)) (nothing_snd)

/- ravelin/ravelinlaw03.May -/
def F32 : Cfg := { F := 400, roots := [0, 1], fl := ⟨true, false⟩ }
theorem run_32 : ∀ (c : Cp), pureRun Try.prog C_33 F32 Try.f32 [c.av] = some ((v_l03_May c).av) := fun c =>
 (show pureRun Try.prog C_33 F32 Try.f32 [c.av] = (cond (!c.big)
 (some (AV.agg [(AV.bool (c.tag)), (AV.int (IntKind.i64) (c.per)), (AV.int (IntKind.i64) (c.ty)), (AV.int (IntKind.i64) (c.mo)), (AV.int (IntKind.i64) (0#64)), (AV.int (IntKind.i64) (v_kit_Pick c.b 16384#64)), (AV.int (IntKind.i64) (v_kit_Pick c.t 4096#64)), (AV.bool (c.big)), (AV.int (IntKind.u64) (c.ad))]))
 (some (AV.agg [(AV.bool (c.tag)), (AV.int (IntKind.i64) (c.per)), (AV.int (IntKind.i64) (c.ty)), (AV.int (IntKind.i64) (c.mo)), (AV.int (IntKind.i64) (v_kit_Pick c.e 53#64)), (AV.int (IntKind.i64) (v_kit_Pick c.b 16384#64)), (AV.int (IntKind.i64) (v_kit_Pick c.t 4096#64)), (AV.bool (c.big)), (AV.int (IntKind.u64) (c.ad))]))) by kernel_rfl).trans (by
    delta v_l03_May
    refine (mer _ (Cp.av) ?_ ?_)
    all_goals (try delta Cp.av)
    all_goals (try delta Rg.av)
    all_goals (try delta W2.av)
    all_goals (try delta Tr.av)
    all_goals (try delta Qu.av)
    all_goals first | with_reducible rfl | rfl)
noncomputable def C_32 : Oracle := pureE 32 (pure1 dCp (fun c => (v_l03_May c).av)) (C_33)
theorem C_32_snd : Snd Try.prog C_32 := pureE_snd (pure1_ok (F := F32) (C_33_snd) Try.func32 (by kernel_rfl) run_32 (fun _ => rfl)) (C_33_snd)

/- ravelin/ravelinlaw05.Right -/
def F15 : Cfg := { F := 400, roots := [0, 1], fl := ⟨true, false⟩ }
theorem run_15 : ∀ (c : Cp), pureRun Try.prog C_32 F15 Try.f15 [c.av] = some ((v_l05_Right c).av) := fun c =>
 (show pureRun Try.prog C_32 F15 Try.f15 [c.av] = (cond ((v_l03_May c).big)
 (some (AV.agg [(AV.bool ((v_l03_May c).tag)), (AV.int (IntKind.i64) (v_kit_Pick (v_l03_May c).per 65536#64)), (AV.int (IntKind.i64) (v_kit_Pick (v_l03_May c).ty 262144#64)), (AV.int (IntKind.i64) (v_kit_Pick (v_l03_May c).mo 2#64)), (AV.int (IntKind.i64) ((v_l03_May c).e)), (AV.int (IntKind.i64) ((v_l03_May c).b &&& 18446744073709551608#64)), (AV.int (IntKind.i64) ((v_l03_May c).t &&& 18446744073709551608#64)), (AV.bool ((v_l03_May c).big)), (AV.int (IntKind.u64) ((v_l03_May c).ad))]))
 (some (AV.agg [(AV.bool ((v_l03_May c).tag)), (AV.int (IntKind.i64) (v_kit_Pick (v_l03_May c).per 65536#64)), (AV.int (IntKind.i64) (v_kit_Pick (v_l03_May c).ty 262144#64)), (AV.int (IntKind.i64) (v_kit_Pick (v_l03_May c).mo 2#64)), (AV.int (IntKind.i64) ((v_l03_May c).e)), (AV.int (IntKind.i64) ((v_l03_May c).b)), (AV.int (IntKind.i64) ((v_l03_May c).t)), (AV.bool ((v_l03_May c).big)), (AV.int (IntKind.u64) ((v_l03_May c).ad))]))) by kernel_rfl).trans (by
    delta v_l05_Right
    refine (mer _ (Cp.av) ?_ ?_)
    all_goals (try delta Cp.av)
    all_goals (try delta Rg.av)
    all_goals (try delta W2.av)
    all_goals (try delta Tr.av)
    all_goals (try delta Qu.av)
    all_goals first | with_reducible rfl | rfl)
noncomputable def C_15 : Oracle := pureE 15 (pure1 dCp (fun c => (v_l05_Right c).av)) (C_32)
theorem C_15_snd : Snd Try.prog C_15 := pureE_snd (pure1_ok (F := F15) (C_32_snd) Try.func15 (by kernel_rfl) run_15 (fun _ => rfl)) (C_32_snd)

/- ravelin/ram.New -/
def F17 : Cfg := { F := 400, roots := [0, 1, 2], fl := ⟨false, false⟩ }
noncomputable def C_17 : Oracle := inlS Try.prog 17 Try.f17 F17 C_15 (C_15)
theorem C_17_snd : Snd Try.prog C_17 := inlS_snd Try.func17 (by kernel_rfl) C_15_snd C_15_snd

/- ravelin/clint.New -/
def F18 : Cfg := { F := 400, roots := [0], fl := ⟨false, false⟩ }
noncomputable def C_18 : Oracle := inlS Try.prog 18 Try.f18 F18 C_17 (C_17)
theorem C_18_snd : Snd Try.prog C_18 := inlS_snd Try.func18 (by kernel_rfl) C_17_snd C_17_snd

/- ravelin/plic.New -/
def F19 : Cfg := { F := 400, roots := [0], fl := ⟨false, false⟩ }
noncomputable def C_19 : Oracle := inlS Try.prog 19 Try.f19 F19 C_18 (C_18)
theorem C_19_snd : Snd Try.prog C_19 := inlS_snd Try.func19 (by kernel_rfl) C_18_snd C_18_snd

/- ravelin/serial.New -/
def F20 : Cfg := { F := 400, roots := [0], fl := ⟨false, false⟩ }
noncomputable def C_20 : Oracle := inlS Try.prog 20 Try.f20 F20 C_19 (C_19)
theorem C_20_snd : Snd Try.prog C_20 := inlS_snd Try.func20 (by kernel_rfl) C_19_snd C_19_snd

/- ravelin/serial.NewPower -/
def F21 : Cfg := { F := 400, roots := [0], fl := ⟨false, false⟩ }
noncomputable def C_21 : Oracle := inlS Try.prog 21 Try.f21 F21 C_20 (C_20)
theorem C_21_snd : Snd Try.prog C_21 := inlS_snd Try.func21 (by kernel_rfl) C_20_snd C_20_snd

/- ravelin/bus.New -/
def F6 : Cfg := { F := 400, roots := [0, 1, 2, 3, 4], fl := ⟨false, false⟩ }
noncomputable def C_6 : Oracle := inlS Try.prog 6 Try.f6 F6 C_21 (C_21)
theorem C_6_snd : Snd Try.prog C_6 := inlS_snd Try.func6 (by kernel_rfl) C_21_snd C_21_snd

/- (*ravelin/ram.Ram).Len -/
def F39 : Cfg := { F := 400, roots := [0, 1], fl := ⟨false, false⟩ }
noncomputable def C_39 : Oracle := quiS Try.prog 39 Try.f39 F39 C_6 (C_6)
theorem C_39_snd : Snd Try.prog C_39 := quiS_snd Try.func39 (by kernel_rfl) C_6_snd C_6_snd

/- (*ravelin/bus.Bus).regions -/
def F26 : Cfg := { F := 400, roots := [0, 1], fl := ⟨false, false⟩ }
noncomputable def C_26 : Oracle := inlS Try.prog 26 Try.f26 F26 C_39 (C_39)
theorem C_26_snd : Snd Try.prog C_26 := inlS_snd Try.func26 (by kernel_rfl) C_39_snd C_39_snd

/- (ravelin/bus.region).off -/
def F27 : Cfg := { F := 400, roots := [0, 1, 2, 3, 4, 5], fl := ⟨false, false⟩ }
noncomputable def C_27 : Oracle := inlS Try.prog 27 Try.f27 F27 C_26 (C_26)
theorem C_27_snd : Snd Try.prog C_27 := inlS_snd Try.func27 (by kernel_rfl) C_26_snd C_26_snd

/- an entry: are bytes in a region? -/
def FE_27_mbo : Cfg := { F := 400, roots := [0, 1, 2, 3, 4, 5, 6, 7, 8, 9, 10, 11], fl := ⟨false, false⟩, laws := [] }
noncomputable def C_27_mbo : Oracle := elC 27 mboDec mboCps mboU (C_27)
theorem nx_27_mbo_r : ∀ (n : Nat) (tg : List (List AV)) (m : Nat) (d : List (List AV)) (t2 : Nat) (bg : BitVec 64) (sz : BitVec 64) (pa : BitVec 64) (size : BitVec 64), inlineA Try.prog (C_26) (drawA Try.prog) FE_27_mbo Try.f27 (mboA (.r n tg m d t2 bg sz pa size)) (mboH (.r n tg m d t2 bg sz pa size)) (mboH (.r n tg m d t2 bg sz pa size)).length mboDecR = mboStep (.r n tg m d t2 bg sz pa size) := fun _ _ _ _ _ _ _ _ _ => by kernel_rfl
theorem nx_27_mbo_c : ∀ (c0 : BitVec 64) (c1 : BitVec 64) (c2 : BitVec 64) (t2 : Nat) (bg : BitVec 64) (sz : BitVec 64) (pa : BitVec 64) (size : BitVec 64), inlineA Try.prog (C_26) (drawA Try.prog) FE_27_mbo Try.f27 (mboA (.c c0 c1 c2 t2 bg sz pa size)) (mboH (.c c0 c1 c2 t2 bg sz pa size)) (mboH (.c c0 c1 c2 t2 bg sz pa size)).length mboDecR = mboStep (.c c0 c1 c2 t2 bg sz pa size) := fun _ _ _ _ _ _ _ _ => by kernel_rfl
theorem nx_27_mbo_p : ∀ (pr : List (List AV)) (p1 : BitVec 32) (p2 : BitVec 32) (en : List (List AV)) (th : List (List AV)) (t2 : Nat) (bg : BitVec 64) (sz : BitVec 64) (pa : BitVec 64) (size : BitVec 64), inlineA Try.prog (C_26) (drawA Try.prog) FE_27_mbo Try.f27 (mboA (.p pr p1 p2 en th t2 bg sz pa size)) (mboH (.p pr p1 p2 en th t2 bg sz pa size)) (mboH (.p pr p1 p2 en th t2 bg sz pa size)).length mboDecR = mboStep (.p pr p1 p2 en th t2 bg sz pa size) := fun _ _ _ _ _ _ _ _ _ _ => by kernel_rfl
theorem nx_27_mbo_u : ∀ (q : List (List AV)) (u1 : BitVec 64) (u2 : BitVec 64) (u3 : Bool) (t2 : Nat) (bg : BitVec 64) (sz : BitVec 64) (pa : BitVec 64) (size : BitVec 64), inlineA Try.prog (C_26) (drawA Try.prog) FE_27_mbo Try.f27 (mboA (.u q u1 u2 u3 t2 bg sz pa size)) (mboH (.u q u1 u2 u3 t2 bg sz pa size)) (mboH (.u q u1 u2 u3 t2 bg sz pa size)).length mboDecR = mboStep (.u q u1 u2 u3 t2 bg sz pa size) := fun _ _ _ _ _ _ _ _ _ => by kernel_rfl
theorem nx_27_mbo_w : ∀ (w : Bool) (t2 : Nat) (bg : BitVec 64) (sz : BitVec 64) (pa : BitVec 64) (size : BitVec 64), inlineA Try.prog (C_26) (drawA Try.prog) FE_27_mbo Try.f27 (mboA (.w w t2 bg sz pa size)) (mboH (.w w t2 bg sz pa size)) (mboH (.w w t2 bg sz pa size)).length mboDecR = mboStep (.w w t2 bg sz pa size) := fun _ _ _ _ _ _ => by kernel_rfl
noncomputable def EL_27_mbo : EL Try.prog (C_26) FE_27_mbo Try.f27 MboS MboR :=
  { eA := mboA, eH := mboH, dec := mboDec, dec_ok := mboDec_ok, enc := mboU, decR := mboDecR, decR_ok := mboDecR_ok, step := mboStep, hstep := fun x => match x with
      | .r n tg m d t2 bg sz pa size => nx_27_mbo_r n tg m d t2 bg sz pa size
      | .c c0 c1 c2 t2 bg sz pa size => nx_27_mbo_c c0 c1 c2 t2 bg sz pa size
      | .p pr p1 p2 en th t2 bg sz pa size => nx_27_mbo_p pr p1 p2 en th t2 bg sz pa size
      | .u q u1 u2 u3 t2 bg sz pa size => nx_27_mbo_u q u1 u2 u3 t2 bg sz pa size
      | .w w t2 bg sz pa size => nx_27_mbo_w w t2 bg sz pa size
  }
theorem C_27_mbo_snd : Snd Try.prog C_27_mbo := elC_snd EL_27_mbo (C_26_snd) Try.func27 (by kernel_rfl) (cps := mboCps) mboCps_ok (C_27_snd)

/- (*ravelin/bus.Bus).InRam -/
def F10 : Cfg := { F := 400, roots := [0, 1, 2, 3, 4, 5], fl := ⟨false, false⟩ }
noncomputable def C_10 : Oracle := inlS Try.prog 10 Try.f10 F10 C_27_mbo (C_27_mbo)
theorem C_10_snd : Snd Try.prog C_10 := inlS_snd Try.func10 (by kernel_rfl) C_27_mbo_snd C_27_mbo_snd

/- (*ravelin/capenc.row[uint64]).lay -/
def F43 : Cfg := { F := 400, roots := [0, 1, 2], fl := ⟨false, false⟩ }
noncomputable def C_43 : Oracle := inlS Try.prog 43 Try.f43 F43 C_10 (C_10)
theorem C_43_snd : Snd Try.prog C_43 := inlS_snd Try.func43 (by kernel_rfl) C_10_snd C_10_snd

/- ravelin/capenc.meta -/
def F29 : Cfg := { F := 400, roots := [0, 1, 2, 3, 4, 5], fl := ⟨true, false⟩ }
theorem run_29 : ∀ (c : Cp), pureRun Try.prog C_43 F29 Try.f29 [c.av] = some (.int .u64 (v_capenc_meta c)) := fun c =>
 (show pureRun Try.prog C_43 F29 Try.f29 [c.av] = (cond (c.big)
 (some (AV.int (IntKind.u64) (0#64 ||| (BitVec.signExtend 64 (c.b ||| c.e &&& 7#64) &&& 16383#64) <<< 0 ||| (BitVec.signExtend 64 (c.t ||| c.e.sshiftRight 3) &&& 4095#64) <<< 14 ||| 67108864#64 ||| (BitVec.signExtend 64 c.ty &&& 262143#64) <<< 27 ||| (BitVec.signExtend 64 c.mo &&& 1#64) <<< 45 ||| (BitVec.signExtend 64 c.per &&& 65535#64) <<< 46)))
 (some (AV.int (IntKind.u64) (0#64 ||| (BitVec.signExtend 64 c.b &&& 16383#64) <<< 0 ||| (BitVec.signExtend 64 c.t &&& 4095#64) <<< 14 ||| 0#64 ||| (BitVec.signExtend 64 c.ty &&& 262143#64) <<< 27 ||| (BitVec.signExtend 64 c.mo &&& 1#64) <<< 45 ||| (BitVec.signExtend 64 c.per &&& 65535#64) <<< 46)))) by kernel_rfl).trans (by
    delta v_capenc_meta
    refine (mer _ (fun p => .int .u64 p) ?_ ?_)
    all_goals first | with_reducible rfl | rfl)
noncomputable def C_29 : Oracle := pureE 29 (pure1 dCp (fun c => .int .u64 (v_capenc_meta c))) (C_43)
theorem C_29_snd : Snd Try.prog C_29 := pureE_snd (pure1_ok (F := F29) (C_43_snd) Try.func29 (by kernel_rfl) run_29 (fun _ => rfl)) (C_43_snd)

/- ravelin/capenc.Number -/
def F30 : Cfg := { F := 400, roots := [0, 1], fl := ⟨true, false⟩ }
theorem run_30 : ∀ (n : BitVec 64), pureRun Try.prog C_29 F30 Try.f30 [.int .u64 n] = some ((v_capenc_Number n).av) := fun n =>
 (show pureRun Try.prog C_29 F30 Try.f30 [.int .u64 n] = (some (AV.agg [(AV.bool (false)), (AV.int (IntKind.i64) (0#64)), (AV.int (IntKind.i64) (262143#64)), (AV.int (IntKind.i64) (0#64)), (AV.int (IntKind.i64) (52#64)), (AV.int (IntKind.i64) (0#64)), (AV.int (IntKind.i64) (0#64)), (AV.bool (true)), (AV.int (IntKind.u64) (n))])) by kernel_rfl).trans (rfl)
noncomputable def C_30 : Oracle := pureE 30 (pure1 dU64 (fun n => (v_capenc_Number n).av)) (C_29)
theorem C_30_snd : Snd Try.prog C_30 := pureE_snd (pure1_ok (F := F30) (C_29_snd) Try.func30 (by kernel_rfl) run_30 (fun _ => rfl)) (C_29_snd)

/- ravelin/capenc.Pack -/
def F34 : Cfg := { F := 400, roots := [0, 1, 2], fl := ⟨true, false⟩ }
theorem run_34 : ∀ (c : Cp), pureRun Try.prog C_30 F34 Try.f34 [c.av] = some ((fun (p : BitVec 64 × BitVec 64) => .tup [.int .u64 (p.1), .int .u64 (p.2)]) (v_capenc_Pack c)) := fun c =>
 (show pureRun Try.prog C_30 F34 Try.f34 [c.av] = (some (AV.tup [(AV.int (IntKind.u64) (c.ad)), (AV.int (IntKind.u64) (v_capenc_meta c ^^^ 35184305078276#64))])) by kernel_rfl).trans (rfl)
noncomputable def C_34 : Oracle := pureE 34 (pure1 dCp (fun c => (fun (p : BitVec 64 × BitVec 64) => .tup [.int .u64 (p.1), .int .u64 (p.2)]) (v_capenc_Pack c))) (C_30)
theorem C_34_snd : Snd Try.prog C_34 := pureE_snd (pure1_ok (F := F34) (C_30_snd) Try.func34 (by kernel_rfl) run_34 (fun _ => rfl)) (C_30_snd)

/- (*ravelin/ram.Ram).part -/
def F40 : Cfg := { F := 400, roots := [0, 1, 2, 3, 4], fl := ⟨false, false⟩ }
noncomputable def C_40 : Oracle := inlS Try.prog 40 Try.f40 F40 C_34 (C_34)
theorem C_40_snd : Snd Try.prog C_40 := inlS_snd Try.func40 (by kernel_rfl) C_34_snd C_34_snd

/- a loop of ravelin/ram.put -/
noncomputable def FL_44_mpl : Cfg := { F := 400, roots := [0, 1, 6, 7], fl := ⟨false, false⟩, laws := [] }
noncomputable def LC_44_mpl : Code := loopIn 0 Try.f44
theorem nx_44_mpl_a : ∀ (m : Nat) (d : List (List AV)) (o : Nat) (n : Nat) (v : BitVec 64) (ln : BitVec 64) (ix : BitVec 64), codeA Try.prog (C_40) (drawA Try.prog FL_44_mpl.fl Try.f44.ntmps (C_40)) FL_44_mpl Try.f44.ntmps LC_44_mpl (tmOf [0, 1, 6, 7] (mplT (.a m d o n v ln ix))) (mplH (.a m d o n v ln ix)) (mplN (.a m d o n v ln ix)) (roundK 1 [0, 1, 6, 7] [0, 1, 6, 7] [] mplDec mplDecE) = mplStep (.a m d o n v ln ix) := fun _ _ _ _ _ _ _ => by kernel_rfl
noncomputable def LL_44_mpl : LL Try.prog (C_40) Try.f44.ntmps (drawA Try.prog FL_44_mpl.fl Try.f44.ntmps (C_40)) FL_44_mpl LC_44_mpl MplS MplE :=
  { N0 := 1, rts := [0, 1, 6, 7], kT := [0, 1, 6, 7], vT := mplT, hT := mplH, nT := mplN, dec := mplDec, dec_ok := mplDec_ok, kE := [], oE := mplO, vE := mplV, hE := mplG, nE := mplM, decE := mplDecE, decE_ok := mplDecE_ok, step := mplStep,
    hstep := fun x => match x with
      | .a m d o n v ln ix => nx_44_mpl_a m d o n v ln ix
  }
theorem hs_44_mpl : HSnd Try.prog Try.f44.ntmps (.block 0 (.loop LC_44_mpl)) (llH 1 [0, 1, 6, 7] mplDec 0 mplCps) :=
  LL.handler_snd LL_44_mpl (C_40_snd) (drawA_sound (C_40_snd)) (laws_nil) 0 (cps := mplCps) mplCps_ok

/- ravelin/ram.put -/
noncomputable def F44 : Cfg := { F := 400, roots := [0, 1, 2, 3, 4], fl := ⟨false, false⟩, laws := [(0, llH 1 [0, 1, 6, 7] mplDec 0 mplCps)] }
theorem fok_44 : FOK Try.prog Try.f44 F44 := fok_of (laws_cons (subs_one (b := .block 0 (.loop LC_44_mpl)) (by kernel_rfl) hs_44_mpl) (laws_nil))
noncomputable def C_44 : Oracle := inlS Try.prog 44 Try.f44 F44 C_40 (C_40)
theorem C_44_snd : Snd Try.prog C_44 := inlS_snd Try.func44 (by kernel_rfl) C_40_snd C_40_snd (hF := fok_44)

/- an entry: a number laid -/
noncomputable def FE_44_mpu : Cfg := { F := 400, roots := [0, 1, 2, 3, 4, 5, 6, 7, 8, 9, 10, 11], fl := ⟨false, false⟩, laws := [(0, llH 1 [0, 1, 6, 7] mplDec 0 mplCps)] }
noncomputable def C_44_mpu : Oracle := elC 44 mpuDec mpuCps mpuU (C_44)
theorem nx_44_mpu_a : ∀ (m : Nat) (d : List (List AV)) (o : Nat) (n : Nat) (v : BitVec 64), inlineA Try.prog (C_40) (drawA Try.prog) FE_44_mpu Try.f44 (mpuA (.a m d o n v)) (mpuH (.a m d o n v)) (mpuH (.a m d o n v)).length mpuDecR = mpuStep (.a m d o n v) := fun _ _ _ _ _ => by kernel_rfl
noncomputable def EL_44_mpu : EL Try.prog (C_40) FE_44_mpu Try.f44 MpuS MpuR :=
  { eA := mpuA, eH := mpuH, dec := mpuDec, dec_ok := mpuDec_ok, enc := mpuU, decR := mpuDecR, decR_ok := mpuDecR_ok, step := mpuStep, hstep := fun x => match x with
      | .a m d o n v => nx_44_mpu_a m d o n v
  }
theorem foke_44_mpu : FOK Try.prog Try.f44 FE_44_mpu := fok_of (laws_cons (subs_one (b := .block 0 (.loop LC_44_mpl)) (by kernel_rfl) hs_44_mpl) (laws_nil))
theorem C_44_mpu_snd : Snd Try.prog C_44_mpu := elC_snd EL_44_mpu (C_40_snd) Try.func44 (by kernel_rfl) (cps := mpuCps) mpuCps_ok (C_44_snd) (hF := foke_44_mpu)

/- (*ravelin/ram.Ram).tag -/
def F41 : Cfg := { F := 400, roots := [0, 1, 2, 3, 4], fl := ⟨false, false⟩ }
noncomputable def C_41 : Oracle := inlS Try.prog 41 Try.f41 F41 C_44_mpu (C_44_mpu)
theorem C_41_snd : Snd Try.prog C_41 := inlS_snd Try.func41 (by kernel_rfl) C_44_mpu_snd C_44_mpu_snd

/- (*ravelin/ram.Ram).StoreCap -/
def F35 : Cfg := { F := 400, roots := [0, 1, 2, 3, 4, 5, 6, 7, 8, 9], fl := ⟨false, false⟩ }
noncomputable def C_35 : Oracle := inlS Try.prog 35 Try.f35 F35 C_41 (C_41)
theorem C_35_snd : Snd Try.prog C_35 := inlS_snd Try.func35 (by kernel_rfl) C_41_snd C_41_snd

/- an entry: a granule laid -/
def FE_35_mrt : Cfg := { F := 400, roots := [0, 1, 2, 3, 4, 5, 6, 7, 8, 9, 10, 11], fl := ⟨false, false⟩, laws := [] }
noncomputable def C_35_mrt : Oracle := elC 35 mrtDec mrtCps mrtU (C_35)
theorem nx_35_mrt_a : ∀ (n : Nat) (tg : List (List AV)) (m : Nat) (d : List (List AV)) (off : BitVec 64) (t : Bool) (x : BitVec 64) (y : BitVec 64), inlineA Try.prog (C_41) (drawA Try.prog) FE_35_mrt Try.f35 (mrtA (.a n tg m d off t x y)) (mrtH (.a n tg m d off t x y)) (mrtH (.a n tg m d off t x y)).length mrtDecR = mrtStep (.a n tg m d off t x y) := fun _ _ _ _ _ _ _ _ => by kernel_rfl
noncomputable def EL_35_mrt : EL Try.prog (C_41) FE_35_mrt Try.f35 MrtS MrtR :=
  { eA := mrtA, eH := mrtH, dec := mrtDec, dec_ok := mrtDec_ok, enc := mrtU, decR := mrtDecR, decR_ok := mrtDecR_ok, step := mrtStep, hstep := fun x => match x with
      | .a n tg m d off t x y => nx_35_mrt_a n tg m d off t x y
  }
theorem C_35_mrt_snd : Snd Try.prog C_35_mrt := elC_snd EL_35_mrt (C_41_snd) Try.func35 (by kernel_rfl) (cps := mrtCps) mrtCps_ok (C_35_snd)

/- (*ravelin/bus.Bus).StoreCap -/
def F16 : Cfg := { F := 400, roots := [0, 1, 2, 3, 4, 5], fl := ⟨false, false⟩ }
noncomputable def C_16 : Oracle := inlS Try.prog 16 Try.f16 F16 C_35_mrt (C_35_mrt)
theorem C_16_snd : Snd Try.prog C_16 := inlS_snd Try.func16 (by kernel_rfl) C_35_mrt_snd C_35_mrt_snd

/- a loop of ravelin/ram.get -/
noncomputable def FL_42_mgl : Cfg := { F := 400, roots := [2, 5, 6, 7], fl := ⟨false, false⟩, laws := [] }
noncomputable def LC_42_mgl : Code := loopIn 0 Try.f42
theorem nx_42_mgl_a : ∀ (rw : Bool) (m : Nat) (d : List (List AV)) (o : Nat) (n : Nat) (v : BitVec 64) (ln : BitVec 64) (ix : BitVec 64), codeA Try.prog (C_16) (drawA Try.prog FL_42_mgl.fl Try.f42.ntmps (C_16)) FL_42_mgl Try.f42.ntmps LC_42_mgl (tmOf [2, 5, 6, 7] (mglT (.a rw m d o n v ln ix))) (mglH (.a rw m d o n v ln ix)) (mglN (.a rw m d o n v ln ix)) (roundK 1 [2, 5, 6, 7] [2, 5, 6, 7] [2] mglDec mglDecE) = mglStep (.a rw m d o n v ln ix) := fun _ _ _ _ _ _ _ _ => by kernel_rfl
noncomputable def LL_42_mgl : LL Try.prog (C_16) Try.f42.ntmps (drawA Try.prog FL_42_mgl.fl Try.f42.ntmps (C_16)) FL_42_mgl LC_42_mgl MglS MglE :=
  { N0 := 1, rts := [2, 5, 6, 7], kT := [2, 5, 6, 7], vT := mglT, hT := mglH, nT := mglN, dec := mglDec, dec_ok := mglDec_ok, kE := [2], oE := mglO, vE := mglV, hE := mglG, nE := mglM, decE := mglDecE, decE_ok := mglDecE_ok, step := mglStep,
    hstep := fun x => match x with
      | .a rw m d o n v ln ix => nx_42_mgl_a rw m d o n v ln ix
  }
theorem hs_42_mgl : HSnd Try.prog Try.f42.ntmps (.block 0 (.loop LC_42_mgl)) (orH 1 (llH 1 [2, 5, 6, 7] mglDec 0 mglCps) (selfH Try.prog (C_16) (drawA Try.prog FL_42_mgl.fl Try.f42.ntmps (C_16)) FL_42_mgl Try.f42.ntmps (.block 0 (.loop LC_42_mgl)))) :=
  orH_snd (LL.handler_snd LL_42_mgl (C_16_snd) (drawA_sound (C_16_snd)) (laws_nil) 0 (cps := mglCps) mglCps_ok) (selfH_snd (C_16_snd) (drawA_sound (C_16_snd)) (laws_nil))

/- ravelin/ram.get -/
noncomputable def F42 : Cfg := { F := 400, roots := [0, 1, 2, 3, 4], fl := ⟨false, false⟩, laws := [(0, orH 1 (llH 1 [2, 5, 6, 7] mglDec 0 mglCps) (selfH Try.prog (C_16) (drawA Try.prog FL_42_mgl.fl Try.f42.ntmps (C_16)) FL_42_mgl Try.f42.ntmps (.block 0 (.loop LC_42_mgl))))] }
theorem fok_42 : FOK Try.prog Try.f42 F42 := fok_of (laws_cons (subs_one (b := .block 0 (.loop LC_42_mgl)) (by kernel_rfl) hs_42_mgl) (laws_nil))
noncomputable def C_42 : Oracle := inlS Try.prog 42 Try.f42 F42 C_16 (C_16)
theorem C_42_snd : Snd Try.prog C_42 := inlS_snd Try.func42 (by kernel_rfl) C_16_snd C_16_snd (hF := fok_42)

/- an entry: a number of bytes -/
noncomputable def FE_42_mge : Cfg := { F := 400, roots := [0, 1, 2, 3, 4, 5, 6, 7, 8, 9, 10, 11], fl := ⟨false, false⟩, laws := [(0, orH 1 (llH 1 [2, 5, 6, 7] mglDec 0 mglCps) (selfH Try.prog (C_16) (drawA Try.prog FL_42_mgl.fl Try.f42.ntmps (C_16)) FL_42_mgl Try.f42.ntmps (.block 0 (.loop LC_42_mgl))))] }
noncomputable def C_42_mge : Oracle := elC 42 mgeDec mgeCps mgeU (C_42)
theorem nx_42_mge_s : ∀ (rw : Bool) (m : Nat) (d : List (List AV)) (o : Nat) (n : Nat), inlineA Try.prog (C_16) (drawA Try.prog) FE_42_mge Try.f42 (mgeA (.s rw m d o n)) (mgeH (.s rw m d o n)) (mgeH (.s rw m d o n)).length mgeDecR = mgeStep (.s rw m d o n) := fun _ _ _ _ _ => by kernel_rfl
theorem nx_42_mge_z : inlineA Try.prog (C_16) (drawA Try.prog) FE_42_mge Try.f42 (mgeA (.z )) (mgeH (.z )) (mgeH (.z )).length mgeDecR = mgeStep (.z ) := by kernel_rfl
noncomputable def EL_42_mge : EL Try.prog (C_16) FE_42_mge Try.f42 MgeS MgeR :=
  { eA := mgeA, eH := mgeH, dec := mgeDec, dec_ok := mgeDec_ok, enc := mgeU, decR := mgeDecR, decR_ok := mgeDecR_ok, step := mgeStep, hstep := fun x => match x with
      | .s rw m d o n => nx_42_mge_s rw m d o n
      | .z => nx_42_mge_z 
  }
theorem foke_42_mge : FOK Try.prog Try.f42 FE_42_mge := fok_of (laws_cons (subs_one (b := .block 0 (.loop LC_42_mgl)) (by kernel_rfl) hs_42_mgl) (laws_nil))
theorem C_42_mge_snd : Snd Try.prog C_42_mge := elC_snd EL_42_mge (C_16_snd) Try.func42 (by kernel_rfl) (cps := mgeCps) mgeCps_ok (C_42_snd) (hF := foke_42_mge)

/- (*ravelin/ram.Ram).LoadCap -/
def F28 : Cfg := { F := 400, roots := [0, 1, 2, 3, 4, 5, 6, 7, 8], fl := ⟨false, false⟩ }
noncomputable def C_28 : Oracle := inlS Try.prog 28 Try.f28 F28 C_42_mge (C_42_mge)
theorem C_28_snd : Snd Try.prog C_28 := inlS_snd Try.func28 (by kernel_rfl) C_42_mge_snd C_42_mge_snd

/- an entry: a granule -/
def FE_28_mrc : Cfg := { F := 400, roots := [0, 1, 2, 3, 4, 5, 6, 7, 8, 9, 10, 11], fl := ⟨false, false⟩, laws := [] }
noncomputable def C_28_mrc : Oracle := elC 28 mrcDec mrcCps mrcU (C_28)
theorem nx_28_mrc_a : ∀ (n : Nat) (tg : List (List AV)) (m : Nat) (d : List (List AV)) (off : BitVec 64), inlineA Try.prog (C_42_mge) (drawA Try.prog) FE_28_mrc Try.f28 (mrcA (.a n tg m d off)) (mrcH (.a n tg m d off)) (mrcH (.a n tg m d off)).length mrcDecR = mrcStep (.a n tg m d off) := fun _ _ _ _ _ => by kernel_rfl
noncomputable def EL_28_mrc : EL Try.prog (C_42_mge) FE_28_mrc Try.f28 MrcS MrcR :=
  { eA := mrcA, eH := mrcH, dec := mrcDec, dec_ok := mrcDec_ok, enc := mrcU, decR := mrcDecR, decR_ok := mrcDecR_ok, step := mrcStep, hstep := fun x => match x with
      | .a n tg m d off => nx_28_mrc_a n tg m d off
  }
theorem C_28_mrc_snd : Snd Try.prog C_28_mrc := elC_snd EL_28_mrc (C_42_mge_snd) Try.func28 (by kernel_rfl) (cps := mrcCps) mrcCps_ok (C_28_snd)

/- (*ravelin/capenc.row[uint64]).take -/
def F31 : Cfg := { F := 400, roots := [0, 1, 2, 3], fl := ⟨false, false⟩ }
noncomputable def C_31 : Oracle := inlS Try.prog 31 Try.f31 F31 C_28_mrc (C_28_mrc)
theorem C_31_snd : Snd Try.prog C_31 := inlS_snd Try.func31 (by kernel_rfl) C_28_mrc_snd C_28_mrc_snd

/- ravelin/capenc.Unpack -/
def F14 : Cfg := { F := 400, roots := [0, 1, 2, 3, 4, 5], fl := ⟨true, false⟩ }
theorem run_14 : ∀ (tag : Bool) (addr : BitVec 64) (bits : BitVec 64), pureRun Try.prog C_31 F14 Try.f14 [.bool tag, .int .u64 addr, .int .u64 bits] = some ((v_capenc_Unpack tag addr bits).av) := fun tag addr bits =>
 (show pureRun Try.prog C_31 F14 Try.f14 [.bool tag, .int .u64 addr, .int .u64 bits] = (cond (BitVec.setWidth 64 ((bits ^^^ 35184305078276#64) >>> 26 &&& 1#64) == 1#64)
 (some (AV.agg [(AV.bool (tag)), (AV.int (IntKind.i64) (BitVec.setWidth 64 ((bits ^^^ 35184305078276#64) >>> 46 &&& 65535#64))), (AV.int (IntKind.i64) (BitVec.setWidth 64 ((bits ^^^ 35184305078276#64) >>> 27 &&& 262143#64))), (AV.int (IntKind.i64) (BitVec.setWidth 64 ((bits ^^^ 35184305078276#64) >>> 45 &&& 1#64))), (AV.int (IntKind.i64) (bif (52#64).slt ((BitVec.setWidth 64 ((bits ^^^ 35184305078276#64) >>> 14 &&& 4095#64) &&& 7#64) <<< 3 ||| BitVec.setWidth 64 ((bits ^^^ 35184305078276#64) >>> 0 &&& 16383#64) &&& 7#64) then 52#64 else (BitVec.setWidth 64 ((bits ^^^ 35184305078276#64) >>> 14 &&& 4095#64) &&& 7#64) <<< 3 ||| BitVec.setWidth 64 ((bits ^^^ 35184305078276#64) >>> 0 &&& 16383#64) &&& 7#64)), (AV.int (IntKind.i64) (BitVec.setWidth 64 ((bits ^^^ 35184305078276#64) >>> 0 &&& 16383#64) &&& 18446744073709551608#64)), (AV.int (IntKind.i64) (BitVec.setWidth 64 ((bits ^^^ 35184305078276#64) >>> 14 &&& 4095#64) &&& 18446744073709551608#64)), (AV.bool (BitVec.setWidth 64 ((bits ^^^ 35184305078276#64) >>> 26 &&& 1#64) == 1#64)), (AV.int (IntKind.u64) (addr))]))
 (some (AV.agg [(AV.bool (tag)), (AV.int (IntKind.i64) (BitVec.setWidth 64 ((bits ^^^ 35184305078276#64) >>> 46 &&& 65535#64))), (AV.int (IntKind.i64) (BitVec.setWidth 64 ((bits ^^^ 35184305078276#64) >>> 27 &&& 262143#64))), (AV.int (IntKind.i64) (BitVec.setWidth 64 ((bits ^^^ 35184305078276#64) >>> 45 &&& 1#64))), (AV.int (IntKind.i64) (0#64)), (AV.int (IntKind.i64) (BitVec.setWidth 64 ((bits ^^^ 35184305078276#64) >>> 0 &&& 16383#64))), (AV.int (IntKind.i64) (BitVec.setWidth 64 ((bits ^^^ 35184305078276#64) >>> 14 &&& 4095#64))), (AV.bool (BitVec.setWidth 64 ((bits ^^^ 35184305078276#64) >>> 26 &&& 1#64) == 1#64)), (AV.int (IntKind.u64) (addr))]))) by kernel_rfl).trans (by
    delta v_capenc_Unpack
    refine (mer _ (Cp.av) ?_ ?_)
    all_goals (try delta Cp.av)
    all_goals (try delta Rg.av)
    all_goals (try delta W2.av)
    all_goals (try delta Tr.av)
    all_goals (try delta Qu.av)
    all_goals first | with_reducible rfl | rfl)
noncomputable def C_14 : Oracle := pureE 14 (pure3 dBool dU64 dU64 (fun tag addr bits => (v_capenc_Unpack tag addr bits).av)) (C_31)
theorem C_14_snd : Snd Try.prog C_14 := pureE_snd (pure3_ok (F := F14) (C_31_snd) Try.func14 (by kernel_rfl) run_14 (fun _ _ _ => rfl)) (C_31_snd)

/- (*ravelin/bus.Bus).LoadCap -/
def F13 : Cfg := { F := 400, roots := [0, 1, 2, 3, 4, 5, 6, 7], fl := ⟨false, false⟩ }
noncomputable def C_13 : Oracle := inlS Try.prog 13 Try.f13 F13 C_14 (C_14)
theorem C_13_snd : Snd Try.prog C_13 := inlS_snd Try.func13 (by kernel_rfl) C_14_snd C_14_snd

/- (*ravelin/bus.Bus).find -/
def F22 : Cfg := { F := 400, roots := [0, 1, 2, 3, 4, 5, 6, 7, 8], fl := ⟨false, false⟩ }
noncomputable def C_22 : Oracle := inlS Try.prog 22 Try.f22 F22 C_13 (C_13)
theorem C_22_snd : Snd Try.prog C_22 := inlS_snd Try.func22 (by kernel_rfl) C_13_snd C_13_snd

/- (*ravelin/ram.Ram).number -/
def F65 : Cfg := { F := 400, roots := [0, 1, 2, 3, 4], fl := ⟨false, false⟩ }
noncomputable def C_65 : Oracle := inlS Try.prog 65 Try.f65 F65 C_22 (C_22)
theorem C_65_snd : Snd Try.prog C_65 := inlS_snd Try.func65 (by kernel_rfl) C_22_snd C_22_snd

/- (*ravelin/ram.Ram).Load -/
def F63 : Cfg := { F := 400, roots := [0, 1, 2, 3, 4, 5, 6], fl := ⟨false, false⟩ }
noncomputable def C_63 : Oracle := inlS Try.prog 63 Try.f63 F63 C_65 (C_65)
theorem C_63_snd : Snd Try.prog C_63 := inlS_snd Try.func63 (by kernel_rfl) C_65_snd C_65_snd

/- an entry: a load -/
def FE_63_mrl : Cfg := { F := 400, roots := [0, 1, 2, 3, 4, 5, 6, 7, 8, 9, 10, 11], fl := ⟨false, false⟩, laws := [] }
noncomputable def C_63_mrl : Oracle := elC 63 mrlDec mrlCps mrlU (C_63)
theorem nx_63_mrl_a : ∀ (n : Nat) (tg : List (List AV)) (m : Nat) (d : List (List AV)) (off : BitVec 64) (size : BitVec 64), inlineA Try.prog (C_65) (drawA Try.prog) FE_63_mrl Try.f63 (mrlA (.a n tg m d off size)) (mrlH (.a n tg m d off size)) (mrlH (.a n tg m d off size)).length mrlDecR = mrlStep (.a n tg m d off size) := fun _ _ _ _ _ _ => by kernel_rfl
noncomputable def EL_63_mrl : EL Try.prog (C_65) FE_63_mrl Try.f63 MrlS MrlR :=
  { eA := mrlA, eH := mrlH, dec := mrlDec, dec_ok := mrlDec_ok, enc := mrlU, decR := mrlDecR, decR_ok := mrlDecR_ok, step := mrlStep, hstep := fun x => match x with
      | .a n tg m d off size => nx_63_mrl_a n tg m d off size
  }
theorem C_63_mrl_snd : Snd Try.prog C_63_mrl := elC_snd EL_63_mrl (C_65_snd) Try.func63 (by kernel_rfl) (cps := mrlCps) mrlCps_ok (C_63_snd)

/- ravelin/clint.part -/
def F68 : Cfg := { F := 400, roots := [0, 1, 2, 3, 4], fl := ⟨false, false⟩ }
noncomputable def C_68 : Oracle := inlS Try.prog 68 Try.f68 F68 C_63_mrl (C_63_mrl)
theorem C_68_snd : Snd Try.prog C_68 := inlS_snd Try.func68 (by kernel_rfl) C_63_mrl_snd C_63_mrl_snd

/- sync/atomic.LoadUint64 -/
noncomputable def C_47 : Oracle := atLoadE64 47 (C_68)
theorem C_47_snd : Snd Try.prog C_47 := atLoadE64_snd Try.func47 (by kernel_rfl) (by kernel_rfl) (by kernel_rfl) (by kernel_rfl) (C_68_snd)

/- (*sync/atomic.Uint64).Load -/
def F45 : Cfg := { F := 400, roots := [0, 1], fl := ⟨false, false⟩ }
noncomputable def C_45 : Oracle := quiS Try.prog 45 Try.f45 F45 C_47 (C_47)
theorem C_45_snd : Snd Try.prog C_45 := quiS_snd Try.func45 (by kernel_rfl) C_47_snd C_47_snd

/- (*ravelin/clint.Clint).Time -/
def F36 : Cfg := { F := 400, roots := [0, 1], fl := ⟨false, false⟩ }
noncomputable def C_36 : Oracle := quiS Try.prog 36 Try.f36 F36 C_45 (C_45)
theorem C_36_snd : Snd Try.prog C_36 := quiS_snd Try.func36 (by kernel_rfl) C_45_snd C_45_snd

/- ravelin/plic.which -/
def F75 : Cfg := { F := 400, roots := [0, 1, 2, 3, 4], fl := ⟨false, false⟩ }
noncomputable def C_75 : Oracle := inlS Try.prog 75 Try.f75 F75 C_36 (C_36)
theorem C_75_snd : Snd Try.prog C_75 := inlS_snd Try.func75 (by kernel_rfl) C_36_snd C_36_snd

/- sync/atomic.LoadUint32 -/
noncomputable def C_46 : Oracle := atLoadE 46 (C_75)
theorem C_46_snd : Snd Try.prog C_46 := atLoadE_snd Try.func46 (by kernel_rfl) (by kernel_rfl) (by kernel_rfl) (by kernel_rfl) (C_75_snd)

/- (*sync/atomic.Uint32).Load -/
def F38 : Cfg := { F := 400, roots := [0, 1], fl := ⟨false, false⟩ }
noncomputable def C_38 : Oracle := quiS Try.prog 38 Try.f38 F38 C_46 (C_46)
theorem C_38_snd : Snd Try.prog C_38 := quiS_snd Try.func38 (by kernel_rfl) C_46_snd C_46_snd

/- (*ravelin/plic.Plic).best -/
def F37 : Cfg := { F := 400, roots := [0, 1, 2, 3, 4, 5], fl := ⟨false, false⟩ }
noncomputable def C_37 : Oracle := quiS Try.prog 37 Try.f37 F37 C_38 (C_38)
theorem C_37_snd : Snd Try.prog C_37 := quiS_snd Try.func37 (by kernel_rfl) C_38_snd C_38_snd

/- sync/atomic.AndUint32 -/
noncomputable def C_79 : Oracle := atUpdE 79 opAnd (C_37)
theorem C_79_snd : Snd Try.prog C_79 := atUpdE_snd (o := Op.intBits .and) Try.func79 (by kernel_rfl) (by kernel_rfl) (by kernel_rfl) (by kernel_rfl) opAnd_ok (C_37_snd)

/- (*sync/atomic.Uint32).And -/
def F77 : Cfg := { F := 400, roots := [0, 1, 2], fl := ⟨false, false⟩ }
noncomputable def C_77 : Oracle := inlS Try.prog 77 Try.f77 F77 C_79 (C_79)
theorem C_77_snd : Snd Try.prog C_77 := inlS_snd Try.func77 (by kernel_rfl) C_79_snd C_79_snd

/- sync/atomic.OrUint32 -/
noncomputable def C_80 : Oracle := atUpdE 80 opOr (C_77)
theorem C_80_snd : Snd Try.prog C_80 := atUpdE_snd (o := Op.intBits .or) Try.func80 (by kernel_rfl) (by kernel_rfl) (by kernel_rfl) (by kernel_rfl) opOr_ok (C_77_snd)

/- (*sync/atomic.Uint32).Or -/
def F78 : Cfg := { F := 400, roots := [0, 1, 2], fl := ⟨false, false⟩ }
noncomputable def C_78 : Oracle := inlS Try.prog 78 Try.f78 F78 C_80 (C_80)
theorem C_78_snd : Snd Try.prog C_78 := inlS_snd Try.func78 (by kernel_rfl) C_80_snd C_80_snd

/- (*ravelin/plic.Plic).claim -/
def F76 : Cfg := { F := 400, roots := [0, 1, 2, 3], fl := ⟨false, false⟩ }
noncomputable def C_76 : Oracle := inlS Try.prog 76 Try.f76 F76 C_78 (C_78)
theorem C_76_snd : Snd Try.prog C_76 := inlS_snd Try.func76 (by kernel_rfl) C_78_snd C_78_snd

/- ravelin/serial.there -/
def F84 : Cfg := { F := 400, roots := [0, 1, 2], fl := ⟨false, false⟩ }
noncomputable def C_84 : Oracle := inlS Try.prog 84 Try.f84 F84 C_76 (C_76)
theorem C_84_snd : Snd Try.prog C_84 := inlS_snd Try.func84 (by kernel_rfl) C_76_snd C_76_snd

/- (*ravelin/serial.queue).next -/
def F85 : Cfg := { F := 400, roots := [0, 1, 2], fl := ⟨false, false⟩ }
noncomputable def C_85 : Oracle := inlS Try.prog 85 Try.f85 F85 C_84 (C_84)
theorem C_85_snd : Snd Try.prog C_85 := inlS_snd Try.func85 (by kernel_rfl) C_84_snd C_84_snd

/- ravelin/serial.one -/
def F86 : Cfg := { F := 400, roots := [0, 1], fl := ⟨false, false⟩ }
noncomputable def C_86 : Oracle := inlS Try.prog 86 Try.f86 F86 C_85 (C_85)
theorem C_86_snd : Snd Try.prog C_86 := inlS_snd Try.func86 (by kernel_rfl) C_85_snd C_85_snd

/- (*ravelin/serial.queue).Waits -/
def F87 : Cfg := { F := 400, roots := [0, 1], fl := ⟨false, false⟩ }
noncomputable def C_87 : Oracle := inlS Try.prog 87 Try.f87 F87 C_86 (C_86)
theorem C_87_snd : Snd Try.prog C_87 := inlS_snd Try.func87 (by kernel_rfl) C_86_snd C_86_snd

/- (*ravelin/bus.Bus).Load -/
def F7 : Cfg := { F := 400, roots := [0, 1, 2, 3, 4, 5, 6], fl := ⟨false, false⟩ }
noncomputable def C_7 : Oracle := inlS Try.prog 7 Try.f7 F7 C_87 (C_87)
theorem C_7_snd : Snd Try.prog C_7 := inlS_snd Try.func7 (by kernel_rfl) C_87_snd C_87_snd

/- (*ravelin/ram.Ram).Store -/
def F64 : Cfg := { F := 400, roots := [0, 1, 2, 3, 4, 5, 6, 7, 8, 9, 10], fl := ⟨false, false⟩ }
noncomputable def C_64 : Oracle := inlS Try.prog 64 Try.f64 F64 C_7 (C_7)
theorem C_64_snd : Snd Try.prog C_64 := inlS_snd Try.func64 (by kernel_rfl) C_7_snd C_7_snd

/- an entry: a store -/
def FE_64_mrs : Cfg := { F := 400, roots := [0, 1, 2, 3, 4, 5, 6, 7, 8, 9, 10, 11], fl := ⟨false, false⟩, laws := [] }
noncomputable def C_64_mrs : Oracle := elC 64 mrsDec mrsCps mrsU (C_64)
theorem nx_64_mrs_a : ∀ (n : Nat) (tg : List (List AV)) (m : Nat) (d : List (List AV)) (off : BitVec 64) (size : BitVec 64) (v : BitVec 64), inlineA Try.prog (C_7) (drawA Try.prog) FE_64_mrs Try.f64 (mrsA (.a n tg m d off size v)) (mrsH (.a n tg m d off size v)) (mrsH (.a n tg m d off size v)).length mrsDecR = mrsStep (.a n tg m d off size v) := fun _ _ _ _ _ _ _ => by kernel_rfl
noncomputable def EL_64_mrs : EL Try.prog (C_7) FE_64_mrs Try.f64 MrsS MrsR :=
  { eA := mrsA, eH := mrsH, dec := mrsDec, dec_ok := mrsDec_ok, enc := mrsU, decR := mrsDecR, decR_ok := mrsDecR_ok, step := mrsStep, hstep := fun x => match x with
      | .a n tg m d off size v => nx_64_mrs_a n tg m d off size v
  }
theorem C_64_mrs_snd : Snd Try.prog C_64_mrs := elC_snd EL_64_mrs (C_7_snd) Try.func64 (by kernel_rfl) (cps := mrsCps) mrsCps_ok (C_64_snd)

/- sync/atomic.StoreUint64 -/
noncomputable def C_71 : Oracle := atStoreE64 71 (C_64_mrs)
theorem C_71_snd : Snd Try.prog C_71 := atStoreE64_snd Try.func71 (by kernel_rfl) (by kernel_rfl) (by kernel_rfl) (by kernel_rfl) (C_64_mrs_snd)

/- (*sync/atomic.Uint64).Store -/
def F70 : Cfg := { F := 400, roots := [0, 1], fl := ⟨false, false⟩ }
noncomputable def C_70 : Oracle := inlS Try.prog 70 Try.f70 F70 C_71 (C_71)
theorem C_70_snd : Snd Try.prog C_70 := inlS_snd Try.func70 (by kernel_rfl) C_71_snd C_71_snd

/- (*ravelin/clint.Clint).Store$1 -/
def F69 : Cfg := { F := 400, roots := [0, 1], fl := ⟨false, false⟩ }
noncomputable def C_69 : Oracle := inlS Try.prog 69 Try.f69 F69 C_70 (C_70)
theorem C_69_snd : Snd Try.prog C_69 := inlS_snd Try.func69 (by kernel_rfl) C_70_snd C_70_snd

/- (*ravelin/bus.Bus).Store -/
def F8 : Cfg := { F := 400, roots := [0, 1, 2, 3, 4, 5, 6], fl := ⟨false, false⟩ }
noncomputable def C_8 : Oracle := inlS Try.prog 8 Try.f8 F8 C_69 (C_69)
theorem C_8_snd : Snd Try.prog C_8 := inlS_snd Try.func8 (by kernel_rfl) C_69_snd C_69_snd

/- (*ravelin/clint.Clint).Soft -/
def F23 : Cfg := { F := 400, roots := [0, 1], fl := ⟨false, false⟩ }
noncomputable def C_23 : Oracle := quiS Try.prog 23 Try.f23 F23 C_8 (C_8)
theorem C_23_snd : Snd Try.prog C_23 := quiS_snd Try.func23 (by kernel_rfl) C_8_snd C_8_snd

/- (*ravelin/clint.Clint).Timer -/
def F24 : Cfg := { F := 400, roots := [0, 1], fl := ⟨false, false⟩ }
noncomputable def C_24 : Oracle := quiS Try.prog 24 Try.f24 F24 C_23 (C_23)
theorem C_24_snd : Snd Try.prog C_24 := quiS_snd Try.func24 (by kernel_rfl) C_23_snd C_23_snd

/- (*ravelin/plic.Plic).Pending -/
def F25 : Cfg := { F := 400, roots := [0, 1, 2], fl := ⟨false, false⟩ }
noncomputable def C_25 : Oracle := quiS Try.prog 25 Try.f25 F25 C_24 (C_24)
theorem C_25_snd : Snd Try.prog C_25 := quiS_snd Try.func25 (by kernel_rfl) C_24_snd C_24_snd

/- (*ravelin/bus.Bus).Lines -/
def F9 : Cfg := { F := 400, roots := [0, 1, 2, 3, 4], fl := ⟨false, false⟩ }
noncomputable def C_9 : Oracle := quiS Try.prog 9 Try.f9 F9 C_25 (C_25)
theorem C_9_snd : Snd Try.prog C_9 := quiS_snd Try.func9 (by kernel_rfl) C_25_snd C_25_snd

/- known -/
noncomputable def C_12 : Oracle := pureE 12 (pure0 (.bool true)) (C_9)
theorem C_12_snd : Snd Try.prog C_12 := pureE_snd (pure0_ok (F := K.F12) (K.snd_12) Try.func12 (by kernel_rfl) (K.run_12.trans rfl) rfl) (C_9_snd)

/- ravelin/ravelinlaw15.BusCaps -/
def F5 : Cfg := { F := 400, roots := [0, 1, 2, 3, 4, 5, 6, 7, 8, 9, 10, 11, 12, 13, 14, 15, 16, 17, 18, 19], fl := ⟨false, false⟩ }
theorem run_5_x : ∀ (c : Cp) (d : Cp) (at_ : BitVec 64) (k : BitVec 64) (v : BitVec 64), runS Try.prog (C_12) F5 Try.f5 [c.av, d.av, .int .u64 at_, .int .u64 k, .int .u64 v] [] 5 = t_BusCaps_x c d at_ k v := fun _ _ _ _ _ => by kernel_rfl
theorem snd_5 : Snd Try.prog (C_12) := C_12_snd

end Go.Proofs.Ytkniemlelilbdaa

/- What the functions of the seat answer. -/
import Derived.Test.YtckpnfngkncanaaSxU
import Derived.KernelRfl
import Derived.Test.YtckpnfngkncanaaProg
set_option linter.unusedSimpArgs false
set_option linter.unusedVariables false
namespace Go.Proofs.Ytckpnfngkncanaa
open Go Go.Sx Go.Proofs
set_option maxRecDepth 100000
def F0 : Cfg := ⟨100, []⟩

noncomputable def C_23 : Oracle := inlE Try.prog 23 Try.f23 F0 nothing nothing
theorem C_23_snd : Snd Try.prog C_23 := inlE_snd Try.func23 (by kernel_rfl) nothing_snd nothing_snd

noncomputable def C_24 : Oracle := inlE Try.prog 24 Try.f24 F0 C_23 C_23
theorem C_24_snd : Snd Try.prog C_24 := inlE_snd Try.func24 (by kernel_rfl) C_23_snd C_23_snd

def v_19 (n : BitVec 64) : Cp :=
 (⟨(false), (0#64), (262143#64), (0#64), (52#64), (0#64), (0#64), (true), (n)⟩ : Cp)
theorem run_19 : ∀ (n : BitVec 64), pureRun Try.prog C_24 F0 Try.f19 [.int .u64 n] = some ((v_19 n).av) := fun n =>
 (show pureRun Try.prog C_24 F0 Try.f19 [.int .u64 n] = (some (AV.agg [(AV.bool (false)), (AV.int (IntKind.i64) (0#64)), (AV.int (IntKind.i64) (262143#64)), (AV.int (IntKind.i64) (0#64)), (AV.int (IntKind.i64) (52#64)), (AV.int (IntKind.i64) (0#64)), (AV.int (IntKind.i64) (0#64)), (AV.bool (true)), (AV.int (IntKind.u64) (n))])) by kernel_rfl).trans (rfl)
noncomputable def C_19 : Oracle := pureE 19 (pure1 dU64 (fun n => (v_19 n).av)) C_24
theorem C_19_snd : Snd Try.prog C_19 := pureE_snd (pure1_ok (F := F0) C_24_snd Try.func19 (by kernel_rfl) run_19 (fun _ => rfl)) C_24_snd

def v_20 (n : BitVec 64) : Cp :=
 (⟨(false), (0#64), (262143#64), (0#64), (52#64), (0#64), (0#64), (true), (n)⟩ : Cp)
theorem run_20 : ∀ (n : BitVec 64), pureRun Try.prog C_19 F0 Try.f20 [.int .u64 n] = some ((v_20 n).av) := fun n =>
 (show pureRun Try.prog C_19 F0 Try.f20 [.int .u64 n] = (some (AV.agg [(AV.bool (false)), (AV.int (IntKind.i64) (0#64)), (AV.int (IntKind.i64) (262143#64)), (AV.int (IntKind.i64) (0#64)), (AV.int (IntKind.i64) (52#64)), (AV.int (IntKind.i64) (0#64)), (AV.int (IntKind.i64) (0#64)), (AV.bool (true)), (AV.int (IntKind.u64) (n))])) by kernel_rfl).trans (rfl)
noncomputable def C_20 : Oracle := pureE 20 (pure1 dU64 (fun n => (v_20 n).av)) C_19
theorem C_20_snd : Snd Try.prog C_20 := pureE_snd (pure1_ok (F := F0) C_19_snd Try.func20 (by kernel_rfl) run_20 (fun _ => rfl)) C_19_snd

noncomputable def C_27 : Oracle := inlE Try.prog 27 Try.f27 F0 C_20 C_20
theorem C_27_snd : Snd Try.prog C_27 := inlE_snd Try.func27 (by kernel_rfl) C_20_snd C_20_snd

noncomputable def C_28 : Oracle := inlE Try.prog 28 Try.f28 F0 C_27 C_27
theorem C_28_snd : Snd Try.prog C_28 := inlE_snd Try.func28 (by kernel_rfl) C_27_snd C_27_snd

def v_12 (c : Cp) : Bool :=
 (cond ((0#64).sle c.per)
 (cond (!c.per.sle (1#64 <<< min (16#64).toNat 64 - 1#64))
  (false)
  (cond ((0#64).sle c.ty)
   (cond (!c.ty.sle (1#64 <<< min (18#64).toNat 64 - 1#64))
    (false)
    (cond ((0#64).sle c.mo)
     (cond (!c.mo.sle (1#64 <<< min (1#64).toNat 64 - 1#64))
      (false)
      (cond ((0#64).sle c.b)
       (cond (!c.b.sle (1#64 <<< min (14#64).toNat 64 - 1#64))
        (false)
        (cond ((0#64).sle c.t)
         (cond (!c.t.sle (1#64 <<< min (12#64).toNat 64 - 1#64))
          (false)
          (cond (!c.big)
           (c.e == 0#64)
           (cond ((0#64).sle c.e)
            (cond (c.e.sle 52#64)
             (cond (c.b &&& 7#64 == 0#64)
              (c.t &&& 7#64 == 0#64)
              (false))
             (false))
            (false))))
         (false)))
       (false)))
     (false)))
   (false)))
 (false))
theorem run_12 : ∀ (c : Cp), pureRun Try.prog C_28 F0 Try.f12 [c.av] = some (.bool (v_12 c)) := fun c =>
 (show pureRun Try.prog C_28 F0 Try.f12 [c.av] = (cond ((0#64).sle c.per)
 (cond (!c.per.sle (1#64 <<< min (16#64).toNat 64 - 1#64))
  (some (AV.bool (false)))
  (cond ((0#64).sle c.ty)
   (cond (!c.ty.sle (1#64 <<< min (18#64).toNat 64 - 1#64))
    (some (AV.bool (false)))
    (cond ((0#64).sle c.mo)
     (cond (!c.mo.sle (1#64 <<< min (1#64).toNat 64 - 1#64))
      (some (AV.bool (false)))
      (cond ((0#64).sle c.b)
       (cond (!c.b.sle (1#64 <<< min (14#64).toNat 64 - 1#64))
        (some (AV.bool (false)))
        (cond ((0#64).sle c.t)
         (cond (!c.t.sle (1#64 <<< min (12#64).toNat 64 - 1#64))
          (some (AV.bool (false)))
          (cond (!c.big)
           (some (AV.bool (c.e == 0#64)))
           (cond ((0#64).sle c.e)
            (cond (c.e.sle 52#64)
             (cond (c.b &&& 7#64 == 0#64)
              (some (AV.bool (c.t &&& 7#64 == 0#64)))
              (some (AV.bool (false))))
             (some (AV.bool (false))))
            (some (AV.bool (false))))))
         (some (AV.bool (false)))))
       (some (AV.bool (false)))))
     (some (AV.bool (false)))))
   (some (AV.bool (false)))))
 (some (AV.bool (false)))) by kernel_rfl).trans ((mer _ (fun p => .bool p) (mer _ (fun p => .bool p) rfl (mer _ (fun p => .bool p) (mer _ (fun p => .bool p) rfl (mer _ (fun p => .bool p) (mer _ (fun p => .bool p) rfl (mer _ (fun p => .bool p) (mer _ (fun p => .bool p) rfl (mer _ (fun p => .bool p) (mer _ (fun p => .bool p) rfl (mer _ (fun p => .bool p) rfl (mer _ (fun p => .bool p) (mer _ (fun p => .bool p) (mer _ (fun p => .bool p) rfl rfl) rfl) rfl))) rfl)) rfl)) rfl)) rfl)) rfl))
noncomputable def C_12 : Oracle := pureE 12 (pure1 dCp (fun c => .bool (v_12 c))) C_28
theorem C_12_snd : Snd Try.prog C_12 := pureE_snd (pure1_ok (F := F0) C_28_snd Try.func12 (by kernel_rfl) run_12 (fun _ => rfl)) C_28_snd

def v_13 (c : Cp) : Bool :=
 (cond ((0#64).sle c.per)
 (cond (!c.per.slt 65536#64)
  (false)
  (cond ((0#64).sle c.ty)
   (cond (!c.ty.slt 262144#64)
    (false)
    (cond ((0#64).sle c.mo)
     (cond (!c.mo.slt 2#64)
      (false)
      (cond ((0#64).sle c.b)
       (cond (!c.b.slt 16384#64)
        (false)
        (cond ((0#64).sle c.t)
         (cond (!c.t.slt 4096#64)
          (false)
          (cond (c.e.slt 0#64)
           (false)
           (cond ((52#64).slt c.e)
            (false)
            (cond (c.big)
             (cond (c.b.srem 8#64 == 0#64)
              (c.t.srem 8#64 == 0#64)
              (false))
             (c.e == 0#64)))))
         (false)))
       (false)))
     (false)))
   (false)))
 (false))
theorem run_13 : ∀ (c : Cp), pureRun Try.prog C_12 F0 Try.f13 [c.av] = some (.bool (v_13 c)) := fun c =>
 (show pureRun Try.prog C_12 F0 Try.f13 [c.av] = (cond ((0#64).sle c.per)
 (cond (!c.per.slt 65536#64)
  (some (AV.bool (false)))
  (cond ((0#64).sle c.ty)
   (cond (!c.ty.slt 262144#64)
    (some (AV.bool (false)))
    (cond ((0#64).sle c.mo)
     (cond (!c.mo.slt 2#64)
      (some (AV.bool (false)))
      (cond ((0#64).sle c.b)
       (cond (!c.b.slt 16384#64)
        (some (AV.bool (false)))
        (cond ((0#64).sle c.t)
         (cond (!c.t.slt 4096#64)
          (some (AV.bool (false)))
          (cond (c.e.slt 0#64)
           (some (AV.bool (false)))
           (cond ((52#64).slt c.e)
            (some (AV.bool (false)))
            (cond (c.big)
             (cond (c.b.srem 8#64 == 0#64)
              (some (AV.bool (c.t.srem 8#64 == 0#64)))
              (some (AV.bool (false))))
             (some (AV.bool (c.e == 0#64)))))))
         (some (AV.bool (false)))))
       (some (AV.bool (false)))))
     (some (AV.bool (false)))))
   (some (AV.bool (false)))))
 (some (AV.bool (false)))) by kernel_rfl).trans ((mer _ (fun p => .bool p) (mer _ (fun p => .bool p) rfl (mer _ (fun p => .bool p) (mer _ (fun p => .bool p) rfl (mer _ (fun p => .bool p) (mer _ (fun p => .bool p) rfl (mer _ (fun p => .bool p) (mer _ (fun p => .bool p) rfl (mer _ (fun p => .bool p) (mer _ (fun p => .bool p) rfl (mer _ (fun p => .bool p) rfl (mer _ (fun p => .bool p) rfl (mer _ (fun p => .bool p) (mer _ (fun p => .bool p) rfl rfl) rfl)))) rfl)) rfl)) rfl)) rfl)) rfl))
noncomputable def C_13 : Oracle := pureE 13 (pure1 dCp (fun c => .bool (v_13 c))) C_12
theorem C_13_snd : Snd Try.prog C_13 := pureE_snd (pure1_ok (F := F0) C_12_snd Try.func13 (by kernel_rfl) run_13 (fun _ => rfl)) C_12_snd

def v_25 (c : Cp) : BitVec 64 :=
 (cond (c.big)
 (0#64 ||| (BitVec.signExtend 64 (c.b ||| c.e &&& 7#64) &&& 16383#64) <<< 0 ||| (BitVec.signExtend 64 (c.t ||| c.e.sshiftRight 3) &&& 4095#64) <<< 14 ||| 67108864#64 ||| (BitVec.signExtend 64 c.ty &&& 262143#64) <<< 27 ||| (BitVec.signExtend 64 c.mo &&& 1#64) <<< 45 ||| (BitVec.signExtend 64 c.per &&& 65535#64) <<< 46)
 (0#64 ||| (BitVec.signExtend 64 c.b &&& 16383#64) <<< 0 ||| (BitVec.signExtend 64 c.t &&& 4095#64) <<< 14 ||| 0#64 ||| (BitVec.signExtend 64 c.ty &&& 262143#64) <<< 27 ||| (BitVec.signExtend 64 c.mo &&& 1#64) <<< 45 ||| (BitVec.signExtend 64 c.per &&& 65535#64) <<< 46))
theorem run_25 : ∀ (c : Cp), pureRun Try.prog C_13 F0 Try.f25 [c.av] = some (.int .u64 (v_25 c)) := fun c =>
 (show pureRun Try.prog C_13 F0 Try.f25 [c.av] = (cond (c.big)
 (some (AV.int (IntKind.u64) (0#64 ||| (BitVec.signExtend 64 (c.b ||| c.e &&& 7#64) &&& 16383#64) <<< 0 ||| (BitVec.signExtend 64 (c.t ||| c.e.sshiftRight 3) &&& 4095#64) <<< 14 ||| 67108864#64 ||| (BitVec.signExtend 64 c.ty &&& 262143#64) <<< 27 ||| (BitVec.signExtend 64 c.mo &&& 1#64) <<< 45 ||| (BitVec.signExtend 64 c.per &&& 65535#64) <<< 46)))
 (some (AV.int (IntKind.u64) (0#64 ||| (BitVec.signExtend 64 c.b &&& 16383#64) <<< 0 ||| (BitVec.signExtend 64 c.t &&& 4095#64) <<< 14 ||| 0#64 ||| (BitVec.signExtend 64 c.ty &&& 262143#64) <<< 27 ||| (BitVec.signExtend 64 c.mo &&& 1#64) <<< 45 ||| (BitVec.signExtend 64 c.per &&& 65535#64) <<< 46)))) by kernel_rfl).trans ((mer _ (fun p => .int .u64 p) rfl rfl))
noncomputable def C_25 : Oracle := pureE 25 (pure1 dCp (fun c => .int .u64 (v_25 c))) C_13
theorem C_25_snd : Snd Try.prog C_25 := pureE_snd (pure1_ok (F := F0) C_13_snd Try.func25 (by kernel_rfl) run_25 (fun _ => rfl)) C_13_snd

def v_26 (c : Cp) : BitVec 64 :=
 (cond (c.big)
 (((((BitVec.signExtend 64 c.per * 2#64 + BitVec.signExtend 64 c.mo) * 262144#64 + BitVec.signExtend 64 c.ty) * 2#64 + 1#64) * 4096#64 + BitVec.signExtend 64 (c.t + c.e.sdiv 8#64)) * 16384#64 + BitVec.signExtend 64 (c.b + c.e.srem 8#64))
 (((((BitVec.signExtend 64 c.per * 2#64 + BitVec.signExtend 64 c.mo) * 262144#64 + BitVec.signExtend 64 c.ty) * 2#64 + 0#64) * 4096#64 + BitVec.signExtend 64 c.t) * 16384#64 + BitVec.signExtend 64 c.b))
theorem run_26 : ∀ (c : Cp), pureRun Try.prog C_25 F0 Try.f26 [c.av] = some (.int .u64 (v_26 c)) := fun c =>
 (show pureRun Try.prog C_25 F0 Try.f26 [c.av] = (cond (c.big)
 (some (AV.int (IntKind.u64) (((((BitVec.signExtend 64 c.per * 2#64 + BitVec.signExtend 64 c.mo) * 262144#64 + BitVec.signExtend 64 c.ty) * 2#64 + 1#64) * 4096#64 + BitVec.signExtend 64 (c.t + c.e.sdiv 8#64)) * 16384#64 + BitVec.signExtend 64 (c.b + c.e.srem 8#64))))
 (some (AV.int (IntKind.u64) (((((BitVec.signExtend 64 c.per * 2#64 + BitVec.signExtend 64 c.mo) * 262144#64 + BitVec.signExtend 64 c.ty) * 2#64 + 0#64) * 4096#64 + BitVec.signExtend 64 c.t) * 16384#64 + BitVec.signExtend 64 c.b)))) by kernel_rfl).trans ((mer _ (fun p => .int .u64 p) rfl rfl))
noncomputable def C_26 : Oracle := pureE 26 (pure1 dCp (fun c => .int .u64 (v_26 c))) C_25
theorem C_26_snd : Snd Try.prog C_26 := pureE_snd (pure1_ok (F := F0) C_25_snd Try.func26 (by kernel_rfl) run_26 (fun _ => rfl)) C_25_snd

def v_15 (c : Cp) : BitVec 64 × BitVec 64 :=
 ((c.ad), (v_25 c ^^^ 35184305078276#64))
theorem run_15 : ∀ (c : Cp), pureRun Try.prog C_26 F0 Try.f15 [c.av] = some ((fun p => .tup [.int .u64 (p.1), .int .u64 (p.2)]) (v_15 c)) := fun c =>
 (show pureRun Try.prog C_26 F0 Try.f15 [c.av] = (some (AV.tup [(AV.int (IntKind.u64) (c.ad)), (AV.int (IntKind.u64) (v_25 c ^^^ 35184305078276#64))])) by kernel_rfl).trans (rfl)
noncomputable def C_15 : Oracle := pureE 15 (pure1 dCp (fun c => (fun p => .tup [.int .u64 (p.1), .int .u64 (p.2)]) (v_15 c))) C_26
theorem C_15_snd : Snd Try.prog C_15 := pureE_snd (pure1_ok (F := F0) C_26_snd Try.func15 (by kernel_rfl) run_15 (fun _ => rfl)) C_26_snd

def v_16 (c : Cp) : BitVec 64 × BitVec 64 :=
 ((c.ad), (v_26 c ^^^ 35184305078276#64))
theorem run_16 : ∀ (c : Cp), pureRun Try.prog C_15 F0 Try.f16 [c.av] = some ((fun p => .tup [.int .u64 (p.1), .int .u64 (p.2)]) (v_16 c)) := fun c =>
 (show pureRun Try.prog C_15 F0 Try.f16 [c.av] = (some (AV.tup [(AV.int (IntKind.u64) (c.ad)), (AV.int (IntKind.u64) (v_26 c ^^^ 35184305078276#64))])) by kernel_rfl).trans (rfl)
noncomputable def C_16 : Oracle := pureE 16 (pure1 dCp (fun c => (fun p => .tup [.int .u64 (p.1), .int .u64 (p.2)]) (v_16 c))) C_15
theorem C_16_snd : Snd Try.prog C_16 := pureE_snd (pure1_ok (F := F0) C_15_snd Try.func16 (by kernel_rfl) run_16 (fun _ => rfl)) C_15_snd

def v_17 (tag : Bool) (ad : BitVec 64) (x : BitVec 64) : Cp :=
 (cond (BitVec.setWidth 64 ((x ^^^ 35184305078276#64) >>> 26 &&& 1#64) == 1#64)
 (⟨(tag), (BitVec.setWidth 64 ((x ^^^ 35184305078276#64) >>> 46 &&& 65535#64)), (BitVec.setWidth 64 ((x ^^^ 35184305078276#64) >>> 27 &&& 262143#64)), (BitVec.setWidth 64 ((x ^^^ 35184305078276#64) >>> 45 &&& 1#64)), (bif (52#64).slt ((BitVec.setWidth 64 ((x ^^^ 35184305078276#64) >>> 14 &&& 4095#64) &&& 7#64) <<< 3 ||| BitVec.setWidth 64 ((x ^^^ 35184305078276#64) >>> 0 &&& 16383#64) &&& 7#64) then 52#64 else (BitVec.setWidth 64 ((x ^^^ 35184305078276#64) >>> 14 &&& 4095#64) &&& 7#64) <<< 3 ||| BitVec.setWidth 64 ((x ^^^ 35184305078276#64) >>> 0 &&& 16383#64) &&& 7#64), (BitVec.setWidth 64 ((x ^^^ 35184305078276#64) >>> 0 &&& 16383#64) &&& 18446744073709551608#64), (BitVec.setWidth 64 ((x ^^^ 35184305078276#64) >>> 14 &&& 4095#64) &&& 18446744073709551608#64), (BitVec.setWidth 64 ((x ^^^ 35184305078276#64) >>> 26 &&& 1#64) == 1#64), (ad)⟩ : Cp)
 (⟨(tag), (BitVec.setWidth 64 ((x ^^^ 35184305078276#64) >>> 46 &&& 65535#64)), (BitVec.setWidth 64 ((x ^^^ 35184305078276#64) >>> 27 &&& 262143#64)), (BitVec.setWidth 64 ((x ^^^ 35184305078276#64) >>> 45 &&& 1#64)), (0#64), (BitVec.setWidth 64 ((x ^^^ 35184305078276#64) >>> 0 &&& 16383#64)), (BitVec.setWidth 64 ((x ^^^ 35184305078276#64) >>> 14 &&& 4095#64)), (BitVec.setWidth 64 ((x ^^^ 35184305078276#64) >>> 26 &&& 1#64) == 1#64), (ad)⟩ : Cp))
theorem run_17 : ∀ (tag : Bool) (ad : BitVec 64) (x : BitVec 64), pureRun Try.prog C_16 F0 Try.f17 [.bool tag, .int .u64 ad, .int .u64 x] = some ((v_17 tag ad x).av) := fun tag ad x =>
 (show pureRun Try.prog C_16 F0 Try.f17 [.bool tag, .int .u64 ad, .int .u64 x] = (cond (BitVec.setWidth 64 ((x ^^^ 35184305078276#64) >>> 26 &&& 1#64) == 1#64)
 (some (AV.agg [(AV.bool (tag)), (AV.int (IntKind.i64) (BitVec.setWidth 64 ((x ^^^ 35184305078276#64) >>> 46 &&& 65535#64))), (AV.int (IntKind.i64) (BitVec.setWidth 64 ((x ^^^ 35184305078276#64) >>> 27 &&& 262143#64))), (AV.int (IntKind.i64) (BitVec.setWidth 64 ((x ^^^ 35184305078276#64) >>> 45 &&& 1#64))), (AV.int (IntKind.i64) (bif (52#64).slt ((BitVec.setWidth 64 ((x ^^^ 35184305078276#64) >>> 14 &&& 4095#64) &&& 7#64) <<< 3 ||| BitVec.setWidth 64 ((x ^^^ 35184305078276#64) >>> 0 &&& 16383#64) &&& 7#64) then 52#64 else (BitVec.setWidth 64 ((x ^^^ 35184305078276#64) >>> 14 &&& 4095#64) &&& 7#64) <<< 3 ||| BitVec.setWidth 64 ((x ^^^ 35184305078276#64) >>> 0 &&& 16383#64) &&& 7#64)), (AV.int (IntKind.i64) (BitVec.setWidth 64 ((x ^^^ 35184305078276#64) >>> 0 &&& 16383#64) &&& 18446744073709551608#64)), (AV.int (IntKind.i64) (BitVec.setWidth 64 ((x ^^^ 35184305078276#64) >>> 14 &&& 4095#64) &&& 18446744073709551608#64)), (AV.bool (BitVec.setWidth 64 ((x ^^^ 35184305078276#64) >>> 26 &&& 1#64) == 1#64)), (AV.int (IntKind.u64) (ad))]))
 (some (AV.agg [(AV.bool (tag)), (AV.int (IntKind.i64) (BitVec.setWidth 64 ((x ^^^ 35184305078276#64) >>> 46 &&& 65535#64))), (AV.int (IntKind.i64) (BitVec.setWidth 64 ((x ^^^ 35184305078276#64) >>> 27 &&& 262143#64))), (AV.int (IntKind.i64) (BitVec.setWidth 64 ((x ^^^ 35184305078276#64) >>> 45 &&& 1#64))), (AV.int (IntKind.i64) (0#64)), (AV.int (IntKind.i64) (BitVec.setWidth 64 ((x ^^^ 35184305078276#64) >>> 0 &&& 16383#64))), (AV.int (IntKind.i64) (BitVec.setWidth 64 ((x ^^^ 35184305078276#64) >>> 14 &&& 4095#64))), (AV.bool (BitVec.setWidth 64 ((x ^^^ 35184305078276#64) >>> 26 &&& 1#64) == 1#64)), (AV.int (IntKind.u64) (ad))]))) by kernel_rfl).trans ((mer _ (Cp.av) rfl rfl))
noncomputable def C_17 : Oracle := pureE 17 (pure3 dBool dU64 dU64 (fun tag ad x => (v_17 tag ad x).av)) C_16
theorem C_17_snd : Snd Try.prog C_17 := pureE_snd (pure3_ok (F := F0) C_16_snd Try.func17 (by kernel_rfl) run_17 (fun _ _ _ => rfl)) C_16_snd

def v_18 (tag : Bool) (ad : BitVec 64) (x : BitVec 64) : Cp :=
 (cond ((x % 4611686018427387904#64 ^^^ 35184305078276#64) / 16384#64 / 4096#64 % 2#64 == 1#64)
 (cond ((52#64).slt ((BitVec.setWidth 64 ((x % 4611686018427387904#64 ^^^ 35184305078276#64) / 16384#64 % 4096#64)).srem 8#64 * 8#64 + (BitVec.setWidth 64 ((x % 4611686018427387904#64 ^^^ 35184305078276#64) % 16384#64)).srem 8#64))
  (⟨(tag), (BitVec.setWidth 64 ((x % 4611686018427387904#64 ^^^ 35184305078276#64) / 16384#64 / 4096#64 / 2#64 / 262144#64 / 2#64)), (BitVec.setWidth 64 ((x % 4611686018427387904#64 ^^^ 35184305078276#64) / 16384#64 / 4096#64 / 2#64 % 262144#64)), (BitVec.setWidth 64 ((x % 4611686018427387904#64 ^^^ 35184305078276#64) / 16384#64 / 4096#64 / 2#64 / 262144#64 % 2#64)), (52#64), (BitVec.setWidth 64 ((x % 4611686018427387904#64 ^^^ 35184305078276#64) % 16384#64) - (BitVec.setWidth 64 ((x % 4611686018427387904#64 ^^^ 35184305078276#64) % 16384#64)).srem 8#64), (BitVec.setWidth 64 ((x % 4611686018427387904#64 ^^^ 35184305078276#64) / 16384#64 % 4096#64) - (BitVec.setWidth 64 ((x % 4611686018427387904#64 ^^^ 35184305078276#64) / 16384#64 % 4096#64)).srem 8#64), ((x % 4611686018427387904#64 ^^^ 35184305078276#64) / 16384#64 / 4096#64 % 2#64 == 1#64), (ad)⟩ : Cp)
  (⟨(tag), (BitVec.setWidth 64 ((x % 4611686018427387904#64 ^^^ 35184305078276#64) / 16384#64 / 4096#64 / 2#64 / 262144#64 / 2#64)), (BitVec.setWidth 64 ((x % 4611686018427387904#64 ^^^ 35184305078276#64) / 16384#64 / 4096#64 / 2#64 % 262144#64)), (BitVec.setWidth 64 ((x % 4611686018427387904#64 ^^^ 35184305078276#64) / 16384#64 / 4096#64 / 2#64 / 262144#64 % 2#64)), ((BitVec.setWidth 64 ((x % 4611686018427387904#64 ^^^ 35184305078276#64) / 16384#64 % 4096#64)).srem 8#64 * 8#64 + (BitVec.setWidth 64 ((x % 4611686018427387904#64 ^^^ 35184305078276#64) % 16384#64)).srem 8#64), (BitVec.setWidth 64 ((x % 4611686018427387904#64 ^^^ 35184305078276#64) % 16384#64) - (BitVec.setWidth 64 ((x % 4611686018427387904#64 ^^^ 35184305078276#64) % 16384#64)).srem 8#64), (BitVec.setWidth 64 ((x % 4611686018427387904#64 ^^^ 35184305078276#64) / 16384#64 % 4096#64) - (BitVec.setWidth 64 ((x % 4611686018427387904#64 ^^^ 35184305078276#64) / 16384#64 % 4096#64)).srem 8#64), ((x % 4611686018427387904#64 ^^^ 35184305078276#64) / 16384#64 / 4096#64 % 2#64 == 1#64), (ad)⟩ : Cp))
 (⟨(tag), (BitVec.setWidth 64 ((x % 4611686018427387904#64 ^^^ 35184305078276#64) / 16384#64 / 4096#64 / 2#64 / 262144#64 / 2#64)), (BitVec.setWidth 64 ((x % 4611686018427387904#64 ^^^ 35184305078276#64) / 16384#64 / 4096#64 / 2#64 % 262144#64)), (BitVec.setWidth 64 ((x % 4611686018427387904#64 ^^^ 35184305078276#64) / 16384#64 / 4096#64 / 2#64 / 262144#64 % 2#64)), (0#64), (BitVec.setWidth 64 ((x % 4611686018427387904#64 ^^^ 35184305078276#64) % 16384#64)), (BitVec.setWidth 64 ((x % 4611686018427387904#64 ^^^ 35184305078276#64) / 16384#64 % 4096#64)), ((x % 4611686018427387904#64 ^^^ 35184305078276#64) / 16384#64 / 4096#64 % 2#64 == 1#64), (ad)⟩ : Cp))
theorem run_18 : ∀ (tag : Bool) (ad : BitVec 64) (x : BitVec 64), pureRun Try.prog C_17 F0 Try.f18 [.bool tag, .int .u64 ad, .int .u64 x] = some ((v_18 tag ad x).av) := fun tag ad x =>
 (show pureRun Try.prog C_17 F0 Try.f18 [.bool tag, .int .u64 ad, .int .u64 x] = (cond ((x % 4611686018427387904#64 ^^^ 35184305078276#64) / 16384#64 / 4096#64 % 2#64 == 1#64)
 (cond ((52#64).slt ((BitVec.setWidth 64 ((x % 4611686018427387904#64 ^^^ 35184305078276#64) / 16384#64 % 4096#64)).srem 8#64 * 8#64 + (BitVec.setWidth 64 ((x % 4611686018427387904#64 ^^^ 35184305078276#64) % 16384#64)).srem 8#64))
  (some (AV.agg [(AV.bool (tag)), (AV.int (IntKind.i64) (BitVec.setWidth 64 ((x % 4611686018427387904#64 ^^^ 35184305078276#64) / 16384#64 / 4096#64 / 2#64 / 262144#64 / 2#64))), (AV.int (IntKind.i64) (BitVec.setWidth 64 ((x % 4611686018427387904#64 ^^^ 35184305078276#64) / 16384#64 / 4096#64 / 2#64 % 262144#64))), (AV.int (IntKind.i64) (BitVec.setWidth 64 ((x % 4611686018427387904#64 ^^^ 35184305078276#64) / 16384#64 / 4096#64 / 2#64 / 262144#64 % 2#64))), (AV.int (IntKind.i64) (52#64)), (AV.int (IntKind.i64) (BitVec.setWidth 64 ((x % 4611686018427387904#64 ^^^ 35184305078276#64) % 16384#64) - (BitVec.setWidth 64 ((x % 4611686018427387904#64 ^^^ 35184305078276#64) % 16384#64)).srem 8#64)), (AV.int (IntKind.i64) (BitVec.setWidth 64 ((x % 4611686018427387904#64 ^^^ 35184305078276#64) / 16384#64 % 4096#64) - (BitVec.setWidth 64 ((x % 4611686018427387904#64 ^^^ 35184305078276#64) / 16384#64 % 4096#64)).srem 8#64)), (AV.bool ((x % 4611686018427387904#64 ^^^ 35184305078276#64) / 16384#64 / 4096#64 % 2#64 == 1#64)), (AV.int (IntKind.u64) (ad))]))
  (some (AV.agg [(AV.bool (tag)), (AV.int (IntKind.i64) (BitVec.setWidth 64 ((x % 4611686018427387904#64 ^^^ 35184305078276#64) / 16384#64 / 4096#64 / 2#64 / 262144#64 / 2#64))), (AV.int (IntKind.i64) (BitVec.setWidth 64 ((x % 4611686018427387904#64 ^^^ 35184305078276#64) / 16384#64 / 4096#64 / 2#64 % 262144#64))), (AV.int (IntKind.i64) (BitVec.setWidth 64 ((x % 4611686018427387904#64 ^^^ 35184305078276#64) / 16384#64 / 4096#64 / 2#64 / 262144#64 % 2#64))), (AV.int (IntKind.i64) ((BitVec.setWidth 64 ((x % 4611686018427387904#64 ^^^ 35184305078276#64) / 16384#64 % 4096#64)).srem 8#64 * 8#64 + (BitVec.setWidth 64 ((x % 4611686018427387904#64 ^^^ 35184305078276#64) % 16384#64)).srem 8#64)), (AV.int (IntKind.i64) (BitVec.setWidth 64 ((x % 4611686018427387904#64 ^^^ 35184305078276#64) % 16384#64) - (BitVec.setWidth 64 ((x % 4611686018427387904#64 ^^^ 35184305078276#64) % 16384#64)).srem 8#64)), (AV.int (IntKind.i64) (BitVec.setWidth 64 ((x % 4611686018427387904#64 ^^^ 35184305078276#64) / 16384#64 % 4096#64) - (BitVec.setWidth 64 ((x % 4611686018427387904#64 ^^^ 35184305078276#64) / 16384#64 % 4096#64)).srem 8#64)), (AV.bool ((x % 4611686018427387904#64 ^^^ 35184305078276#64) / 16384#64 / 4096#64 % 2#64 == 1#64)), (AV.int (IntKind.u64) (ad))])))
 (some (AV.agg [(AV.bool (tag)), (AV.int (IntKind.i64) (BitVec.setWidth 64 ((x % 4611686018427387904#64 ^^^ 35184305078276#64) / 16384#64 / 4096#64 / 2#64 / 262144#64 / 2#64))), (AV.int (IntKind.i64) (BitVec.setWidth 64 ((x % 4611686018427387904#64 ^^^ 35184305078276#64) / 16384#64 / 4096#64 / 2#64 % 262144#64))), (AV.int (IntKind.i64) (BitVec.setWidth 64 ((x % 4611686018427387904#64 ^^^ 35184305078276#64) / 16384#64 / 4096#64 / 2#64 / 262144#64 % 2#64))), (AV.int (IntKind.i64) (0#64)), (AV.int (IntKind.i64) (BitVec.setWidth 64 ((x % 4611686018427387904#64 ^^^ 35184305078276#64) % 16384#64))), (AV.int (IntKind.i64) (BitVec.setWidth 64 ((x % 4611686018427387904#64 ^^^ 35184305078276#64) / 16384#64 % 4096#64))), (AV.bool ((x % 4611686018427387904#64 ^^^ 35184305078276#64) / 16384#64 / 4096#64 % 2#64 == 1#64)), (AV.int (IntKind.u64) (ad))]))) by kernel_rfl).trans ((mer _ (Cp.av) (mer _ (Cp.av) rfl rfl) rfl))
noncomputable def C_18 : Oracle := pureE 18 (pure3 dBool dU64 dU64 (fun tag ad x => (v_18 tag ad x).av)) C_17
theorem C_18_snd : Snd Try.prog C_18 := pureE_snd (pure3_ok (F := F0) C_17_snd Try.func18 (by kernel_rfl) run_18 (fun _ _ _ => rfl)) C_17_snd

def v_21 (m : BitVec 64) (n : BitVec 64) : Cp :=
 (cond (m == 1#64)
 (⟨(true), (65535#64), ((v_19 n).ty), (1#64), ((v_19 n).e), ((v_19 n).b), ((v_19 n).t), ((v_19 n).big), ((v_19 n).ad)⟩ : Cp)
 (⟨(true), (65535#64), ((v_19 n).ty), ((v_19 n).mo), ((v_19 n).e), ((v_19 n).b), ((v_19 n).t), ((v_19 n).big), ((v_19 n).ad)⟩ : Cp))
theorem run_21 : ∀ (m : BitVec 64) (n : BitVec 64), pureRun Try.prog C_18 F0 Try.f21 [.int .i64 m, .int .u64 n] = some ((v_21 m n).av) := fun m n =>
 (show pureRun Try.prog C_18 F0 Try.f21 [.int .i64 m, .int .u64 n] = (cond (m == 1#64)
 (some (AV.agg [(AV.bool (true)), (AV.int (IntKind.i64) (65535#64)), (AV.int (IntKind.i64) ((v_19 n).ty)), (AV.int (IntKind.i64) (1#64)), (AV.int (IntKind.i64) ((v_19 n).e)), (AV.int (IntKind.i64) ((v_19 n).b)), (AV.int (IntKind.i64) ((v_19 n).t)), (AV.bool ((v_19 n).big)), (AV.int (IntKind.u64) ((v_19 n).ad))]))
 (some (AV.agg [(AV.bool (true)), (AV.int (IntKind.i64) (65535#64)), (AV.int (IntKind.i64) ((v_19 n).ty)), (AV.int (IntKind.i64) ((v_19 n).mo)), (AV.int (IntKind.i64) ((v_19 n).e)), (AV.int (IntKind.i64) ((v_19 n).b)), (AV.int (IntKind.i64) ((v_19 n).t)), (AV.bool ((v_19 n).big)), (AV.int (IntKind.u64) ((v_19 n).ad))]))) by kernel_rfl).trans ((mer _ (Cp.av) rfl rfl))
noncomputable def C_21 : Oracle := pureE 21 (pure2 dI64 dU64 (fun m n => (v_21 m n).av)) C_18
theorem C_21_snd : Snd Try.prog C_21 := pureE_snd (pure2_ok (F := F0) C_18_snd Try.func21 (by kernel_rfl) run_21 (fun _ _ => rfl)) C_18_snd

def v_22 (m : BitVec 64) (n : BitVec 64) : Cp :=
 (cond (m == 1#64)
 (⟨(true), (65535#64), (262143#64), (1#64), (52#64), (0#64), (0#64), (true), (n)⟩ : Cp)
 (⟨(true), (65535#64), (262143#64), (0#64), (52#64), (0#64), (0#64), (true), (n)⟩ : Cp))
theorem run_22 : ∀ (m : BitVec 64) (n : BitVec 64), pureRun Try.prog C_21 F0 Try.f22 [.int .i64 m, .int .u64 n] = some ((v_22 m n).av) := fun m n =>
 (show pureRun Try.prog C_21 F0 Try.f22 [.int .i64 m, .int .u64 n] = (cond (m == 1#64)
 (some (AV.agg [(AV.bool (true)), (AV.int (IntKind.i64) (65535#64)), (AV.int (IntKind.i64) (262143#64)), (AV.int (IntKind.i64) (1#64)), (AV.int (IntKind.i64) (52#64)), (AV.int (IntKind.i64) (0#64)), (AV.int (IntKind.i64) (0#64)), (AV.bool (true)), (AV.int (IntKind.u64) (n))]))
 (some (AV.agg [(AV.bool (true)), (AV.int (IntKind.i64) (65535#64)), (AV.int (IntKind.i64) (262143#64)), (AV.int (IntKind.i64) (0#64)), (AV.int (IntKind.i64) (52#64)), (AV.int (IntKind.i64) (0#64)), (AV.int (IntKind.i64) (0#64)), (AV.bool (true)), (AV.int (IntKind.u64) (n))]))) by kernel_rfl).trans ((mer _ (Cp.av) rfl rfl))
noncomputable def C_22 : Oracle := pureE 22 (pure2 dI64 dU64 (fun m n => (v_22 m n).av)) C_21
theorem C_22_snd : Snd Try.prog C_22 := pureE_snd (pure2_ok (F := F0) C_21_snd Try.func22 (by kernel_rfl) run_22 (fun _ _ => rfl)) C_21_snd

def v_14  : Bool :=
 (true)
theorem run_14 : pureRun Try.prog C_22 F0 Try.f14 [] = some (.bool v_14) :=
 (show pureRun Try.prog C_22 F0 Try.f14 [] = (some (AV.bool (true))) by kernel_rfl).trans (rfl)
noncomputable def C_14 : Oracle := pureE 14 (pure0  (.bool v_14)) C_22
theorem C_14_snd : Snd Try.prog C_14 := pureE_snd (pure0_ok (F := F0) C_22_snd Try.func14 (by kernel_rfl) run_14 rfl) C_22_snd

end Go.Proofs.Ytckpnfngkncanaa

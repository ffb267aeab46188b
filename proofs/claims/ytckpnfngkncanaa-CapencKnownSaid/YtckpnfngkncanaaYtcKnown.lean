/- The closed law of capabilities' numbers: run by the kernel, with the open laws already known. -/
import Derived.Test.YtckpnfngkncanaaYtcPlain4
set_option linter.unusedSimpArgs false
set_option linter.unusedVariables false
namespace Go.Proofs.Ytckpnfngkncanaa
open Go Go.Sx
set_option maxRecDepth 100000
noncomputable def L_3 : Oracle := pureE 3 (pure1 dCp (fun _ => .bool true)) C_14
theorem L_3_snd : Snd Try.prog L_3 := pureE_snd (pure1_ok (F := F0) C_14_snd Try.func3 (by kernel_rfl) (fun c => (run_3 c).trans (congrArg (fun b => some (AV.bool b)) (packs c))) (fun _ => rfl)) C_14_snd
noncomputable def L_4 : Oracle := pureE 4 (pure3 dBool dU64 dU64 (fun _ _ _ => .bool true)) L_3
theorem L_4_snd : Snd Try.prog L_4 := pureE_snd (pure3_ok (F := F0) C_3_snd Try.func4 (by kernel_rfl) (fun tag ad x => (run_4 tag ad x).trans (congrArg (fun b => some (AV.bool b)) (unpacks tag ad x))) (fun _ _ _ => rfl)) L_3_snd
noncomputable def L_5 : Oracle := pureE 5 (pure1 dCp (fun _ => .bool true)) L_4
theorem L_5_snd : Snd Try.prog L_5 := pureE_snd (pure1_ok (F := F0) C_4_snd Try.func5 (by kernel_rfl) (fun c => (run_5 c).trans (congrArg (fun b => some (AV.bool b)) (back c))) (fun _ => rfl)) L_4_snd
noncomputable def L_6 : Oracle := pureE 6 (pure3 dBool dU64 dU64 (fun _ _ _ => .bool true)) L_5
theorem L_6_snd : Snd Try.prog L_6 := pureE_snd (pure3_ok (F := F0) C_5_snd Try.func6 (by kernel_rfl) (fun tag ad x => (run_6 tag ad x).trans (congrArg (fun b => some (AV.bool b)) (forms tag ad x))) (fun _ _ _ => rfl)) L_5_snd
noncomputable def L_7 : Oracle := pureE 7 (pure2 dCp dCp (fun _ _ => .bool true)) L_6
theorem L_7_snd : Snd Try.prog L_7 := pureE_snd (pure2_ok (F := F0) C_6_snd Try.func7 (by kernel_rfl) (fun c d => (run_7 c d).trans (congrArg (fun b => some (AV.bool b)) (apart c d))) (fun _ _ => rfl)) L_6_snd
noncomputable def L_8 : Oracle := pureE 8 (pure3 dCp dCp dI64 (fun _ _ _ => .bool true)) L_7
theorem L_8_snd : Snd Try.prog L_8 := pureE_snd (pure3_ok (F := F0) C_7_snd Try.func8 (by kernel_rfl) (fun c d f => (run_8 c d f).trans (congrArg (fun b => some (AV.bool b)) (fields c d f))) (fun _ _ _ => rfl)) L_7_snd
noncomputable def L_9 : Oracle := pureE 9 (pure2 dI64 dU64 (fun _ _ => .bool true)) L_8
theorem L_9_snd : Snd Try.prog L_9 := pureE_snd (pure2_ok (F := F0) C_8_snd Try.func9 (by kernel_rfl) (fun m n => (run_9 m n).trans (congrArg (fun b => some (AV.bool b)) (makes m n))) (fun _ _ => rfl)) L_8_snd
noncomputable def L_10 : Oracle := pureE 10 (pure3 dU64 dU64 dI64 (fun _ _ _ => .bool true)) L_9
theorem L_10_snd : Snd Try.prog L_10 := pureE_snd (pure3_ok (F := F0) C_9_snd Try.func10 (by kernel_rfl) (fun n k m => (run_10 n k m).trans (congrArg (fun b => some (AV.bool b)) (numbers n k m))) (fun _ _ _ => rfl)) L_9_snd
theorem known : pureRun Try.prog L_10 F0 Try.f11 [] = some (.bool true) := by kernel_rfl
end Go.Proofs.Ytckpnfngkncanaa

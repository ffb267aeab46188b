/- Lay, as an answer; new memory is not reckoned with. -/
import Derived.Test.YtkbcfbehebbmhaaVl21c
set_option linter.unusedSimpArgs false
set_option linter.unusedVariables false
set_option linter.unnecessarySimpa false
namespace Go.Sx
open Go
def bClint0 : Blk := bClint 0#64 18446744073709551615#64 0#64
def bPlic0 : Blk := bPlic (List.replicate 32 [.int .u32 0#32]) 0#32 0#32 [[.int .u32 0#32], [.int .u32 0#32]] [[.int .u32 0#32], [.int .u32 0#32]]
def bUart0 : Blk := bUart (List.replicate 16 [.int .u8 0#8]) 0#64 0#64 false
def bPow0 : Blk := bPow false
theorem zB_ex : ∃ l : List (List AV), l = zB 12288 := ⟨_, rfl⟩
theorem zT_ex : ∃ l : List (List AV), l = zT := ⟨_, rfl⟩
noncomputable def v_zB : List (List AV) := zB_ex.choose
noncomputable def v_zT : List (List AV) := zT_ex.choose
theorem zB_eq : v_zB = zB 12288 := zB_ex.choose_spec
theorem zT_eq : v_zT = zT := zT_ex.choose_spec
def g_lz (na ma : Nat) : Bool := Nat.ble na ma && Nat.blt na 9223372036854775808
noncomputable def mlzCps : ECps MlzS MlzR := fun R x K => match x with
  | .a rw na ma da => cond (g_lz na ma) (K (.a rw ma da 12288 (v_lyT 12288 v_zT (v_lyR na da 0)) 12288 (v_lyD 12288 v_zB (v_lyR na da 0)) bus1 bClint0 bPlic0 bUart0 bPow0)) none
  | .n => K (.n 12288 v_zT 12288 v_zB bus0 bClint0 bPlic0 bUart0 bPow0)
theorem rok_zero : Rok 12288 zT (zB 12288) := { ld := List.length_replicate, lg := rfl, lo := by decide, hi := by decide }
theorem mlzCps_ok : ECok mlzStep mlzCps := by
  intro R x K r h
  cases x with
  | a rw na ma da =>
    obtain ⟨hg, hk⟩ := condK h
    rw [zB_eq, zT_eq] at hk
    refine ⟨_, ?_, hk⟩
    unfold g_lz at hg
    unfold mlzStep
    dsimp only
    rw [show g_ly 12288 zT 12288 (zB 12288) na ma 0#64 = true by unfold g_ly; rw [rok_zero.ram]; rw [Bool.and_eq_true] at hg; rw [hg.1, hg.2]; rfl]
    rfl
  | n =>
    unfold mlzCps at h
    dsimp only at h
    rw [zB_eq, zT_eq] at h
    exact ⟨_, rfl, h⟩
end Go.Sx

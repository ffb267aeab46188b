/- Plain laws of what is made of capabilities: sealing and opening. -/
import Derived.Test.YtampipogplbobaaPlCap
set_option linter.unusedSimpArgs false
set_option linter.unusedVariables false
set_option linter.unnecessarySimpa false
namespace Go.Sx
open Go
set_option maxHeartbeats 1000000
theorem uleNot (x y : BitVec 64) : x.ule y = !(y.ult x) := by
  rw [uleN, ultN, Bool.eq_iff_iff]; simp
/-- A bit that is taken out, laid back. -/
theorem back1 (p q : BitVec 64) : (p &&& (q ||| 18446744073709551614#64)) ||| (p &&& 1#64) = p := by
  apply BitVec.eq_of_getLsbD_eq
  intro i hi
  have h1 : ∀ j : Fin 64, (18446744073709551614#64).getLsbD j.val = !(1#64).getLsbD j.val := by decide
  rw [BitVec.getLsbD_or, BitVec.getLsbD_and, BitVec.getLsbD_and, BitVec.getLsbD_or, h1 ⟨i, hi⟩]
  simp only
  cases p.getLsbD i <;> cases q.getLsbD i <;> cases (1#64).getLsbD i <;> rfl
theorem seals (c y o : Cp) : t_l05_CapopsSeals c y o = some (.bool true) := by
  have hc := right_e c
  have hy := right_e y
  have ho := right_e o
  unfold t_l05_CapopsSeals
  generalize v_l05_Right c = c at *
  generalize v_l05_Right y = y at *
  generalize v_l05_Right o = o at *
  simp only [g_seal_ok hy, g_Of_ok hy, g_Of_ok ho, g_unseal_ok ho, cond_true]
  have e1 : canSeal c y = (c.tag && ((c.ty == 262143#64) && ((y.tag && ((y.ty == 262143#64) && (!(y.per &&& 128#64 == 0#64) && v_bounds_In (v_bounds_Of y) y.ad 1#64))) && y.ad.ule 262135#64))) := by
    unfold canSeal; rw [seals_of, uleNot]
  have nocase : canSeal c y = false → v_capops_Seal c y = { c with tag := false } := fun h => by rw [seal_of, h]; rfl
  cases hcan : canSeal c y with
  | false =>
    rw [nocase hcan]
    rw [hcan] at e1
    revert e1
    generalize v_bounds_In (v_bounds_Of y) y.ad 1#64 = i
    generalize (y.per &&& 128#64 == 0#64) = p
    generalize (y.ty == 262143#64) = u
    generalize y.tag = t
    generalize y.ad.ule 262135#64 = l
    cases h1 : c.tag <;> cases h2 : (c.ty == 262143#64) <;> cases t <;> cases u <;> cases p <;> cases i <;> cases l <;> simp
  | true =>
    rw [hcan] at e1
    have e1 := e1.symm
    simp only [Bool.and_eq_true, Bool.not_eq_true'] at e1
    obtain ⟨a1, a2, ⟨a3, a4, a5, a6⟩, a7⟩ := e1
    have hS : v_capops_Seal c y = { c with ty := y.ad, tag := true } := by rw [seal_of, hcan, cond_true, a1]
    have hle : y.ad.toNat ≤ 262135 := by
      rw [uleN] at a7; simpa using a7
    have hns : (y.ad == 262143#64) = false := by
      rw [beqN]; simp; omega
    have hslt : (262135#64).slt y.ad = false := by
      rw [sltL _ _ (by decide)]; simp; omega
    have hcty : c.ty = 262143#64 := by simpa using a2
    have e2 : canUnseal { c with ty := y.ad, tag := true } o = (o.tag && ((o.ty == 262143#64) && (!(o.per &&& 256#64 == 0#64) && (v_bounds_In (v_bounds_Of o) o.ad 1#64 && (o.ad == y.ad))))) := by
      unfold canUnseal
      simp only [a1, hslt, seals_of, Bool.true_and, Bool.not_false, Bool.and_assoc]
    rw [hS]
    simp only [a1, a2, a3, a4, a5, a6, a7, sealed_of, hns, unseal_of, e2, Bool.not_true, Bool.not_false, cond_true, cond_false, BitVec.setWidth_eq, beq_self_eq_true]
    cases h1 : o.tag <;> cases h2 : (o.ty == 262143#64) <;> cases h3 : (o.per &&& 256#64 == 0#64) <;> cases h4 : (o.ad == y.ad) <;> cases h5 : v_bounds_In (v_bounds_Of o) o.ad 1#64 <;> simp [a1, hcty, back1]
end Go.Sx

/- Plain laws of ranges: what is in one, within one, as numbers. -/
import Derived.Test.YtgmemioomkbofaaPlB
set_option linter.unusedSimpArgs false
set_option linter.unusedVariables false
set_option linter.unnecessarySimpa false
namespace Go.Sx
open Go
def W2.val (a : W2) : Nat := a.hi.toNat * 18446744073709551616 + a.lo.toNat
def Rg.end' (r : Rg) : Nat := r.top.toNat + cond r.over 18446744073709551616 0
theorem truthN (b : Bool) : (v_bounds_truth b).toNat = cond b 1 0 := by cases b <;> rfl
theorem topN (r : Rg) : (v_bounds_top r).val = r.end' := by
  unfold v_bounds_top W2.val Rg.end'
  simp only [BitVec.signExtend_eq, truthN]
  cases r.over <;> simp <;> omega
theorem top_hi (r : Rg) : (v_bounds_top r).hi.toNat < 2 := by
  unfold v_bounds_top
  simp only [BitVec.signExtend_eq, truthN]
  cases r.over <;> simp
theorem aboveN (a b : W2) : v_bounds_number_above a b = decide (b.val < a.val) := by
  have h1 := a.lo.isLt
  have h2 := b.lo.isLt
  unfold v_bounds_number_above W2.val
  simp only [ultN, beqN]
  rw [Bool.eq_iff_iff]
  by_cases h : b.hi.toNat < a.hi.toNat
  · rw [decide_eq_true h, cond_true]; simp; omega
  · rw [decide_eq_false h, cond_false]
    by_cases h' : a.hi.toNat = b.hi.toNat
    · rw [decide_eq_true h', cond_true]; simp; omega
    · rw [decide_eq_false h', cond_false]; simp; omega
/-- A sum of two words below 2^65. -/
theorem plusLoN (x y : BitVec 64) : (v_bounds_number_plus ⟨0#64, x⟩ ⟨0#64, y⟩).val = x.toNat + y.toNat := by
  have h1 := x.isLt
  have h2 := y.isLt
  unfold v_bounds_number_plus W2.val
  simp only [ultN, BitVec.toNat_add]
  by_cases h : (x.toNat + y.toNat) % 2 ^ 64 < x.toNat
  · rw [decide_eq_true h, cond_true]
    show (1#64).toNat * _ + _ = _
    rw [show (1#64).toNat = 1 from rfl]; omega
  · rw [decide_eq_false h, cond_false]
    show (0#64).toNat * _ + _ = _
    rw [show (0#64).toNat = 0 from rfl]; omega
theorem inN (r : Rg) (a n : BitVec 64) : v_bounds_In r a n = decide (n.toNat < 9223372036854775808 ∧ r.base.toNat ≤ a.toNat ∧ a.toNat + n.toNat ≤ r.end') := by
  unfold v_bounds_In
  rw [aboveN, topN, BitVec.signExtend_eq, plusLoN, sleL _ _ (by decide), uleN]
  simp only [show (0#64).toNat = 0 from rfl]
  rw [Bool.eq_iff_iff]
  by_cases h : n.toNat < 9223372036854775808
  · rw [decide_eq_true (by omega), cond_true]
    by_cases h' : r.base.toNat ≤ a.toNat
    · rw [decide_eq_true h', cond_true]; simp; omega
    · rw [decide_eq_false h', cond_false]; simp; omega
  · rw [decide_eq_false (by omega), cond_false]; simp; omega
theorem withinN (a b : Rg) : v_bounds_Within a b = decide (b.base.toNat ≤ a.base.toNat ∧ a.end' ≤ b.end') := by
  unfold v_bounds_Within
  rw [aboveN, topN, topN, uleN, Bool.eq_iff_iff]
  by_cases h' : b.base.toNat ≤ a.base.toNat
  · rw [decide_eq_true h', cond_true]; simp; omega
  · rw [decide_eq_false h', cond_false]; simp; omega
theorem in_within {a b : Rg} {x n : BitVec 64} (hw : v_bounds_Within a b = true) (hi : v_bounds_In a x n = true) : v_bounds_In b x n = true := by
  rw [withinN] at hw; rw [inN] at hi ⊢
  simp at hw hi ⊢; omega
theorem within_trans {a b c : Rg} (h1 : v_bounds_Within a b = true) (h2 : v_bounds_Within b c = true) : v_bounds_Within a c = true := by
  rw [withinN] at *; simp at *; omega
theorem within_refl (a : Rg) : v_bounds_Within a a = true := by rw [withinN]; simp
end Go.Sx

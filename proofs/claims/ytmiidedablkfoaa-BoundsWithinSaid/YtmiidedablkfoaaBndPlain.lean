/- The plain laws of ranges. -/
import Derived.Test.YtmiidedablkfoaaBndVals
import Derived.Test.YtmiidedablkfoaaSxPlain
set_option linter.unusedSimpArgs false
set_option linter.unusedVariables false
namespace Go.Proofs.Ytmiidedablkfoaa
open Go Go.Sx

/-- A range's upper end, as a number that may be 2^64 and more. -/
def topN (r : Rg) : Nat := r.top.toNat + (if r.over = true then 18446744073709551616 else 0)

theorem v9_iff (r s : Rg) : v_9 r s = true ↔ s.base.toNat ≤ r.base.toNat ∧ topN r ≤ topN s := by
  obtain ⟨b, t, o⟩ := r
  obtain ⟨b', t', o'⟩ := s
  have := t.isLt; have := t'.isLt
  simp only [v_9, topN, ultN, uleN]
  by_cases hb : b'.toNat ≤ b.toNat
  · cases o <;> cases o' <;> simp [hb] <;> omega
  · simp [hb]
theorem v10_iff (r s : Rg) : v_10 r s = true ↔ s.base.toNat ≤ r.base.toNat ∧ topN r ≤ topN s := by
  obtain ⟨b, t, o⟩ := r
  obtain ⟨b', t', o'⟩ := s
  have := t.isLt; have := t'.isLt
  simp only [v_10, topN, ultN, uleN]
  by_cases hb : b'.toNat ≤ b.toNat
  · cases o <;> cases o' <;> simp [hb] <;> omega
  · simp [hb]
theorem v8_iff (r : Rg) (x n : BitVec 64) : v_8 r x n = true ↔ n.toNat < 9223372036854775808 ∧ r.base.toNat ≤ x.toNat ∧ x.toNat + n.toNat ≤ topN r := by
  obtain ⟨b, t, o⟩ := r
  have := t.isLt; have hx := x.isLt; have := n.isLt
  have hs : (x + n).toNat = if x.toNat + n.toNat < 18446744073709551616 then x.toNat + n.toNat else x.toNat + n.toNat - 18446744073709551616 := by
    rw [BitVec.toNat_add]; split <;> omega
  have hc : (x + n).ult x = decide (18446744073709551616 ≤ x.toNat + n.toNat) := by
    rw [ultN, hs]; congr 1; simp only [eq_iff_iff]; split <;> omega
  simp only [v_8, topN, BitVec.signExtend_eq, hc]
  by_cases h : 18446744073709551616 ≤ x.toNat + n.toNat
  · rw [if_neg (by omega)] at hs
    simp only [decide_eq_true h, cond_true, uleN, ultN, hs, sltR _ _ (show (0#64).toNat < 9223372036854775808 by decide)]
    cases o <;> simp <;> omega
  · rw [if_pos (by omega)] at hs
    simp only [decide_eq_false h, cond_false, uleN, ultN, hs, sltR _ _ (show (0#64).toNat < 9223372036854775808 by decide)]
    cases o <;> simp <;> omega
theorem v7_8 (r : Rg) (x n : BitVec 64) : v_7 r x n = v_8 r x n := by
  obtain ⟨b, t, o⟩ := r
  have k1 : (1#64).ult ((0#64 + 1#64) &&& 1#64) = false := by decide
  have k2 : ((0#64 + 1#64) &&& 1#64 == 1#64) = true := by decide
  have k3 : (1#64).ult ((0#64 + 0#64) &&& 1#64) = false := by decide
  have k4 : ((0#64 + 0#64) &&& 1#64 == 1#64) = false := by decide
  have k5 : (0#64).ult ((0#64 + 1#64) &&& 1#64) = true := by decide
  have k6 : (0#64).ult ((0#64 + 0#64) &&& 1#64) = false := by decide
  have k7 : ((0#64 + 0#64) &&& 1#64 == 0#64) = true := by decide
  have g1 : n.slt 0#64 = !((0#64).sle n) := by
    rw [sltR _ _ (by decide), sleL _ _ (by decide), Bool.eq_iff_iff]; simp
  have g2 : x.ult b = !(b.ule x) := by rw [ultN, uleN, Bool.eq_iff_iff]; simp
  have g3 : ∀ y : BitVec 64, y.ule t = !(t.ult y) := fun y => by rw [ultN, uleN, Bool.eq_iff_iff]; simp
  simp only [v_7, v_8, g1, g2, g3]
  generalize (x + BitVec.signExtend 64 n).ult x = c
  generalize (0#64).sle n = p
  generalize b.ule x = q
  generalize t.ult (x + BitVec.signExtend 64 n) = u
  cases c <;> cases o <;> cases p <;> cases q <;> simp only [cond_true, cond_false, k1, k2, k3, k4, k5, k6, k7, Bool.not_true, Bool.not_false]
theorem v7_iff (r : Rg) (x n : BitVec 64) : v_7 r x n = true ↔ n.toNat < 9223372036854775808 ∧ r.base.toNat ≤ x.toNat ∧ x.toNat + n.toNat ≤ topN r := by rw [v7_8, v8_iff]
theorem len_eq (r : Rg) : v_11 r = v_12 r := by
  obtain ⟨b, t, o⟩ := r
  have g : (!(b.ult t)) = t.ule b := by rw [ultN, uleN, Bool.eq_iff_iff]; simp
  simp only [v_11, v_12, g]
theorem ins (r s : Rg) (x n : BitVec 64) : v_3 r s x n = true := by
  have h1 : v_7 r x n = v_8 r x n := by rw [Bool.eq_iff_iff, v7_iff, v8_iff]
  have h2 : v_9 r s = v_10 r s := by rw [Bool.eq_iff_iff, v9_iff, v10_iff]
  simp [v_3, h1, h2, len_eq]
end Go.Proofs.Ytmiidedablkfoaa

/- Plain laws of bounds that are laid: numbers cut down. -/
import Derived.Test.YtgmemioomkbofaaPlOf2
set_option linter.unusedSimpArgs false
set_option linter.unusedVariables false
set_option linter.unnecessarySimpa false
namespace Go.Sx
open Go
set_option maxHeartbeats 1000000
theorem wbit_is : v_r03_wide_bit = wbit := rfl
theorem wbit_val (w : W2) (hh : w.hi.toNat < 2) (i : BitVec 64) (hi : i.toNat < 9223372036854775808) : (wbit w i).toNat = w.val / 2 ^ i.toNat % 2 := by
  have hl := w.lo.isLt
  unfold wbit W2.val
  rw [beqN, sltL _ _ (by decide), BitVec.signExtend_eq]
  simp only [show (64#64).toNat = 64 from rfl]
  by_cases h1 : i.toNat = 64
  · rw [decide_eq_true h1, cond_true, h1]; omega
  · rw [decide_eq_false h1, cond_false]
    by_cases h2 : 64 < i.toNat
    · rw [decide_eq_true ⟨h2, hi⟩, cond_true]
      have h3 : 2 ^ 65 ≤ 2 ^ i.toNat := Nat.pow_le_pow_right (by decide) (by omega)
      rw [Nat.div_eq_of_lt (by omega)]; rfl
    · rw [decide_eq_false (by omega), cond_false, Nat.min_eq_left (by omega), BitVec.toNat_umod, BitVec.toNat_ushiftRight, Nat.shiftRight_eq_div_pow]
      have h3 : (18446744073709551616 : Nat) = 2 ^ (63 - i.toNat) * 2 * 2 ^ i.toNat := by
        rw [Nat.mul_assoc, ← Nat.pow_succ', ← Nat.pow_add, show 63 - i.toNat + (i.toNat + 1) = 64 by omega]
      rw [h3, ← Nat.mul_assoc, Nat.add_comm, Nat.add_mul_div_right _ _ (Nat.two_pow_pos _), ← Nat.mul_assoc]
      show w.lo.toNat / 2 ^ i.toNat % 2 = _
      omega
theorem val_lt (w : W2) (hh : w.hi.toNat < 2) : w.val < 36893488147419103232 := by
  have hl := w.lo.isLt
  unfold W2.val; omega
theorem mod_step (y k : Nat) : (y % 2 ^ (k + 1) ≠ 0) ↔ (y % 2 = 1 ∨ y / 2 % 2 ^ k ≠ 0) := by
  have e2 : y % 2 ^ (k + 1) = y % 2 + 2 * (y / 2 % 2 ^ k) := by rw [Nat.pow_succ, Nat.mul_comm, Nat.mod_mul]
  rw [e2]
  generalize y / 2 % 2 ^ k = z
  omega
theorem cutAny_val (w : W2) (hh : w.hi.toNat < 2) (k : Nat) : ∀ (i : BitVec 64) (l : Bool), i.toNat + k < 1000 → cutAny k w i l = (l || decide (w.val / 2 ^ i.toNat % 2 ^ k ≠ 0)) := by
  induction k with
  | zero => intro i l _; unfold cutAny; rw [Nat.pow_zero, Nat.mod_one]; simp
  | succ k ih =>
    intro i l h
    have hi : (i + 1#64).toNat = i.toNat + 1 := by rw [BitVec.toNat_add, show (1#64).toNat = 1 from rfl]; omega
    unfold cutAny
    rw [ih (i + 1#64) _ (by omega), hi, beqN, wbit_val w hh i (by omega), show (1#64).toNat = 1 from rfl]
    have e1 : w.val / 2 ^ (i.toNat + 1) = w.val / 2 ^ i.toNat / 2 := by rw [Nat.pow_succ, Nat.div_div_eq_div_mul]
    rw [e1]
    generalize w.val / 2 ^ i.toNat = y
    have e2 := mod_step y k
    cases l with
    | true => rw [cond_true, Bool.true_or, Bool.true_or]
    | false =>
      rw [cond_false, Bool.false_or, Bool.eq_iff_iff, Bool.or_eq_true, decide_eq_true_iff, decide_eq_true_iff, decide_eq_true_iff]
      exact e2.symm
theorem cut_val (x : W2) (hh : x.hi.toNat < 2) (n : BitVec 64) (hn : n.toNat ≤ 60) : v_r03_cut x n = (BitVec.ofNat 64 (x.val / 2 ^ n.toNat % 2048), decide (x.val % 2 ^ n.toNat ≠ 0)) := by
  have hm : (n.toInt - (0#64).toInt).toNat = n.toNat := by
    rw [BitVec.toInt_eq_toNat_cond, BitVec.toInt_eq_toNat_cond]
    simp only [show (0#64).toNat = 0 from rfl]
    split <;> split <;> omega
  have hL : (v_cutl_loop { n := n, a4 := 0#64, a5 := false, lost := false, i := 0#64, w := x }).lost = decide (x.val % 2 ^ n.toNat ≠ 0) := by
    unfold v_cutl_loop cutlM
    simp only
    rw [hm, cutAny_val x hh n.toNat 0#64 false (by simp; omega)]
    simp
  have hb : ∀ (j : Nat), j < 11 → (wbit x (n + BitVec.ofNat 64 j)).toNat = x.val / 2 ^ n.toNat / 2 ^ j % 2 := by
    intro j hj
    have e : (n + BitVec.ofNat 64 j).toNat = n.toNat + j := by rw [BitVec.toNat_add, BitVec.toNat_ofNat]; omega
    rw [wbit_val x hh _ (by omega), e, Nat.pow_add, Nat.div_div_eq_div_mul]
  have h0 := hb 0 (by omega)
  have h1 := hb 1 (by omega)
  have h2 := hb 2 (by omega)
  have h3 := hb 3 (by omega)
  have h4 := hb 4 (by omega)
  have h5 := hb 5 (by omega)
  have h6 := hb 6 (by omega)
  have h7 := hb 7 (by omega)
  have h8 := hb 8 (by omega)
  have h9 := hb 9 (by omega)
  have h10 := hb 10 (by omega)
  have hw : (v_cutl_loop { n := n, a4 := 0#64, a5 := false, lost := false, i := 0#64, w := x }).w = x := rfl
  have hN : (v_cutl_loop { n := n, a4 := 0#64, a5 := false, lost := false, i := 0#64, w := x }).n = n := rfl
  unfold v_r03_cut
  simp only [hL, hw, hN, wbit_is, BitVec.setWidth_eq, BitVec.shiftLeft_zero]
  rw [Prod.mk.injEq]
  refine ⟨?_, rfl⟩
  apply BitVec.eq_of_toNat_eq
  generalize x.val / 2 ^ n.toNat = y at *
  simp only [BitVec.toNat_add, BitVec.toNat_shiftLeft, BitVec.toNat_ofNat, Nat.shiftLeft_eq, h0, h1, h2, h3, h4, h5, h6, h7, h8, h9, h10]
  have sm : ∀ j, y % 2 ^ (j + 1) = y % 2 ^ j + y / 2 ^ j % 2 * 2 ^ j := fun j => by rw [Nat.mod_pow_succ, Nat.mul_comm]
  have lt : ∀ j, y / 2 ^ j % 2 < 2 := fun j => Nat.mod_lt _ (by decide)
  have s0 := sm 0
  have l0 := lt 0
  have s1 := sm 1
  have l1 := lt 1
  have s2 := sm 2
  have l2 := lt 2
  have s3 := sm 3
  have l3 := lt 3
  have s4 := sm 4
  have l4 := lt 4
  have s5 := sm 5
  have l5 := lt 5
  have s6 := sm 6
  have l6 := lt 6
  have s7 := sm 7
  have l7 := lt 7
  have s8 := sm 8
  have l8 := lt 8
  have s9 := sm 9
  have l9 := lt 9
  have s10 := sm 10
  have l10 := lt 10
  have z0 : y % 2 ^ 0 = 0 := Nat.mod_one y
  rw [show (2048 : Nat) = 2 ^ (10 + 1) from rfl]
  generalize y / 2 ^ 0 % 2 = d0 at *
  generalize y / 2 ^ 1 % 2 = d1 at *
  generalize y / 2 ^ 2 % 2 = d2 at *
  generalize y / 2 ^ 3 % 2 = d3 at *
  generalize y / 2 ^ 4 % 2 = d4 at *
  generalize y / 2 ^ 5 % 2 = d5 at *
  generalize y / 2 ^ 6 % 2 = d6 at *
  generalize y / 2 ^ 7 % 2 = d7 at *
  generalize y / 2 ^ 8 % 2 = d8 at *
  generalize y / 2 ^ 9 % 2 = d9 at *
  generalize y / 2 ^ 10 % 2 = d10 at *
  clear hb h0 h1 h2 h3 h4 h5 h6 h7 h8 h9 h10 hL hw hN hm sm lt
  simp only [Nat.zero_add, Nat.reduceAdd] at s0 s1 s2 s3 s4 s5 s6 s7 s8 s9 s10 ⊢
  generalize y % 2 ^ 0 = e0 at *
  generalize y % 2 ^ 1 = e1 at *
  generalize y % 2 ^ 2 = e2 at *
  generalize y % 2 ^ 3 = e3 at *
  generalize y % 2 ^ 4 = e4 at *
  generalize y % 2 ^ 5 = e5 at *
  generalize y % 2 ^ 6 = e6 at *
  generalize y % 2 ^ 7 = e7 at *
  generalize y % 2 ^ 8 = e8 at *
  generalize y % 2 ^ 9 = e9 at *
  generalize y % 2 ^ 10 = e10 at *
  generalize y % 2 ^ 11 = e11 at *
  simp only [Nat.reducePow] at *
  omega
end Go.Sx

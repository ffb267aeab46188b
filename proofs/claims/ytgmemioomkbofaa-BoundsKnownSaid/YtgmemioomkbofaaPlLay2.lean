/- Plain laws of bounds that are laid: the program's are the document's. -/
import Derived.Test.YtgmemioomkbofaaPlLay
set_option linter.unusedSimpArgs false
set_option linter.unusedVariables false
set_option linter.unnecessarySimpa false
namespace Go.Sx
open Go
set_option maxHeartbeats 1000000
theorem and2047 (x : BitVec 64) : (x &&& 2047#64).toNat = x.toNat % 2048 := andK x 11 (by omega)
theorem pow_split {k : Nat} (hk : k ≤ 64) : (18446744073709551616 : Nat) = 2 ^ (64 - k) * 2 ^ k := by
  rw [← Nat.pow_add, show 64 - k + k = 64 by omega]
theorem down_val (x : W2) (hh : x.hi.toNat < 2) (k : BitVec 64) (h1 : 1 ≤ k.toNat) (h2 : k.toNat ≤ 60) :
    ((v_bounds_number_down x k).1.lo &&& 2047#64) = BitVec.ofNat 64 (x.val / 2 ^ k.toNat % 2048) ∧ (v_bounds_number_down x k).2 = decide (x.val % 2 ^ k.toNat ≠ 0) := by
  have hl := x.lo.isLt
  have hk0 : (k == 0#64) = false := by rw [beqN]; simp; omega
  have hk : (64#64 - k).toNat = 64 - k.toNat := by rw [BitVec.toNat_sub, show (64#64).toNat = 64 from rfl]; omega
  have hp := pow_split (k := k.toNat) (by omega)
  have hp0 := Nat.two_pow_pos k.toNat
  have hq2 : 2 ^ 4 ≤ 2 ^ (64 - k.toNat) := Nat.pow_le_pow_right (by decide) (by omega)
  have hq3 : 2 ^ (64 - k.toNat) ≤ 2 ^ 63 := Nat.pow_le_pow_right (by decide) (by omega)
  have e1 : x.val / 2 ^ k.toNat = x.hi.toNat * 2 ^ (64 - k.toNat) + x.lo.toNat / 2 ^ k.toNat := by
    unfold W2.val
    rw [hp, ← Nat.mul_assoc, Nat.add_comm, Nat.add_mul_div_right _ _ hp0, Nat.add_comm]
  have e2 : x.val % 2 ^ k.toNat = x.lo.toNat % 2 ^ k.toNat := by
    unfold W2.val
    rw [hp, ← Nat.mul_assoc, Nat.add_comm, Nat.add_mul_mod_self_right]
  have hlo : x.lo.toNat / 2 ^ k.toNat < 2 ^ (64 - k.toNat) := by
    rw [Nat.div_lt_iff_lt_mul hp0, ← hp]; exact hl
  unfold v_bounds_number_down
  rw [hk0, cond_false, hk, Nat.min_eq_left (by omega), Nat.min_eq_left (by omega)]
  constructor
  · apply BitVec.eq_of_toNat_eq
    have s1 : (x.lo >>> k.toNat).toNat = x.lo.toNat / 2 ^ k.toNat := by rw [BitVec.toNat_ushiftRight, Nat.shiftRight_eq_div_pow]
    have s2 : (x.hi <<< (64 - k.toNat)).toNat = x.hi.toNat * 2 ^ (64 - k.toNat) := by
      rw [BitVec.toNat_shiftLeft, Nat.shiftLeft_eq, Nat.mod_eq_of_lt]
      rcases (show x.hi.toNat = 0 ∨ x.hi.toNat = 1 by omega) with h | h <;> rw [h] <;> omega
    rw [and2047, BitVec.or_comm, orAdd (x.lo >>> k.toNat) (x.hi <<< (64 - k.toNat)) (64 - k.toNat) (by rw [s1]; exact hlo) (by rw [s2, Nat.mul_mod_left]), s1, s2, e1, BitVec.toNat_ofNat]
    rw [Nat.mod_eq_of_lt (b := 2 ^ 64)]
    exact Nat.lt_of_lt_of_le (Nat.mod_lt _ (by decide)) (by decide)
  · simp only
    rw [e2, beqN, BitVec.toNat_shiftLeft, Nat.shiftLeft_eq, show (0#64).toNat = 0 from rfl]
    have e3 : x.lo.toNat * 2 ^ (64 - k.toNat) % 2 ^ 64 = x.lo.toNat % 2 ^ k.toNat * 2 ^ (64 - k.toNat) := by
      rw [show (2 : Nat) ^ 64 = 2 ^ k.toNat * 2 ^ (64 - k.toNat) by rw [← Nat.pow_add, show k.toNat + (64 - k.toNat) = 64 by omega], Nat.mul_mod_mul_right]
    rw [e3, Bool.eq_iff_iff]
    simp only [Bool.not_eq_true', decide_eq_false_iff_not, decide_eq_true_eq, Nat.mul_eq_zero]
    have hq0 := Nat.two_pow_pos (64 - k.toNat)
    omega
theorem bit_step (n k : Nat) (hk : n < 2 ^ (k + 1)) : n / 2 ^ k % 2 = if 2 ^ k ≤ n then 1 else 0 := by
  have hp := Nat.two_pow_pos k
  split
  · rename_i h
    have : n / 2 ^ k = 1 := by
      rw [Nat.div_eq_iff hp]
      rw [Nat.pow_succ] at hk
      omega
    rw [this]
  · rename_i h
    rw [Nat.div_eq_of_lt (by omega)]
theorem blen_eq {n k : Nat} (h1 : 2 ^ k ≤ n) (h2 : n < 2 ^ (k + 1)) : blen n = k + 1 := by
  have hb := blen_le h2
  have hl := lt_blen n
  rcases Nat.lt_or_ge (blen n) (k + 1) with h | h
  · have := Nat.pow_le_pow_right (n := 2) (by decide) (show blen n ≤ k by omega)
    omega
  · omega
theorem layE_val (n : BitVec 64) (k : Nat) : ∀ (i e : BitVec 64), i.toNat + k = 64 → 13 ≤ i.toNat → layE k n i e = if 2 ^ i.toNat ≤ n.toNat then BitVec.ofNat 64 (blen n.toNat - 13) else e := by
  induction k with
  | zero =>
    intro i e h _
    unfold layE
    have hn := n.isLt
    rw [if_neg]
    rw [show i.toNat = 64 by omega]; omega
  | succ k ih =>
    intro i e h h13
    have hi : (i + 1#64).toNat = i.toNat + 1 := by rw [BitVec.toNat_add, show (1#64).toNat = 1 from rfl]; omega
    unfold layE
    rw [ih (i + 1#64) _ (by omega) (by omega), hi]
    have hle := Nat.pow_le_pow_right (n := 2) (by decide) (show i.toNat ≤ i.toNat + 1 by omega)
    by_cases hb : 2 ^ (i.toNat + 1) ≤ n.toNat
    · rw [if_pos hb, if_pos (by omega)]
    · rw [if_neg hb, beqN, BitVec.signExtend_eq, Nat.min_eq_left (by omega), BitVec.toNat_umod, BitVec.toNat_ushiftRight, Nat.shiftRight_eq_div_pow, show (2#64).toNat = 2 from rfl, bit_step n.toNat i.toNat (by omega), show (1#64).toNat = 1 from rfl]
      by_cases hc : 2 ^ i.toNat ≤ n.toNat
      · rw [if_pos hc, if_pos hc, decide_eq_true rfl, cond_true, blen_eq hc (by omega)]
        apply BitVec.eq_of_toNat_eq
        rw [BitVec.toNat_sub, BitVec.toNat_ofNat, BitVec.toNat_ofNat]; omega
      · rw [if_neg hc, if_neg hc, show decide ((0 : Nat) = 1) = false from rfl, cond_false]
theorem layl_e (x : LayS) (hi : x.i = 13#64) (he : x.e = 0#64) : (v_layl_loop x).e = expo x.n := by
  have hm : laylM x = 51 := by
    unfold laylM; rw [hi]; decide
  unfold v_layl_loop
  simp only
  rw [hm, hi, he, layE_val x.n 51 13#64 0#64 (by decide) (by decide)]
  have hx := expoN x.n
  apply BitVec.eq_of_toNat_eq
  rw [hx]
  have hb := blen_le x.n.isLt
  split
  · rw [BitVec.toNat_ofNat]; omega
  · rename_i h
    have := blen_le (n := x.n.toNat) (k := 13) (by simpa using h)
    simp; omega
end Go.Sx

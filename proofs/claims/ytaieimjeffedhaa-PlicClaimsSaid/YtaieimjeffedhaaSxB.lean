/- The numbers of the executor: what BitVec reckons, the machine's whole numbers reckon. -/
import Derived.Test.YtaieimjeffedhaaSxA2
set_option linter.unusedSimpArgs false
set_option linter.unusedVariables false
set_option linter.unnecessarySimpa false
namespace Go.Sx
open Go

theorem bits_pos (k : IntKind) : 0 < k.bits := by cases k <;> decide

theorem wrap_den (k : IntKind) (n : Int) : k.wrap n = den k (BitVec.ofInt k.bits n) := by
  unfold IntKind.wrap den
  by_cases hs : k.signed = true
  · simp only [hs, Bool.true_and, decide_eq_true_eq, if_true]
    have hb := bits_pos k
    have h2 : (2 : Int) ^ k.bits = 2 * 2 ^ (k.bits - 1) := by
      rw [← Int.pow_succ']; congr 1; omega
    rw [BitVec.toInt_ofInt, Int.bmod]
    have e : (((2 ^ k.bits : Nat)) : Int) = (2 : Int) ^ k.bits := by norm_cast
    rw [e]
    have hh : ((2 : Int) ^ k.bits + 1) / 2 = 2 ^ (k.bits - 1) := by
      rw [h2]; omega
    rw [hh]
    split <;> split <;> omega
  · simp only [Bool.not_eq_true] at hs
    simp only [hs, Bool.false_and, Bool.false_eq_true, if_false]
    rw [BitVec.toNat_ofInt]
    have hp : (0 : Int) < 2 ^ k.bits := Int.pow_pos (by decide)
    have : 0 ≤ n % 2 ^ k.bits := Int.emod_nonneg _ (by omega)
    have e : (((2 ^ k.bits : Nat)) : Int) = (2 : Int) ^ k.bits := by norm_cast
    rw [e, Int.toNat_of_nonneg this]

theorem ofInt_den (k : IntKind) (v : BitVec k.bits) : BitVec.ofInt k.bits (den k v) = v := by
  unfold den
  split
  · exact BitVec.ofInt_toInt
  · simp [BitVec.ofInt_natCast]

theorem den_inj {k : IntKind} {x y : BitVec k.bits} (h : den k x = den k y) : x = y := by
  rw [← ofInt_den k x, ← ofInt_den k y, h]


theorem den_add (k : IntKind) (x y : BitVec k.bits) : k.wrap (den k x + den k y) = den k (x + y) := by
  rw [wrap_den, BitVec.ofInt_add, ofInt_den, ofInt_den]
theorem den_sub (k : IntKind) (x y : BitVec k.bits) : k.wrap (den k x - den k y) = den k (x - y) := by
  rw [wrap_den, Int.sub_eq_add_neg, BitVec.ofInt_add, BitVec.ofInt_neg, ofInt_den, ofInt_den, BitVec.sub_eq_add_neg]
theorem den_mul (k : IntKind) (x y : BitVec k.bits) : k.wrap (den k x * den k y) = den k (x * y) := by
  rw [wrap_den, BitVec.ofInt_mul, ofInt_den, ofInt_den]
theorem den_neg (k : IntKind) (x : BitVec k.bits) : k.wrap (0 - den k x) = den k (-x) := by
  rw [wrap_den, Int.zero_sub, BitVec.ofInt_neg, ofInt_den]
theorem wrap_toNat (k : IntKind) (x : BitVec k.bits) : k.wrap (x.toNat : Int) = den k x := by
  rw [wrap_den, BitVec.ofInt_natCast, BitVec.ofNat_toNat, BitVec.setWidth_eq]
theorem den_eq (k : IntKind) (x y : BitVec k.bits) : (den k x == den k y) = (x == y) := by
  rw [Bool.eq_iff_iff]; simp only [beq_iff_eq]; exact ⟨den_inj, fun h => h ▸ rfl⟩
theorem den_lt (k : IntKind) (x y : BitVec k.bits) : decide (den k x < den k y) = ltA k x y := by
  unfold den ltA
  cases k.signed
  · simp [BitVec.ult]
  · simp [BitVec.slt]
theorem den_le (k : IntKind) (x y : BitVec k.bits) : decide (den k x ≤ den k y) = leA k x y := by
  unfold den leA
  cases k.signed
  · simp [BitVec.ule]
  · simp [BitVec.sle]
theorem nonneg_den {k : IntKind} {v : BitVec k.bits} (h : nonneg k v = true) : den k v = v.toNat := by
  unfold nonneg at h
  unfold den
  split
  · rename_i hs
    simp [hs] at h
    exact BitVec.toInt_eq_toNat_of_msb h
  · rfl
theorem den_conv (s d : IntKind) (x : BitVec s.bits) : d.wrap (den s x) = den d (convA s d x) := by
  rw [wrap_den]
  congr 1
  unfold den convA
  cases s.signed
  · simp [BitVec.ofInt_natCast]
  · simp [BitVec.signExtend]

theorem den_shl (k : IntKind) (x : BitVec k.bits) (n : Nat) : k.wrap (den k x * 2 ^ (min n k.bits)) = den k (shlA x n) := by
  rw [wrap_den, BitVec.ofInt_mul, ofInt_den]
  congr 1
  unfold shlA
  rw [BitVec.shiftLeft_eq_mul_twoPow]
  congr 1
  have : ((2 : Int) ^ (min n k.bits)) = ((2 ^ (min n k.bits) : Nat) : Int) := by norm_cast
  rw [this, BitVec.ofInt_natCast]
  apply BitVec.eq_of_toNat_eq
  simp [BitVec.toNat_twoPow]
theorem den_shr (k : IntKind) (x : BitVec k.bits) (n : Nat) : (den k x).fdiv (2 ^ (min n k.bits)) = den k (shrA k x n) := by
  have hp : (0 : Int) ≤ 2 ^ (min n k.bits) := Int.le_of_lt (Int.pow_pos (by decide))
  rw [Int.fdiv_eq_ediv_of_nonneg _ hp]
  unfold den shrA
  cases k.signed
  · simp only [Bool.false_eq_true, if_false, cond_false, BitVec.toNat_ushiftRight, Nat.shiftRight_eq_div_pow]
    norm_cast
  · simp only [if_true, cond_true, BitVec.toInt_sshiftRight, Int.shiftRight_eq_div_pow]
    norm_cast
theorem den_quo (k : IntKind) (x y : BitVec k.bits) : k.wrap ((den k x).tdiv (den k y)) = den k (quoA k x y) := by
  rw [wrap_den]
  unfold den quoA
  cases k.signed
  · simp only [Bool.false_eq_true, if_false, cond_false, BitVec.toNat_udiv]
    rw [← Int.ofNat_tdiv, BitVec.ofInt_natCast]
    simp only [BitVec.toNat_ofNat]
    rw [Nat.mod_eq_of_lt]
    exact Nat.lt_of_le_of_lt (Nat.div_le_self _ _) x.isLt
  · simp [BitVec.toInt_sdiv]
theorem den_rem (k : IntKind) (x y : BitVec k.bits) : (den k x).tmod (den k y) = den k (remA k x y) := by
  unfold den remA
  cases k.signed
  · simp only [Bool.false_eq_true, if_false, cond_false, BitVec.toNat_umod]
    rw [← Int.ofNat_tmod]
  · simp [BitVec.toInt_srem]
theorem den_zero (k : IntKind) (y : BitVec k.bits) : (den k y = 0) ↔ y = 0 := by
  constructor
  · intro h
    have := ofInt_den k y
    rw [h] at this
    rw [← this]; simp
  · rintro rfl
    unfold den; simp
theorem ofInt_bits (k : IntKind) (x : BitVec k.bits) : BitVec.ofInt k.bits (den k x) = x := ofInt_den k x
theorem ltA_iff (k : IntKind) (x y : BitVec k.bits) : ltA k x y = true ↔ den k x < den k y := by rw [← den_lt]; simp
theorem den_min (k : IntKind) (x y : BitVec k.bits) : (if den k y < den k x then den k y else den k x) = den k (minA k x y) := by
  unfold minA
  by_cases h : ltA k y x = true
  · simp only [h, cond_true]; rw [if_pos ((ltA_iff k y x).1 h)]
  · simp only [Bool.not_eq_true] at h
    simp only [h, cond_false]
    rw [if_neg (fun hh => by rw [← ltA_iff, h] at hh; exact absurd hh (by simp))]
theorem den_max (k : IntKind) (x y : BitVec k.bits) : (if den k x < den k y then den k y else den k x) = den k (maxA k x y) := by
  unfold maxA
  by_cases h : ltA k x y = true
  · simp only [h, cond_true]; rw [if_pos ((ltA_iff k x y).1 h)]
  · simp only [Bool.not_eq_true] at h
    simp only [h, cond_false]
    rw [if_neg (fun hh => by rw [← ltA_iff, h] at hh; exact absurd hh (by simp))]
theorem den_ofNat {n : Nat} (h : n < 2 ^ 63) : den .i64 (BitVec.ofNat 64 n) = (n : Int) := by
  show (BitVec.ofNat 64 n).toInt = (n : Int)
  rw [BitVec.toInt_eq_toNat_of_lt (by rw [BitVec.toNat_ofNat]; omega), BitVec.toNat_ofNat]
  omega
end Go.Sx

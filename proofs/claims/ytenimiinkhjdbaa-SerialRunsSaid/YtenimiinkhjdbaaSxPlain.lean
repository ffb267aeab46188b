/- Plain laws of 64-bit numbers. -/
set_option linter.unusedSimpArgs false
set_option linter.unusedVariables false
set_option linter.unnecessarySimpa false
namespace Go.Sx
theorem sleR (x y : BitVec 64) (h : y.toNat < 9223372036854775808) : x.sle y = decide (x.toNat ≤ y.toNat ∨ 9223372036854775808 ≤ x.toNat) := by
  have := x.isLt
  rw [Bool.eq_iff_iff]
  simp [BitVec.sle, BitVec.toInt_eq_toNat_cond]
  (repeat' split) <;> omega
theorem sltR (x y : BitVec 64) (h : y.toNat < 9223372036854775808) : x.slt y = decide (x.toNat < y.toNat ∨ 9223372036854775808 ≤ x.toNat) := by
  have := x.isLt
  rw [Bool.eq_iff_iff]
  simp [BitVec.slt, BitVec.toInt_eq_toNat_cond]
  (repeat' split) <;> omega
theorem sltL (x y : BitVec 64) (h : y.toNat < 9223372036854775808) : y.slt x = decide (y.toNat < x.toNat ∧ x.toNat < 9223372036854775808) := by
  have := x.isLt
  rw [Bool.eq_iff_iff]
  simp [BitVec.slt, BitVec.toInt_eq_toNat_cond]
  (repeat' split) <;> omega
theorem sleL (x y : BitVec 64) (h : y.toNat < 9223372036854775808) : y.sle x = decide (y.toNat ≤ x.toNat ∧ x.toNat < 9223372036854775808) := by
  have := x.isLt
  rw [Bool.eq_iff_iff]
  simp [BitVec.sle, BitVec.toInt_eq_toNat_cond]
  (repeat' split) <;> omega
theorem beqN {n : Nat} (x y : BitVec n) : (x == y) = decide (x.toNat = y.toNat) := by
  rw [Bool.eq_iff_iff]
  simp [← BitVec.toNat_inj]
theorem ultN {n : Nat} (x y : BitVec n) : x.ult y = decide (x.toNat < y.toNat) := rfl
theorem uleN {n : Nat} (x y : BitVec n) : x.ule y = decide (x.toNat ≤ y.toNat) := rfl
/-- A remainder by a number, of one that is not negative. -/
theorem sremN (x y : BitVec 64) (hy : y.toNat < 9223372036854775808) (hx : x.toNat < 9223372036854775808) : x.srem y = x % y := by
  have h1 : x.msb = false := by rw [BitVec.msb_eq_decide]; simp; omega
  have h2 : y.msb = false := by rw [BitVec.msb_eq_decide]; simp; omega
  rw [BitVec.srem_eq, h1, h2]
theorem sdivN (x y : BitVec 64) (hy : y.toNat < 9223372036854775808) (hx : x.toNat < 9223372036854775808) : x.sdiv y = x / y := by
  have h1 : x.msb = false := by rw [BitVec.msb_eq_decide]; simp; omega
  have h2 : y.msb = false := by rw [BitVec.msb_eq_decide]; simp; omega
  rw [BitVec.sdiv_eq, h1, h2]
  rfl
theorem sshN (x : BitVec 64) (k : Nat) (hx : x.toNat < 9223372036854775808) : x.sshiftRight k = x >>> k := by
  have h1 : x.msb = false := by rw [BitVec.msb_eq_decide]; simp; omega
  exact BitVec.sshiftRight_eq_of_msb_false h1
theorem andK (x : BitVec 64) (i : Nat) (hi : i < 64) : (x &&& BitVec.ofNat 64 (2 ^ i - 1)).toNat = x.toNat % 2 ^ i := by
  have : 2 ^ i < 2 ^ 64 := Nat.pow_lt_pow_right (by decide) hi
  have hp : 0 < 2 ^ i := Nat.two_pow_pos i
  simp only [BitVec.toNat_and, BitVec.toNat_ofNat]
  rw [Nat.mod_eq_of_lt (by omega), Nat.and_two_pow_sub_one_eq_mod]
end Go.Sx
namespace Go.Sx
theorem orAdd {n : Nat} (x y : BitVec n) (i : Nat) (hx : x.toNat < 2 ^ i) (hy : y.toNat % 2 ^ i = 0) : (y ||| x).toNat = y.toNat + x.toNat := by
  obtain ⟨q, hq⟩ := Nat.dvd_of_mod_eq_zero hy
  rw [BitVec.toNat_or, hq, Nat.two_pow_add_eq_or_of_lt hx]
theorem lay {x v : BitVec 64} {w at' : Nat} (hx : x.toNat < 2 ^ at') (hv : v.toNat < 2 ^ w) (h : at' + w ≤ 64) (hw : w < 64) : (x ||| (v &&& BitVec.ofNat 64 (2 ^ w - 1)) <<< at').toNat = x.toNat + v.toNat * 2 ^ at' := by
  have h2 : (v &&& BitVec.ofNat 64 (2 ^ w - 1)).toNat = v.toNat := by rw [andK v w hw, Nat.mod_eq_of_lt hv]
  have h3 : ((v &&& BitVec.ofNat 64 (2 ^ w - 1)) <<< at').toNat = v.toNat * 2 ^ at' := by
    rw [BitVec.toNat_shiftLeft, h2, Nat.shiftLeft_eq, Nat.mod_eq_of_lt]
    calc v.toNat * 2 ^ at' < 2 ^ w * 2 ^ at' := Nat.mul_lt_mul_of_pos_right hv (Nat.two_pow_pos _)
      _ = 2 ^ (at' + w) := by rw [← Nat.pow_add]; congr 1; omega
      _ ≤ 2 ^ 64 := Nat.pow_le_pow_right (by decide) h
  rw [BitVec.or_comm, orAdd x _ at' hx (by rw [h3]; simp), h3]; omega
end Go.Sx
namespace Go.Sx
theorem lay' {x v : BitVec 64} {w at' n : Nat} (hn : x.toNat = n) (hx : n < 2 ^ at') (hv : v.toNat < 2 ^ w) (h : at' + w ≤ 64) (hw : w < 64) : (x ||| (v &&& BitVec.ofNat 64 (2 ^ w - 1)) <<< at').toNat = n + v.toNat * 2 ^ at' := by
  subst hn; exact lay hx hv h hw
end Go.Sx
namespace Go.Sx
theorem madd {x y : BitVec 64} {n m : Nat} (k : Nat) (hx : x.toNat = n) (hy : y.toNat = m) (h : n * k + m < 18446744073709551616) (hk : k < 18446744073709551616) : (x * BitVec.ofNat 64 k + y).toNat = n * k + m := by
  subst hx; subst hy
  have h1 : x.toNat * k < 18446744073709551616 := by omega
  rw [BitVec.toNat_add, BitVec.toNat_mul, BitVec.toNat_ofNat, Nat.mod_eq_of_lt hk, Nat.mod_eq_of_lt h1, Nat.mod_eq_of_lt h]
end Go.Sx

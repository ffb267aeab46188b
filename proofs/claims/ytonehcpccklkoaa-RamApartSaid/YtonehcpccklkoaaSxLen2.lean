/- Several texts in one. -/
import Derived.Test.YtonehcpccklkoaaSxW
set_option linter.unusedSimpArgs false
set_option linter.unusedVariables false
set_option linter.unnecessarySimpa false
/- How many bits a number has: the table of the library's. -/
namespace Go.Sx
open Go
def blen (n : Nat) : Nat := if n = 0 then 0 else Nat.log2 n + 1
theorem blen_shift {n k : Nat} (h : 2 ^ k ≤ n) : blen n = k + blen (n / 2 ^ k) := by
  have hp : 0 < 2 ^ k := Nat.two_pow_pos k
  have h1 : n ≠ 0 := by omega
  have h2 : n / 2 ^ k ≠ 0 := by
    have := Nat.div_pos h hp
    omega
  unfold blen
  rw [if_neg h1, if_neg h2]
  have : Nat.log2 n = k + Nat.log2 (n / 2 ^ k) := by
    have h3 := (Nat.log2_eq_iff h2 (k := Nat.log2 (n / 2 ^ k))).1 rfl
    rw [Nat.log2_eq_iff h1]
    have e := Nat.div_add_mod n (2 ^ k)
    have hm := Nat.mod_lt n hp
    constructor
    · rw [Nat.pow_add]
      calc 2 ^ k * 2 ^ (n / 2 ^ k).log2 ≤ 2 ^ k * (n / 2 ^ k) := Nat.mul_le_mul_left _ h3.1
        _ ≤ n := by omega
    · rw [Nat.add_assoc, Nat.pow_add]
      calc n < 2 ^ k * (n / 2 ^ k + 1) := by rw [Nat.mul_add]; omega
        _ ≤ 2 ^ k * 2 ^ ((n / 2 ^ k).log2 + 1) := Nat.mul_le_mul_left _ h3.2
  omega

def tb : ByteArray := ByteArray.mk ((List.replicate 1 (0:UInt8) ++ List.replicate 1 1 ++ List.replicate 2 2 ++ List.replicate 4 3 ++ List.replicate 8 4 ++ List.replicate 16 5 ++ List.replicate 32 6 ++ List.replicate 64 7 ++ List.replicate 128 8).toArray)
set_option maxRecDepth 100000
theorem tb_ok : ∀ i : Fin 256, (byteAt tb i.val).toNat = blen i.val := by decide +kernel
theorem tb_size : tb.size = 256 := by decide +kernel
def lleaf (k : BitVec 64) (y : BitVec 64) : Option AV := cond (nonneg .u8 (BitVec.setWidth 8 y) && decide ((BitVec.setWidth 8 y).toNat < tb.size)) (some (.int .i64 (k + BitVec.setWidth 64 (byteAt tb (BitVec.setWidth 8 y).toNat)))) none
/-- What the library's Len64 goes through. -/
def ltree (a : BitVec 64) : Option AV :=
  cond ((4294967296#64).ule a)
    (cond ((65536#64).ule (a >>> 32)) (cond ((256#64).ule (a >>> 32 >>> 16)) (lleaf 56#64 (a >>> 32 >>> 16 >>> 8)) (lleaf 48#64 (a >>> 32 >>> 16))) (cond ((256#64).ule (a >>> 32)) (lleaf 40#64 (a >>> 32 >>> 8)) (lleaf 32#64 (a >>> 32))))
    (cond ((65536#64).ule a) (cond ((256#64).ule (a >>> 16)) (lleaf 24#64 (a >>> 16 >>> 8)) (lleaf 16#64 (a >>> 16))) (cond ((256#64).ule a) (lleaf 8#64 (a >>> 8)) (lleaf 0#64 a)))
end Go.Sx

/- Plain laws of 64-bit numbers. -/
namespace Go.Sx
theorem sleR (x y : BitVec 64) (h : y.toNat < 9223372036854775808) : x.sle y = decide (x.toNat ≤ y.toNat ∨ 9223372036854775808 ≤ x.toNat) := by
  have := x.isLt
  rw [Bool.eq_iff_iff]
  simp [BitVec.sle, BitVec.toInt_eq_toNat_cond]
  (repeat' split) <;> omega
theorem sltR (x y : BitVec 64) (h : y.toNat < 9223372036854775808) : x.slt y = decide (x.toNat < y.toNat ∨ 9223372036854775808 ≤ x.toNat) := by
  have := x.isLt
  rw [Bool.eq_iff_iff]
  simp [BitVec.slt, BitVec.toInt_eq_toNat_cond]
  (repeat' split) <;> omega
theorem sltL (x y : BitVec 64) (h : y.toNat < 9223372036854775808) : y.slt x = decide (y.toNat < x.toNat ∧ x.toNat < 9223372036854775808) := by
  have := x.isLt
  rw [Bool.eq_iff_iff]
  simp [BitVec.slt, BitVec.toInt_eq_toNat_cond]
  (repeat' split) <;> omega
theorem sleL (x y : BitVec 64) (h : y.toNat < 9223372036854775808) : y.sle x = decide (y.toNat ≤ x.toNat ∧ x.toNat < 9223372036854775808) := by
  have := x.isLt
  rw [Bool.eq_iff_iff]
  simp [BitVec.sle, BitVec.toInt_eq_toNat_cond]
  (repeat' split) <;> omega
theorem beqN {n : Nat} (x y : BitVec n) : (x == y) = decide (x.toNat = y.toNat) := by
  rw [Bool.eq_iff_iff]
  simp [← BitVec.toNat_inj]
theorem ultN {n : Nat} (x y : BitVec n) : x.ult y = decide (x.toNat < y.toNat) := rfl
theorem uleN {n : Nat} (x y : BitVec n) : x.ule y = decide (x.toNat ≤ y.toNat) := rfl
/-- A remainder by a number, of one that is not negative. -/
theorem sremN (x y : BitVec 64) (hy : y.toNat < 9223372036854775808) (hx : x.toNat < 9223372036854775808) : x.srem y = x % y := by
  have h1 : x.msb = false := by rw [BitVec.msb_eq_decide]; simp; omega
  have h2 : y.msb = false := by rw [BitVec.msb_eq_decide]; simp; omega
  rw [BitVec.srem_eq, h1, h2]
theorem sdivN (x y : BitVec 64) (hy : y.toNat < 9223372036854775808) (hx : x.toNat < 9223372036854775808) : x.sdiv y = x / y := by
  have h1 : x.msb = false := by rw [BitVec.msb_eq_decide]; simp; omega
  have h2 : y.msb = false := by rw [BitVec.msb_eq_decide]; simp; omega
  rw [BitVec.sdiv_eq, h1, h2]
  rfl
theorem sshN (x : BitVec 64) (k : Nat) (hx : x.toNat < 9223372036854775808) : x.sshiftRight k = x >>> k := by
  have h1 : x.msb = false := by rw [BitVec.msb_eq_decide]; simp; omega
  exact BitVec.sshiftRight_eq_of_msb_false h1
theorem andK (x : BitVec 64) (i : Nat) (hi : i < 64) : (x &&& BitVec.ofNat 64 (2 ^ i - 1)).toNat = x.toNat % 2 ^ i := by
  have : 2 ^ i < 2 ^ 64 := Nat.pow_lt_pow_right (by decide) hi
  have hp : 0 < 2 ^ i := Nat.two_pow_pos i
  simp only [BitVec.toNat_and, BitVec.toNat_ofNat]
  rw [Nat.mod_eq_of_lt (by omega), Nat.and_two_pow_sub_one_eq_mod]
end Go.Sx
namespace Go.Sx
theorem orAdd {n : Nat} (x y : BitVec n) (i : Nat) (hx : x.toNat < 2 ^ i) (hy : y.toNat % 2 ^ i = 0) : (y ||| x).toNat = y.toNat + x.toNat := by
  obtain ⟨q, hq⟩ := Nat.dvd_of_mod_eq_zero hy
  rw [BitVec.toNat_or, hq, Nat.two_pow_add_eq_or_of_lt hx]
theorem lay {x v : BitVec 64} {w at' : Nat} (hx : x.toNat < 2 ^ at') (hv : v.toNat < 2 ^ w) (h : at' + w ≤ 64) (hw : w < 64) : (x ||| (v &&& BitVec.ofNat 64 (2 ^ w - 1)) <<< at').toNat = x.toNat + v.toNat * 2 ^ at' := by
  have h2 : (v &&& BitVec.ofNat 64 (2 ^ w - 1)).toNat = v.toNat := by rw [andK v w hw, Nat.mod_eq_of_lt hv]
  have h3 : ((v &&& BitVec.ofNat 64 (2 ^ w - 1)) <<< at').toNat = v.toNat * 2 ^ at' := by
    rw [BitVec.toNat_shiftLeft, h2, Nat.shiftLeft_eq, Nat.mod_eq_of_lt]
    calc v.toNat * 2 ^ at' < 2 ^ w * 2 ^ at' := Nat.mul_lt_mul_of_pos_right hv (Nat.two_pow_pos _)
      _ = 2 ^ (at' + w) := by rw [← Nat.pow_add]; congr 1; omega
      _ ≤ 2 ^ 64 := Nat.pow_le_pow_right (by decide) h
  rw [BitVec.or_comm, orAdd x _ at' hx (by rw [h3]; simp), h3]; omega
end Go.Sx
namespace Go.Sx
theorem lay' {x v : BitVec 64} {w at' n : Nat} (hn : x.toNat = n) (hx : n < 2 ^ at') (hv : v.toNat < 2 ^ w) (h : at' + w ≤ 64) (hw : w < 64) : (x ||| (v &&& BitVec.ofNat 64 (2 ^ w - 1)) <<< at').toNat = n + v.toNat * 2 ^ at' := by
  subst hn; exact lay hx hv h hw
end Go.Sx
namespace Go.Sx
theorem madd {x y : BitVec 64} {n m : Nat} (k : Nat) (hx : x.toNat = n) (hy : y.toNat = m) (h : n * k + m < 18446744073709551616) (hk : k < 18446744073709551616) : (x * BitVec.ofNat 64 k + y).toNat = n * k + m := by
  subst hx; subst hy
  have h1 : x.toNat * k < 18446744073709551616 := by omega
  rw [BitVec.toNat_add, BitVec.toNat_mul, BitVec.toNat_ofNat, Nat.mod_eq_of_lt hk, Nat.mod_eq_of_lt h1, Nat.mod_eq_of_lt h]
end Go.Sx

/- How many bits a number has: what the library's text answers. -/
namespace Go.Sx
open Go
theorem lleaf_eq (k : Nat) (y : BitVec 64) (hy : y.toNat < 256) (hk : k < 1000) : lleaf (BitVec.ofNat 64 k) y = some (.int .i64 (BitVec.ofNat 64 (k + blen y.toNat))) := by
  have hs : (BitVec.setWidth 8 y).toNat = y.toNat := by rw [BitVec.toNat_setWidth]; exact Nat.mod_eq_of_lt hy
  have hn : nonneg .u8 (BitVec.setWidth 8 y) = true := rfl
  unfold lleaf
  rw [hs, hn, tb_size, decide_eq_true hy]
  simp only [Bool.and_self, cond_true]
  congr 2
  apply BitVec.eq_of_toNat_eq
  have hb : (byteAt tb y.toNat).toNat = blen y.toNat := tb_ok ⟨y.toNat, hy⟩
  have hl := (byteAt tb y.toNat).isLt
  rw [BitVec.toNat_add, BitVec.toNat_setWidth, hb, BitVec.toNat_ofNat, BitVec.toNat_ofNat]
  omega
theorem ltree_eq (a : BitVec 64) : ltree a = some (.int .i64 (BitVec.ofNat 64 (blen a.toNat))) := by
  have ha := a.isLt
  have s16 : (a >>> 16).toNat = a.toNat / 65536 := by simp [Nat.shiftRight_eq_div_pow]
  have s32 : (a >>> 32).toNat = a.toNat / 4294967296 := by simp [Nat.shiftRight_eq_div_pow]
  have s8 : ∀ y : BitVec 64, (y >>> 8).toNat = y.toNat / 256 := fun y => by simp [Nat.shiftRight_eq_div_pow]
  have s16' : ∀ y : BitVec 64, (y >>> 16).toNat = y.toNat / 65536 := fun y => by simp [Nat.shiftRight_eq_div_pow]
  unfold ltree
  simp only [uleN, show (4294967296#64).toNat = 4294967296 from rfl, show (65536#64).toNat = 65536 from rfl, show (256#64).toNat = 256 from rfl, s32, s16', s8]
  by_cases h1 : 4294967296 ≤ a.toNat
  · rw [decide_eq_true h1, cond_true, blen_shift (k := 32) h1]
    by_cases h2 : 65536 ≤ a.toNat / 4294967296
    · rw [decide_eq_true h2, cond_true, blen_shift (n := a.toNat / 2 ^ 32) (k := 16) h2]
      by_cases h3 : 256 ≤ a.toNat / 4294967296 / 65536
      · rw [decide_eq_true h3, cond_true, blen_shift (n := a.toNat / 2 ^ 32 / 2 ^ 16) (k := 8) h3, lleaf_eq 56 _ (by rw [s8, s16', s32]; omega) (by decide), s8, s16', s32]
        rw [show 32 + (16 + (8 + blen (a.toNat / 2 ^ 32 / 2 ^ 16 / 2 ^ 8))) = 56 + blen (a.toNat / 4294967296 / 65536 / 256) by simp only [Nat.reducePow]; omega]
      · rw [decide_eq_false h3, cond_false, lleaf_eq 48 _ (by rw [s16', s32]; omega) (by decide), s16', s32]
        rw [show 32 + (16 + blen (a.toNat / 2 ^ 32 / 2 ^ 16)) = 48 + blen (a.toNat / 4294967296 / 65536) by simp only [Nat.reducePow]; omega]
    · rw [decide_eq_false h2, cond_false]
      by_cases h3 : 256 ≤ a.toNat / 4294967296
      · rw [decide_eq_true h3, cond_true, blen_shift (n := a.toNat / 2 ^ 32) (k := 8) h3, lleaf_eq 40 _ (by rw [s8, s32]; omega) (by decide), s8, s32]
        rw [show 32 + (8 + blen (a.toNat / 2 ^ 32 / 2 ^ 8)) = 40 + blen (a.toNat / 4294967296 / 256) by simp only [Nat.reducePow]; omega]
      · rw [decide_eq_false h3, cond_false, lleaf_eq 32 _ (by rw [s32]; omega) (by decide), s32]
  · rw [decide_eq_false h1, cond_false]
    by_cases h2 : 65536 ≤ a.toNat
    · rw [decide_eq_true h2, cond_true, blen_shift (k := 16) h2]
      by_cases h3 : 256 ≤ a.toNat / 65536
      · rw [decide_eq_true h3, cond_true, blen_shift (n := a.toNat / 2 ^ 16) (k := 8) h3, lleaf_eq 24 _ (by rw [s8, s16']; omega) (by decide), s8, s16']
        rw [show 16 + (8 + blen (a.toNat / 2 ^ 16 / 2 ^ 8)) = 24 + blen (a.toNat / 65536 / 256) by simp only [Nat.reducePow]; omega]
      · rw [decide_eq_false h3, cond_false, lleaf_eq 16 _ (by rw [s16']; omega) (by decide), s16']
    · rw [decide_eq_false h2, cond_false]
      by_cases h3 : 256 ≤ a.toNat
      · rw [decide_eq_true h3, cond_true, blen_shift (k := 8) h3, lleaf_eq 8 _ (by rw [s8]; omega) (by decide), s8]
      · rw [decide_eq_false h3, cond_false, lleaf_eq 0 _ (by omega) (by decide), Nat.zero_add]
/-- How many bits a number has. -/
def v_bits_Len64 (a : BitVec 64) : BitVec 64 := BitVec.ofNat 64 (blen a.toNat)
end Go.Sx


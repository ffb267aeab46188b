/- Plain laws of counters, and of rows. -/
import Derived.Test.YtenimiinkhjdbaaSxX
import Derived.Test.YtenimiinkhjdbaaSxPlain
set_option linter.unusedSimpArgs false
set_option linter.unusedVariables false
set_option linter.unnecessarySimpa false
namespace Go.Sx
open Go
theorem ofNat_toNat {n : Nat} (h : n < 2 ^ 64) : (BitVec.ofNat 64 n).toNat = n := by rw [BitVec.toNat_ofNat]; exact Nat.mod_eq_of_lt h
theorem slt_nat {x y : BitVec 64} (hx : x.toNat < 2 ^ 63) (hy : y.toNat < 2 ^ 63) : x.slt y = decide (x.toNat < y.toNat) := by
  rw [sltR x y hy]
  rw [Bool.eq_iff_iff]; simp only [decide_eq_true_eq]; omega
theorem sle_nat {x y : BitVec 64} (hx : x.toNat < 2 ^ 63) (hy : y.toNat < 2 ^ 63) : x.sle y = decide (x.toNat ≤ y.toNat) := by
  rw [sleR x y hy]
  rw [Bool.eq_iff_iff]; simp only [decide_eq_true_eq]; omega
theorem slt_len {x : BitVec 64} {n : Nat} (hx : x.toNat < 2 ^ 63) (hn : n < 2 ^ 63) : x.slt (BitVec.ofNat 64 n) = decide (x.toNat < n) := by
  rw [slt_nat hx (by rw [ofNat_toNat (by omega)]; exact hn), ofNat_toNat (by omega)]
theorem nonneg_lt {x : BitVec 64} (hx : x.toNat < 2 ^ 63) : nonneg .i64 x = true := by
  have : x.msb = false := by rw [BitVec.msb_eq_decide]; simp; omega
  show (!(IntKind.i64.signed && BitVec.msb (n := 64) x)) = true
  rw [this]; simp
theorem inc_nat {x : BitVec 64} (h : x.toNat < 2 ^ 63) : (x + 1#64).toNat = x.toNat + 1 := by
  rw [BitVec.toNat_add, show (1#64).toNat = 1 from rfl]
  exact Nat.mod_eq_of_lt (by omega)
theorem lo32 (v : BitVec 64) (c : BitVec 32) : (BitVec.setWidth 32 v == c) = (v % 4294967296#64 == BitVec.ofNat 64 c.toNat) := by
  rw [Bool.eq_iff_iff]
  simp only [beq_iff_eq, ← BitVec.toNat_inj, BitVec.toNat_setWidth, BitVec.toNat_umod, BitVec.toNat_ofNat]
  have := c.isLt
  rw [Nat.mod_eq_of_lt (a := c.toNat) (by omega)]
end Go.Sx

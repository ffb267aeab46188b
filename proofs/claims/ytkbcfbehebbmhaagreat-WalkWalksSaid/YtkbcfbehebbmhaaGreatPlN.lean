/- Plain laws of counters, and of rows. -/
import Derived.Test.YtkbcfbehebbmhaaGreatSxX
import Derived.Test.YtkbcfbehebbmhaaGreatSxLen2
set_option linter.unusedSimpArgs false
set_option linter.unusedVariables false
set_option linter.unnecessarySimpa false
namespace Go.Sx
open Go
theorem ofNat_toNat {n : Nat} (h : n < 2 ^ 64) : (BitVec.ofNat 64 n).toNat = n := by rw [BitVec.toNat_ofNat]; exact Nat.mod_eq_of_lt h
theorem slt_nat {x y : BitVec 64} (hx : x.toNat < 2 ^ 63) (hy : y.toNat < 2 ^ 63) : x.slt y = decide (x.toNat < y.toNat) := by
  rw [sltR x y hy]
  rw [Bool.eq_iff_iff]; simp only [decide_eq_true_eq]; omega
theorem sle_nat {x y : BitVec 64} (hx : x.toNat < 2 ^ 63) (hy : y.toNat < 2 ^ 63) : x.sle y = decide (x.toNat ≤ y.toNat) := by
  rw [sleR x y hy]
  rw [Bool.eq_iff_iff]; simp only [decide_eq_true_eq]; omega
theorem slt_len {x : BitVec 64} {n : Nat} (hx : x.toNat < 2 ^ 63) (hn : n < 2 ^ 63) : x.slt (BitVec.ofNat 64 n) = decide (x.toNat < n) := by
  rw [slt_nat hx (by rw [ofNat_toNat (by omega)]; exact hn), ofNat_toNat (by omega)]
theorem nonneg_lt {x : BitVec 64} (hx : x.toNat < 2 ^ 63) : nonneg .i64 x = true := by
  have : x.msb = false := by rw [BitVec.msb_eq_decide]; simp; omega
  show (!(IntKind.i64.signed && BitVec.msb (n := 64) x)) = true
  rw [this]; simp
theorem inc_nat {x : BitVec 64} (h : x.toNat < 2 ^ 63) : (x + 1#64).toNat = x.toNat + 1 := by
  rw [BitVec.toNat_add, show (1#64).toNat = 1 from rfl]
  exact Nat.mod_eq_of_lt (by omega)
theorem lo32 (v : BitVec 64) (c : BitVec 32) : (BitVec.setWidth 32 v == c) = (v % 4294967296#64 == BitVec.ofNat 64 c.toNat) := by
  rw [Bool.eq_iff_iff]
  simp only [beq_iff_eq, ← BitVec.toNat_inj, BitVec.toNat_setWidth, BitVec.toNat_umod, BitVec.toNat_ofNat]
  have := c.isLt
  rw [Nat.mod_eq_of_lt (a := c.toNat) (by omega)]
/-- An offset about the first eight registers. -/
theorem off8 (o : BitVec 64) : ((o == 0#64) = true ∧ (o == 1#64) = false ∧ (0#64).sle o = true ∧ o.slt 8#64 = true) ∨ ((o == 0#64) = false ∧ (o == 1#64) = true ∧ (0#64).sle o = true ∧ o.slt 8#64 = true) ∨
    ((o == 0#64) = false ∧ (o == 1#64) = false ∧ (0#64).sle o = true ∧ o.slt 8#64 = true) ∨ ((o == 0#64) = false ∧ (o == 1#64) = false ∧ (0#64).sle o = true ∧ o.slt 8#64 = false) ∨ ((o == 0#64) = false ∧ (o == 1#64) = false ∧ (0#64).sle o = false) := by
  by_cases h0 : o = 0#64
  · subst h0; left; decide
  · have e0 : (o == 0#64) = false := by simpa using h0
    by_cases h1 : o = 1#64
    · subst h1; right; left; decide
    · have e1 : (o == 1#64) = false := by simpa using h1
      cases hb : (0#64).sle o <;> cases hc : o.slt 8#64 <;> simp [e0, e1]
theorem sle7 (o : BitVec 64) (h : (0#64).sle o = true) : o.sle 7#64 = o.slt 8#64 := by
  rw [sleR o 7#64 (by decide), sltR o 8#64 (by decide)]
  rw [Bool.eq_iff_iff]
  simp only [decide_eq_true_eq]
  rw [show (7#64).toNat = 7 from rfl, show (8#64).toNat = 8 from rfl]
  omega
theorem lo8 (w : BitVec 64) : BitVec.setWidth 64 (BitVec.setWidth 8 w) = BitVec.setWidth 64 (w % 256#64) := by
  apply BitVec.eq_of_toNat_eq
  simp only [BitVec.toNat_setWidth, BitVec.toNat_umod]
  rw [show (256#64).toNat = 256 from rfl]
theorem and1 (w : BitVec 64) : (w &&& 1#64) = w % 2#64 := by
  apply BitVec.eq_of_toNat_eq
  rw [BitVec.toNat_and, BitVec.toNat_umod, show (1#64).toNat = 1 from rfl, show (2#64).toNat = 2 from rfl]
  exact Nat.and_two_pow_sub_one_eq_mod w.toNat 1
theorem par (w : BitVec 64) : w % 2#64 = 0#64 ∨ w % 2#64 = 1#64 := by
  have h : (w % 2#64).toNat < 2 := by rw [BitVec.toNat_umod]; exact Nat.mod_lt _ (by decide)
  rcases (show (w % 2#64).toNat = 0 ∨ (w % 2#64).toNat = 1 by omega) with e | e
  · left; apply BitVec.eq_of_toNat_eq; exact e
  · right; apply BitVec.eq_of_toNat_eq; exact e
end Go.Sx

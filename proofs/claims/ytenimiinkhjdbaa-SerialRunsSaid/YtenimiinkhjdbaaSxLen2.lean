/- How many bits a number has: what the library's text answers. -/
import Derived.Test.YtenimiinkhjdbaaSxLen
import Derived.Test.YtenimiinkhjdbaaSxPlain
set_option linter.unusedSimpArgs false
set_option linter.unusedVariables false
set_option linter.unnecessarySimpa false
namespace Go.Sx
open Go
theorem lleaf_eq (k : Nat) (y : BitVec 64) (hy : y.toNat < 256) (hk : k < 1000) : lleaf (BitVec.ofNat 64 k) y = some (.int .i64 (BitVec.ofNat 64 (k + blen y.toNat))) := by
  have hs : (BitVec.setWidth 8 y).toNat = y.toNat := by rw [BitVec.toNat_setWidth]; exact Nat.mod_eq_of_lt hy
  have hn : nonneg .u8 (BitVec.setWidth 8 y) = true := rfl
  unfold lleaf
  rw [hs, hn, tb_size, decide_eq_true hy]
  simp only [Bool.and_self, cond_true]
  congr 2
  apply BitVec.eq_of_toNat_eq
  have hb : (byteAt tb y.toNat).toNat = blen y.toNat := tb_ok ⟨y.toNat, hy⟩
  have hl := (byteAt tb y.toNat).isLt
  rw [BitVec.toNat_add, BitVec.toNat_setWidth, hb, BitVec.toNat_ofNat, BitVec.toNat_ofNat]
  omega
theorem ltree_eq (a : BitVec 64) : ltree a = some (.int .i64 (BitVec.ofNat 64 (blen a.toNat))) := by
  have ha := a.isLt
  have s16 : (a >>> 16).toNat = a.toNat / 65536 := by simp [Nat.shiftRight_eq_div_pow]
  have s32 : (a >>> 32).toNat = a.toNat / 4294967296 := by simp [Nat.shiftRight_eq_div_pow]
  have s8 : ∀ y : BitVec 64, (y >>> 8).toNat = y.toNat / 256 := fun y => by simp [Nat.shiftRight_eq_div_pow]
  have s16' : ∀ y : BitVec 64, (y >>> 16).toNat = y.toNat / 65536 := fun y => by simp [Nat.shiftRight_eq_div_pow]
  unfold ltree
  simp only [uleN, show (4294967296#64).toNat = 4294967296 from rfl, show (65536#64).toNat = 65536 from rfl, show (256#64).toNat = 256 from rfl, s32, s16', s8]
  by_cases h1 : 4294967296 ≤ a.toNat
  · rw [decide_eq_true h1, cond_true, blen_shift (k := 32) h1]
    by_cases h2 : 65536 ≤ a.toNat / 4294967296
    · rw [decide_eq_true h2, cond_true, blen_shift (n := a.toNat / 2 ^ 32) (k := 16) h2]
      by_cases h3 : 256 ≤ a.toNat / 4294967296 / 65536
      · rw [decide_eq_true h3, cond_true, blen_shift (n := a.toNat / 2 ^ 32 / 2 ^ 16) (k := 8) h3, lleaf_eq 56 _ (by rw [s8, s16', s32]; omega) (by decide), s8, s16', s32]
        rw [show 32 + (16 + (8 + blen (a.toNat / 2 ^ 32 / 2 ^ 16 / 2 ^ 8))) = 56 + blen (a.toNat / 4294967296 / 65536 / 256) by simp only [Nat.reducePow]; omega]
      · rw [decide_eq_false h3, cond_false, lleaf_eq 48 _ (by rw [s16', s32]; omega) (by decide), s16', s32]
        rw [show 32 + (16 + blen (a.toNat / 2 ^ 32 / 2 ^ 16)) = 48 + blen (a.toNat / 4294967296 / 65536) by simp only [Nat.reducePow]; omega]
    · rw [decide_eq_false h2, cond_false]
      by_cases h3 : 256 ≤ a.toNat / 4294967296
      · rw [decide_eq_true h3, cond_true, blen_shift (n := a.toNat / 2 ^ 32) (k := 8) h3, lleaf_eq 40 _ (by rw [s8, s32]; omega) (by decide), s8, s32]
        rw [show 32 + (8 + blen (a.toNat / 2 ^ 32 / 2 ^ 8)) = 40 + blen (a.toNat / 4294967296 / 256) by simp only [Nat.reducePow]; omega]
      · rw [decide_eq_false h3, cond_false, lleaf_eq 32 _ (by rw [s32]; omega) (by decide), s32]
  · rw [decide_eq_false h1, cond_false]
    by_cases h2 : 65536 ≤ a.toNat
    · rw [decide_eq_true h2, cond_true, blen_shift (k := 16) h2]
      by_cases h3 : 256 ≤ a.toNat / 65536
      · rw [decide_eq_true h3, cond_true, blen_shift (n := a.toNat / 2 ^ 16) (k := 8) h3, lleaf_eq 24 _ (by rw [s8, s16']; omega) (by decide), s8, s16']
        rw [show 16 + (8 + blen (a.toNat / 2 ^ 16 / 2 ^ 8)) = 24 + blen (a.toNat / 65536 / 256) by simp only [Nat.reducePow]; omega]
      · rw [decide_eq_false h3, cond_false, lleaf_eq 16 _ (by rw [s16']; omega) (by decide), s16']
    · rw [decide_eq_false h2, cond_false]
      by_cases h3 : 256 ≤ a.toNat
      · rw [decide_eq_true h3, cond_true, blen_shift (k := 8) h3, lleaf_eq 8 _ (by rw [s8]; omega) (by decide), s8]
      · rw [decide_eq_false h3, cond_false, lleaf_eq 0 _ (by omega) (by decide), Nat.zero_add]
/-- How many bits a number has. -/
def v_bits_Len64 (a : BitVec 64) : BitVec 64 := BitVec.ofNat 64 (blen a.toNat)
end Go.Sx

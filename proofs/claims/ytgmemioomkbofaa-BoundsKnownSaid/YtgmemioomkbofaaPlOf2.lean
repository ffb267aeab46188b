/- Plain laws of bounds: the program's are the document's (the whole). -/
import Derived.Test.YtgmemioomkbofaaPlOf
set_option linter.unusedSimpArgs false
set_option linter.unusedVariables false
set_option linter.unnecessarySimpa false
namespace Go.Sx
open Go
set_option maxHeartbeats 1000000
theorem and7s (x : BitVec 64) : (x &&& 7#64).toNat = x.toNat % 8 := andK x 3 (by omega)
theorem and3s (x : BitVec 64) : (x &&& 3#64).toNat = x.toNat % 4 := andK x 2 (by omega)
theorem and4095 (x : BitVec 64) : (x &&& 4095#64).toNat = x.toNat % 4096 := andK x 12 (by omega)
theorem and16383 (x : BitVec 64) : (x &&& 16383#64).toNat = x.toNat % 16384 := andK x 14 (by omega)
theorem low_eq (b : BitVec 64) (hb : b.toNat < 16384) : b &&& 4095#64 = b.srem 4096#64 := by
  rw [sremN _ _ (by decide) (by omega)]
  apply BitVec.eq_of_toNat_eq
  rw [and4095, BitVec.toNat_umod]; rfl
theorem corner_eq (b : BitVec 64) (hb : b.toNat < 16384) : (b.sshiftRight 11 - 1#64 &&& 7#64) <<< 11 = (b.sdiv 2048#64 + 7#64).srem 8#64 * 2048#64 := by
  rw [sshN b 11 (by omega), sdivN _ _ (by decide) (by omega)]
  have h1 : (b / 2048#64).toNat = b.toNat / 2048 := by rw [BitVec.toNat_udiv]; rfl
  have h2 : (b / 2048#64 + 7#64).toNat = b.toNat / 2048 + 7 := by rw [BitVec.toNat_add, h1, show (7#64).toNat = 7 from rfl]; omega
  rw [sremN _ _ (by decide) (by rw [h2]; omega)]
  apply BitVec.eq_of_toNat_eq
  rw [BitVec.toNat_shiftLeft, and7s, BitVec.toNat_mul, BitVec.toNat_umod, h2, Nat.shiftLeft_eq, BitVec.toNat_sub, BitVec.toNat_ushiftRight, Nat.shiftRight_eq_div_pow]
  simp only [show (1#64).toNat = 1 from rfl, show (8#64).toNat = 8 from rfl, show (2048#64).toNat = 2048 from rfl]
  omega
theorem top_eq (b t : BitVec 64) (x y : Bool) (hb : b.toNat < 16384) (ht : t.toNat < 4096) : t ||| (b.sshiftRight 12 + v_bounds_truth x + v_bounds_truth y &&& 3#64) <<< 12 = t + (b.sdiv 4096#64 + v_bounds_truth x + v_bounds_truth y).srem 4#64 * 4096#64 := by
  rw [sshN b 12 (by omega), sdivN _ _ (by decide) (by omega)]
  have hx := truthN x
  have hy := truthN y
  have lx : (v_bounds_truth x).toNat ≤ 1 := by rw [hx]; cases x <;> simp
  have ly : (v_bounds_truth y).toNat ≤ 1 := by rw [hy]; cases y <;> simp
  have h1 : (b / 4096#64).toNat = b.toNat / 4096 := by rw [BitVec.toNat_udiv]; rfl
  have h2 : (b / 4096#64 + v_bounds_truth x + v_bounds_truth y).toNat = b.toNat / 4096 + (v_bounds_truth x).toNat + (v_bounds_truth y).toNat := by
    rw [BitVec.toNat_add, BitVec.toNat_add, h1]; omega
  have h3 : (b >>> 12 + v_bounds_truth x + v_bounds_truth y).toNat = b.toNat / 4096 + (v_bounds_truth x).toNat + (v_bounds_truth y).toNat := by
    rw [BitVec.toNat_add, BitVec.toNat_add, BitVec.toNat_ushiftRight, Nat.shiftRight_eq_div_pow]; omega
  rw [sremN _ _ (by decide) (by rw [h2]; omega)]
  apply BitVec.eq_of_toNat_eq
  have e : ((b >>> 12 + v_bounds_truth x + v_bounds_truth y &&& 3#64) <<< 12).toNat = (b.toNat / 4096 + (v_bounds_truth x).toNat + (v_bounds_truth y).toNat) % 4 * 4096 := by
    rw [BitVec.toNat_shiftLeft, and3s, h3, Nat.shiftLeft_eq]; omega
  rw [BitVec.or_comm, orAdd t _ 12 (by omega) (by rw [e]; omega), e, BitVec.toNat_add, BitVec.toNat_mul, BitVec.toNat_umod, h2]
  simp only [show (4#64).toNat = 4 from rfl, show (4096#64).toNat = 4096 from rfl]
  omega
theorem middle_eq (a e : BitVec 64) : BitVec.setWidth 64 (a >>> min e.toNat 64) &&& 16383#64 = BitVec.setWidth 64 (a >>> min (BitVec.signExtend 64 e).toNat 64 % 16384#64) := by
  rw [BitVec.signExtend_eq, BitVec.setWidth_eq, BitVec.setWidth_eq]
  apply BitVec.eq_of_toNat_eq
  rw [and16383, BitVec.toNat_umod]; rfl
theorem of_eq {c : Cp} (he : c.e.toNat ≤ 52) (hb : c.b.toNat < 16384) (ht : c.t.toNat < 4096) : v_bounds_Of c = v_r03_Of c := by
  have n1 : c.e.toNat < 9223372036854775808 := by omega
  have n2' : (c.e + 14#64).toNat = c.e.toNat + 14 := by rw [BitVec.toNat_add, show (14#64).toNat = 14 from rfl]; omega
  have n2 : (c.e + 14#64).toNat < 9223372036854775808 := by omega
  have hA : (c.ad >>> min (c.e + 14#64).toNat 64).toNat < 4611686018427387904 := by
    have := c.ad.isLt
    rw [BitVec.toNat_ushiftRight, Nat.shiftRight_eq_div_pow]
    have h2 : 2 ^ 14 ≤ 2 ^ (min (c.e + 14#64).toNat 64) := Nat.pow_le_pow_right (by decide) (by omega)
    have h3 : c.ad.toNat / 2 ^ (min (c.e + 14#64).toNat 64) ≤ c.ad.toNat / 2 ^ 14 := Nat.div_le_div_left h2 (by decide)
    omega
  have s1 := fun x y => up_step (c.ad >>> min (c.e + 14#64).toNat 64) (c.e + 14#64) x y n2 hA
  have s0 := fun x y => up_step (0#64) (c.e + 14#64) x y n2 (by decide)
  have lw := fun m => up_low m c.e n1
  have ma := middle_eq c.ad c.e
  unfold v_bounds_Of v_r03_Of
  simp only [one_truth, ← low_eq c.b hb, ← corner_eq c.b hb, ← top_eq c.b c.t _ _ hb ht, ← ma]
  simp only [BitVec.setWidth_eq, BitVec.signExtend_eq, s1, s0, lw, plus_add, flip_hi, four_eq]
end Go.Sx

/- Plain laws of bounds that are laid: the whole. -/
import Derived.Test.YtgmemioomkbofaaPlLay2
set_option linter.unusedSimpArgs false
set_option linter.unusedVariables false
set_option linter.unnecessarySimpa false
namespace Go.Sx
open Go
set_option maxHeartbeats 2000000
/-- A number cut down, and whether it lost something. -/
def cN (X k : Nat) : BitVec 64 := BitVec.ofNat 64 (X / 2 ^ k % 2048)
def cL (X k : Nat) : Bool := decide (X % 2 ^ k ≠ 0)
theorem cN_lt (X k : Nat) : (cN X k).toNat < 2048 := by
  unfold cN; rw [BitVec.toNat_ofNat]; omega
theorem cL_next (X k : Nat) : cL X (k + 1) = (cL X k || ((cN X k).srem 2#64 == 1#64)) := by
  have h1 := cN_lt X k
  unfold cL
  rw [sremN _ _ (by decide) (by omega), beqN, BitVec.toNat_umod, show (2#64).toNat = 2 from rfl, show (1#64).toNat = 1 from rfl]
  unfold cN
  rw [BitVec.toNat_ofNat, Nat.mod_pow_succ, Bool.eq_iff_iff]
  have hp := Nat.two_pow_pos k
  have hm := Nat.mod_lt X hp
  generalize X / 2 ^ k = q
  generalize X % 2 ^ k = m at *
  simp only [decide_eq_true_eq, Bool.or_eq_true]
  have hq : q % 2 = 0 ∨ q % 2 = 1 := by omega
  rcases hq with h | h
  · rw [h, Nat.mul_zero]; omega
  · rw [h]; omega
theorem truth_lt (b : Bool) : (v_bounds_truth b).toNat ≤ 1 := by cases b <;> decide
theorem up_mod (c : BitVec 64) (hc : c.toNat < 2048) (b : Bool) : (c + v_bounds_truth b &&& 2047#64) = (c + v_bounds_truth b).srem 2048#64 := by
  have hb := truth_lt b
  have h : (c + v_bounds_truth b).toNat = c.toNat + (v_bounds_truth b).toNat := by rw [BitVec.toNat_add]; omega
  rw [sremN _ _ (by decide) (by omega)]
  apply BitVec.eq_of_toNat_eq
  rw [and2047, BitVec.toNat_umod]; rfl
theorem same_mod (c : BitVec 64) (hc : c.toNat < 2048) : (c + 0#64).srem 2048#64 = c := by
  rw [BitVec.add_zero, sremN _ _ (by decide) (by omega)]
  apply BitVec.eq_of_toNat_eq
  rw [BitVec.toNat_umod, show (2048#64).toNat = 2048 from rfl]; omega
theorem far_eq (t b : BitVec 64) (ht : t.toNat < 2048) (hb : b.toNat < 2048) : (!(t - b &&& 1024#64) == 0#64) = (1024#64).sle ((t - b + 2048#64).srem 2048#64) := by
  have h1 : (t - b + 2048#64).toNat = (t.toNat + 2048 - b.toNat) := by
    rw [BitVec.toNat_add, BitVec.toNat_sub, show (2048#64).toNat = 2048 from rfl]; omega
  rw [sremN _ _ (by decide) (by omega), sleL _ _ (by decide), BitVec.toNat_umod, h1, show (2048#64).toNat = 2048 from rfl, show (1024#64).toNat = 1024 from rfl, beqN]
  have h2 : (t - b &&& 1024#64).toNat = (t - b).toNat / 1024 % 2 * 1024 := by
    have h3 : (t - b &&& 1024#64) = ((t - b) >>> 10 &&& 1#64) <<< 10 := by
      apply BitVec.eq_of_getLsbD_eq
      intro i hi
      have hm : ∀ j : Fin 64, (1024#64).getLsbD j.val = decide (j.val = 10) := by decide
      rw [BitVec.getLsbD_and, hm ⟨i, hi⟩, BitVec.getLsbD_shiftLeft, BitVec.getLsbD_and, BitVec.getLsbD_ushiftRight]
      have hm1 : ∀ j : Fin 64, (1#64).getLsbD j.val = decide (j.val = 0) := by decide
      rw [hm1 ⟨i - 10, by omega⟩]
      by_cases h : i = 10
      · subst h; simp
      · by_cases h4 : i < 10
        · simp [h, h4]
        · simp [h, h4, show ¬ i - 10 = 0 by omega]
    rw [h3, BitVec.toNat_shiftLeft, show (1#64) = BitVec.ofNat 64 (2 ^ 1 - 1) from rfl, andK _ 1 (by omega), BitVec.toNat_ushiftRight, Nat.shiftRight_eq_div_pow, Nat.shiftLeft_eq]
    omega
  rw [h2, BitVec.toNat_sub, show (0#64).toNat = 0 from rfl, Bool.eq_iff_iff]
  simp only [Bool.not_eq_true', decide_eq_false_iff_not, decide_eq_true_eq]
  omega
theorem low3 (x : BitVec 64) (hx : x.toNat < 2048) : x <<< 3 = x * 8#64 ∧ (x <<< 3 &&& 4095#64) = (x * 8#64).srem 4096#64 := by
  have e : x <<< 3 = x * 8#64 := by
    apply BitVec.eq_of_toNat_eq
    rw [BitVec.toNat_shiftLeft, BitVec.toNat_mul, Nat.shiftLeft_eq]; rfl
  have h : (x * 8#64).toNat = x.toNat * 8 := by rw [BitVec.toNat_mul, show (8#64).toNat = 8 from rfl]; omega
  refine ⟨e, ?_⟩
  rw [e, sremN _ _ (by decide) (by omega)]
  apply BitVec.eq_of_toNat_eq
  rw [and4095, BitVec.toNat_umod]; rfl
theorem srem_lt (x : BitVec 64) (hx : x.toNat < 9223372036854775808) : (x.srem 2048#64).toNat < 2048 := by
  rw [sremN _ _ (by decide) hx, BitVec.toNat_umod]
  exact Nat.mod_lt _ (by decide)
/-- Mantissas, told by numbers. -/
theorem mant_val (f t : W2) (hf : f.hi.toNat < 2) (ht : t.hi.toNat < 2) (e : BitVec 64) (he : e.toNat ≤ 53) :
    v_bounds_mantissas f t e = (cN f.val (e.toNat + 3), (cN t.val (e.toNat + 3) + v_bounds_truth (cL t.val (e.toNat + 3))).srem 2048#64, cL f.val (e.toNat + 3), cL t.val (e.toNat + 3)) := by
  have h3 : (e + 3#64).toNat = e.toNat + 3 := by rw [BitVec.toNat_add, show (3#64).toNat = 3 from rfl]; omega
  obtain ⟨a1, a2⟩ := down_val f hf (e + 3#64) (by omega) (by omega)
  obtain ⟨b1, b2⟩ := down_val t ht (e + 3#64) (by omega) (by omega)
  unfold v_bounds_mantissas
  simp only [BitVec.setWidth_eq, a1, a2, b1, b2, h3]
  have := up_mod (cN t.val (e.toNat + 3)) (cN_lt _ _) (cL t.val (e.toNat + 3))
  unfold cN cL at *
  rw [this]
theorem cutv (x : W2) (hh : x.hi.toNat < 2) (e : BitVec 64) (he : e.toNat ≤ 53) : v_r03_cut x (e + 3#64) = (cN x.val (e.toNat + 3), cL x.val (e.toNat + 3)) := by
  have h3 : (e + 3#64).toNat = e.toNat + 3 := by rw [BitVec.toNat_add, show (3#64).toNat = 3 from rfl]; omega
  rw [cut_val x hh _ (by omega), h3]; rfl
end Go.Sx

/- Plain laws of bounds: the program's are the document's. -/
import Derived.Test.YtgmemioomkbofaaPlR
import Derived.Test.YtgmemioomkbofaaPlUp
set_option linter.unusedSimpArgs false
set_option linter.unusedVariables false
set_option linter.unnecessarySimpa false
namespace Go.Sx
open Go
theorem one_truth (b : Bool) : v_r03_one b = v_bounds_truth b := by cases b <;> rfl
theorem upIter_add : ∀ (k j : Nat) (h l : BitVec 64), upIter (k + j) h l = upIter j (upIter k h l).1 (upIter k h l).2
  | 0, j, h, l => by simp [upIter]
  | k + 1, j, h, l => by rw [show k + 1 + j = (k + j) + 1 by omega]; simp only [upIter]; exact upIter_add k j _ _
theorem upIter_eq : ∀ (k : Nat) (h l : BitVec 64), k ≠ 0 → upIter k h l = (BitVec.ofNat 64 (l.toNat * 2 ^ (k - 1) / 2 ^ 63 % 2), l <<< k)
  | 0, h, l, hk => absurd rfl hk
  | 1, h, l, _ => by
    simp only [upIter, Nat.sub_self, Nat.pow_zero, Nat.mul_one, Prod.mk.injEq, and_true]
    have := l.isLt
    apply BitVec.eq_of_toNat_eq
    rw [BitVec.toNat_ushiftRight, Nat.shiftRight_eq_div_pow, BitVec.toNat_ofNat]
    omega
  | k + 2, h, l, _ => by
    rw [show k + 2 = (k + 1) + 1 from rfl, upIter_add (k + 1) 1, upIter_eq (k + 1) h l (by omega)]
    simp only [upIter, Prod.mk.injEq]
    constructor
    · apply BitVec.eq_of_toNat_eq
      rw [BitVec.toNat_ushiftRight, Nat.shiftRight_eq_div_pow, BitVec.toNat_shiftLeft, BitVec.toNat_ofNat, Nat.shiftLeft_eq, Nat.add_sub_cancel]
      generalize l.toNat * 2 ^ (k + 1) = x
      omega
    · rw [← BitVec.shiftLeft_add]
theorem upF (n v h : BitVec 64) (hn : n.toNat < 9223372036854775808) : (v_up_loop { n := n, i := 0#64, za := 0#64, zb := 0#64, uh := h, ul := v }).uh = (upIter n.toNat h v).1 ∧ (v_up_loop { n := n, i := 0#64, za := 0#64, zb := 0#64, uh := h, ul := v }).ul = (upIter n.toNat h v).2 := by
  have hk : upM { n := n, i := 0#64, za := 0#64, zb := 0#64, uh := h, ul := v } = n.toNat := by
    unfold upM
    simp only
    rw [BitVec.toInt_eq_toNat_cond, BitVec.toInt_eq_toNat_cond]
    simp only [show (0#64).toNat = 0 from rfl]
    split <;> split <;> omega
  unfold v_up_loop
  rw [hk]
  exact ⟨rfl, rfl⟩
theorem up_closed (h l n : BitVec 64) (hn : n.toNat < 9223372036854775808) (hh : n = 0#64 ∨ True) : v_bounds_number_up ⟨h, l⟩ n = ⟨(upIter n.toNat h l).1, (upIter n.toNat h l).2⟩ := by
  have hl := l.isLt
  unfold v_bounds_number_up
  simp only [beqN, sleL _ _ (show (65#64).toNat < 9223372036854775808 by decide), show (0#64).toNat = 0 from rfl, show (64#64).toNat = 64 from rfl, show (65#64).toNat = 65 from rfl]
  by_cases h0 : n.toNat = 0
  · rw [decide_eq_true h0, cond_true, h0]; rfl
  · rw [decide_eq_false h0, cond_false, upIter_eq _ _ _ h0]
    by_cases h1 : 65 ≤ n.toNat
    · rw [decide_eq_true ⟨h1, hn⟩, cond_true]
      have e1 : l.toNat * 2 ^ (n.toNat - 1) / 2 ^ 63 % 2 = 0 := by
        rw [show n.toNat - 1 = 63 + ((n.toNat - 65) + 1) by omega, Nat.pow_add, Nat.mul_comm (2 ^ 63), ← Nat.mul_assoc, Nat.mul_div_cancel _ (by decide), Nat.pow_succ, ← Nat.mul_assoc, Nat.mul_mod_left]
      rw [e1, BitVec.shiftLeft_eq_zero (by omega)]
    · rw [decide_eq_false (by omega), cond_false]
      by_cases h2 : n.toNat = 64
      · rw [decide_eq_true h2, cond_true, h2, BitVec.shiftLeft_eq_zero (by omega)]
        simp only [W2.mk.injEq, and_true]
        apply BitVec.eq_of_toNat_eq
        rw [show (1#64) = BitVec.ofNat 64 (2 ^ 1 - 1) from rfl, andK l 1 (by omega), BitVec.toNat_ofNat, show (64 - 1 : Nat) = 63 from rfl, Nat.mul_div_cancel _ (by decide)]
        omega
      · rw [decide_eq_false h2, cond_false]
        have h3 : (64#64 - n).toNat = 64 - n.toNat := by rw [BitVec.toNat_sub, show (64#64).toNat = 64 from rfl]; omega
        rw [h3, Nat.min_eq_left (by omega), Nat.min_eq_left (by omega)]
        simp only [W2.mk.injEq, and_true]
        apply BitVec.eq_of_toNat_eq
        rw [show (1#64) = BitVec.ofNat 64 (2 ^ 1 - 1) from rfl, andK _ 1 (by omega), BitVec.toNat_ofNat, BitVec.toNat_ushiftRight, Nat.shiftRight_eq_div_pow]
        have e2 : l.toNat * 2 ^ (n.toNat - 1) / 2 ^ 63 = l.toNat / 2 ^ (64 - n.toNat) := by
          have : (2 : Nat) ^ 63 = 2 ^ (64 - n.toNat) * 2 ^ (n.toNat - 1) := by rw [← Nat.pow_add]; congr 1; omega
          rw [this, Nat.mul_div_mul_right _ _ (Nat.two_pow_pos _)]
        rw [e2]; omega
theorem up_low (m n : BitVec 64) (hn : n.toNat < 9223372036854775808) : v_bounds_number_up { hi := 0#64, lo := m } n = v_r03_up m false n := by
  rw [up_closed _ _ _ hn (.inr trivial)]
  unfold v_r03_up
  obtain ⟨h1, h2⟩ := upF n m 0#64 hn
  rw [cond_false, h1, h2]
theorem up_step (A n : BitVec 64) (x y : Bool) (hn : n.toNat < 9223372036854775808) (hA : A.toNat < 4611686018427387904) :
    v_bounds_number_up (v_bounds_signed (A + (v_bounds_truth x - v_bounds_truth y))) n = v_r03_up (v_r03_part A (v_bounds_truth x - v_bounds_truth y)).fst (v_r03_part A (v_bounds_truth x - v_bounds_truth y)).snd n := by
  unfold v_bounds_signed v_r03_part
  rw [BitVec.signExtend_eq, up_closed _ _ _ hn (.inr trivial)]
  have d0 : v_bounds_truth true = 1#64 := rfl
  have d1 : v_bounds_truth false = 0#64 := rfl
  have key : ∀ (v : BitVec 64) (b : Bool), v >>> 63 = cond b 1#64 0#64 → (⟨(upIter n.toNat (v >>> 63) v).1, (upIter n.toNat (v >>> 63) v).2⟩ : W2) = v_r03_up v b n := by
    intro v b hv
    unfold v_r03_up
    obtain ⟨h1, h2⟩ := upF n v 1#64 hn
    obtain ⟨h3, h4⟩ := upF n v 0#64 hn
    rw [hv]
    cases b
    · rw [cond_false, cond_false, h3, h4]
    · rw [cond_true, cond_true, h1, h2]
  have small : ∀ v : BitVec 64, v.toNat < 9223372036854775808 → v >>> 63 = cond false 1#64 0#64 := by
    intro v hv
    apply BitVec.eq_of_toNat_eq
    rw [BitVec.toNat_ushiftRight, Nat.shiftRight_eq_div_pow]
    simp; omega
  cases x <;> cases y
  · rw [d1, show (0#64 - 0#64 : BitVec 64) = 0#64 from rfl, show (0#64).slt 0#64 = false by decide, cond_false, BitVec.signExtend_eq]
    exact key _ _ (small _ (by simp; omega))
  · rw [d0, d1, show (0#64 - 1#64 : BitVec 64) = 18446744073709551615#64 from rfl, show (18446744073709551615#64).slt 0#64 = true by decide, cond_true]
    have e : A + 18446744073709551615#64 = A - 1#64 := by
      apply BitVec.eq_of_toNat_eq
      rw [BitVec.toNat_add, BitVec.toNat_sub, show (18446744073709551615#64).toNat = 18446744073709551615 from rfl, show (1#64).toNat = 1 from rfl]; omega
    rw [e]
    cases h0 : (A == 0#64) with
    | true =>
      have : A = 0#64 := by simpa using h0
      subst this
      exact key _ _ (by decide)
    | false =>
      have hne : A.toNat ≠ 0 := by rw [beqN] at h0; simpa using h0
      exact key _ _ (small _ (by rw [BitVec.toNat_sub, show (1#64).toNat = 1 from rfl]; omega))
  · rw [d0, d1, show (1#64 - 0#64 : BitVec 64) = 1#64 from rfl, show (1#64).slt 0#64 = false by decide, cond_false, BitVec.signExtend_eq]
    exact key _ _ (small _ (by rw [BitVec.toNat_add, show (1#64).toNat = 1 from rfl]; omega))
  · rw [d0, show (1#64 - 1#64 : BitVec 64) = 0#64 from rfl, show (0#64).slt 0#64 = false by decide, cond_false, BitVec.signExtend_eq]
    exact key _ _ (small _ (by simp; omega))
theorem and1 (x : BitVec 64) : x &&& 1#64 = x % 2#64 := by
  apply BitVec.eq_of_toNat_eq
  rw [show (1#64) = BitVec.ofNat 64 (2 ^ 1 - 1) from rfl, andK x 1 (by omega), BitVec.toNat_umod]; rfl
theorem plus_add (a b : W2) : v_bounds_number_plus a b = v_r03_add a b := by
  unfold v_bounds_number_plus v_r03_add
  cases (a.lo + b.lo).ult a.lo
  · simp only [cond_false, and1, BitVec.add_zero]
  · simp only [cond_true, and1]
theorem add_hi (a b : W2) : (v_r03_add a b).hi.toNat < 2 := by
  unfold v_r03_add
  cases (a.lo + b.lo).ult a.lo <;> simp only [cond_false, cond_true, BitVec.toNat_umod, show (2#64).toNat = 2 from rfl] <;> omega
theorem flip_hi (a b : W2) : ((v_r03_add a b).hi ^^^ 1#64 == 1#64) = (1#64 - (v_r03_add a b).hi == 1#64) := by
  have h := add_hi a b
  generalize (v_r03_add a b).hi = x at h
  have : x = 0#64 ∨ x = 1#64 := by
    rcases (show x.toNat = 0 ∨ x.toNat = 1 by omega) with h | h
    · left; exact BitVec.eq_of_toNat_eq h
    · right; exact BitVec.eq_of_toNat_eq h
  rcases this with rfl | rfl <;> decide
theorem four_eq (h a b : BitVec 64) : (h <<< 1 + a - b &&& 3#64) = (2#64 * h + a + 4#64 - b) % 4#64 := by
  apply BitVec.eq_of_toNat_eq
  rw [show (3#64) = BitVec.ofNat 64 (2 ^ 2 - 1) from rfl, andK _ 2 (by omega), BitVec.toNat_umod]
  simp only [BitVec.toNat_sub, BitVec.toNat_add, BitVec.toNat_shiftLeft, BitVec.toNat_mul, Nat.shiftLeft_eq, show (2#64).toNat = 2 from rfl, show (4#64).toNat = 4 from rfl]
  have := b.isLt
  omega
end Go.Sx

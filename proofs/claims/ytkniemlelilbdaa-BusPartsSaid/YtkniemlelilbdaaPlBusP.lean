/- BusParts: the law. -/
import Derived.Test.YtkniemlelilbdaaVm15p
import Derived.Test.YtkniemlelilbdaaPlBusM
set_option linter.unusedSimpArgs false
set_option linter.unusedVariables false
set_option linter.unnecessarySimpa false
namespace Go.Sx
open Go
theorem or_step {v l a : BitVec 64} {m w : Nat} (hv : v.toNat = a.toNat % 2 ^ m) (hl : l.toNat = a.toNat / 2 ^ m % 2 ^ w) (h : m + w ≤ 64) : (v ||| l <<< m).toNat = a.toNat % 2 ^ (m + w) := by
  have hvl : v.toNat < 2 ^ m := by rw [hv]; exact Nat.mod_lt _ (Nat.pow_pos (by decide))
  have hll : l.toNat < 2 ^ w := by rw [hl]; exact Nat.mod_lt _ (Nat.pow_pos (by decide))
  have hlt : l.toNat * 2 ^ m < 2 ^ 64 := by
    have h1 : l.toNat * 2 ^ m < 2 ^ w * 2 ^ m := (Nat.mul_lt_mul_right (Nat.pow_pos (by decide))).2 hll
    rw [← Nat.pow_add] at h1
    exact Nat.lt_of_lt_of_le h1 (Nat.pow_le_pow_right (by decide) (by omega))
  rw [BitVec.toNat_or, BitVec.toNat_shiftLeft, Nat.shiftLeft_eq, Nat.mod_eq_of_lt hlt]
  have e := Nat.shiftLeft_add_eq_or_of_lt hvl l.toNat
  rw [Nat.shiftLeft_eq] at e
  rw [Nat.or_comm, ← e, hv, hl, Nat.pow_add, Nat.mod_mul, Nat.mul_comm (2 ^ m), Nat.add_comm]
theorem all64 {v a : BitVec 64} (h : v.toNat = a.toNat % 2 ^ 64) : (v == a) = true := by
  rw [beq_iff_eq]
  apply BitVec.eq_of_toNat_eq
  rw [h]; exact Nat.mod_eq_of_lt a.isLt
set_option maxHeartbeats 8000000 in
theorem busParts_x (at_ a b : BitVec 64) : t_BusParts_x at_ a b = some (.bool true) := by
  have F := bp_facts at_ a b
  have hD := F.mem
  unfold t_BusParts_x
  have z0 : (0#64).toNat = a.toNat % 2 ^ 0 := by simp [Nat.mod_one]
  obtain ⟨r0_1, o0_1, l0_1, u0_1⟩ := F.part 0 1 (by decide) (by decide)
  simp only [show (BitVec.ofNat 64 0) = 0#64 from rfl, show (BitVec.ofNat 64 1) = 1#64 from rfl, show 8 * 0 = 0 from rfl, show 8 * 1 = 8 from rfl] at r0_1 o0_1 l0_1 u0_1
  obtain ⟨r1_1, o1_1, l1_1, u1_1⟩ := F.part 1 1 (by decide) (by decide)
  simp only [show (BitVec.ofNat 64 1) = 1#64 from rfl, show (BitVec.ofNat 64 1) = 1#64 from rfl, show 8 * 1 = 8 from rfl, show 8 * 1 = 8 from rfl] at r1_1 o1_1 l1_1 u1_1
  obtain ⟨r2_1, o2_1, l2_1, u2_1⟩ := F.part 2 1 (by decide) (by decide)
  simp only [show (BitVec.ofNat 64 2) = 2#64 from rfl, show (BitVec.ofNat 64 1) = 1#64 from rfl, show 8 * 2 = 16 from rfl, show 8 * 1 = 8 from rfl] at r2_1 o2_1 l2_1 u2_1
  obtain ⟨r3_1, o3_1, l3_1, u3_1⟩ := F.part 3 1 (by decide) (by decide)
  simp only [show (BitVec.ofNat 64 3) = 3#64 from rfl, show (BitVec.ofNat 64 1) = 1#64 from rfl, show 8 * 3 = 24 from rfl, show 8 * 1 = 8 from rfl] at r3_1 o3_1 l3_1 u3_1
  obtain ⟨r4_1, o4_1, l4_1, u4_1⟩ := F.part 4 1 (by decide) (by decide)
  simp only [show (BitVec.ofNat 64 4) = 4#64 from rfl, show (BitVec.ofNat 64 1) = 1#64 from rfl, show 8 * 4 = 32 from rfl, show 8 * 1 = 8 from rfl] at r4_1 o4_1 l4_1 u4_1
  obtain ⟨r5_1, o5_1, l5_1, u5_1⟩ := F.part 5 1 (by decide) (by decide)
  simp only [show (BitVec.ofNat 64 5) = 5#64 from rfl, show (BitVec.ofNat 64 1) = 1#64 from rfl, show 8 * 5 = 40 from rfl, show 8 * 1 = 8 from rfl] at r5_1 o5_1 l5_1 u5_1
  obtain ⟨r6_1, o6_1, l6_1, u6_1⟩ := F.part 6 1 (by decide) (by decide)
  simp only [show (BitVec.ofNat 64 6) = 6#64 from rfl, show (BitVec.ofNat 64 1) = 1#64 from rfl, show 8 * 6 = 48 from rfl, show 8 * 1 = 8 from rfl] at r6_1 o6_1 l6_1 u6_1
  obtain ⟨r7_1, o7_1, l7_1, u7_1⟩ := F.part 7 1 (by decide) (by decide)
  simp only [show (BitVec.ofNat 64 7) = 7#64 from rfl, show (BitVec.ofNat 64 1) = 1#64 from rfl, show 8 * 7 = 56 from rfl, show 8 * 1 = 8 from rfl] at r7_1 o7_1 l7_1 u7_1
  obtain ⟨r0_2, o0_2, l0_2, u0_2⟩ := F.part 0 2 (by decide) (by decide)
  simp only [show (BitVec.ofNat 64 0) = 0#64 from rfl, show (BitVec.ofNat 64 2) = 2#64 from rfl, show 8 * 0 = 0 from rfl, show 8 * 2 = 16 from rfl] at r0_2 o0_2 l0_2 u0_2
  obtain ⟨r2_2, o2_2, l2_2, u2_2⟩ := F.part 2 2 (by decide) (by decide)
  simp only [show (BitVec.ofNat 64 2) = 2#64 from rfl, show (BitVec.ofNat 64 2) = 2#64 from rfl, show 8 * 2 = 16 from rfl, show 8 * 2 = 16 from rfl] at r2_2 o2_2 l2_2 u2_2
  obtain ⟨r4_2, o4_2, l4_2, u4_2⟩ := F.part 4 2 (by decide) (by decide)
  simp only [show (BitVec.ofNat 64 4) = 4#64 from rfl, show (BitVec.ofNat 64 2) = 2#64 from rfl, show 8 * 4 = 32 from rfl, show 8 * 2 = 16 from rfl] at r4_2 o4_2 l4_2 u4_2
  obtain ⟨r6_2, o6_2, l6_2, u6_2⟩ := F.part 6 2 (by decide) (by decide)
  simp only [show (BitVec.ofNat 64 6) = 6#64 from rfl, show (BitVec.ofNat 64 2) = 2#64 from rfl, show 8 * 6 = 48 from rfl, show 8 * 2 = 16 from rfl] at r6_2 o6_2 l6_2 u6_2
  obtain ⟨r0_4, o0_4, l0_4, u0_4⟩ := F.part 0 4 (by decide) (by decide)
  simp only [show (BitVec.ofNat 64 0) = 0#64 from rfl, show (BitVec.ofNat 64 4) = 4#64 from rfl, show 8 * 0 = 0 from rfl, show 8 * 4 = 32 from rfl] at r0_4 o0_4 l0_4 u0_4
  obtain ⟨r4_4, o4_4, l4_4, u4_4⟩ := F.part 4 4 (by decide) (by decide)
  simp only [show (BitVec.ofNat 64 4) = 4#64 from rfl, show (BitVec.ofNat 64 4) = 4#64 from rfl, show 8 * 4 = 32 from rfl, show 8 * 4 = 32 from rfl] at r4_4 o4_4 l4_4 u4_4
  obtain ⟨r0_8, o0_8, l0_8, u0_8⟩ := F.part 0 8 (by decide) (by decide)
  simp only [show (BitVec.ofNat 64 0) = 0#64 from rfl, show (BitVec.ofNat 64 8) = 8#64 from rfl, show 8 * 0 = 0 from rfl, show 8 * 8 = 64 from rfl] at r0_8 o0_8 l0_8 u0_8
  have s0_1 := or_step z0 l0_1 (by decide)
  have s1_1 := or_step s0_1 l1_1 (by decide)
  have s2_1 := or_step s1_1 l2_1 (by decide)
  have s3_1 := or_step s2_1 l3_1 (by decide)
  have s4_1 := or_step s3_1 l4_1 (by decide)
  have s5_1 := or_step s4_1 l5_1 (by decide)
  have s6_1 := or_step s5_1 l6_1 (by decide)
  have s7_1 := or_step s6_1 l7_1 (by decide)
  have e1 := all64 (a := a) s7_1
  have s0_2 := or_step z0 l0_2 (by decide)
  have s2_2 := or_step s0_2 l2_2 (by decide)
  have s4_2 := or_step s2_2 l4_2 (by decide)
  have s6_2 := or_step s4_2 l6_2 (by decide)
  have e2 := all64 (a := a) s6_2
  have s0_4 := or_step z0 l0_4 (by decide)
  have s4_4 := or_step s0_4 l4_4 (by decide)
  have e4 := all64 (a := a) s4_4
  have s0_8 := or_step z0 l0_8 (by decide)
  have e8 := all64 (a := a) s0_8
  obtain ⟨q1, q2, q3, q4, q5, q6, q7, q8, q9⟩ := F.rest
  replace u0_1 := u0_1 (by decide)
  replace u1_1 := u1_1 (by decide)
  replace u2_1 := u2_1 (by decide)
  replace u3_1 := u3_1 (by decide)
  replace u4_1 := u4_1 (by decide)
  replace u5_1 := u5_1 (by decide)
  replace u6_1 := u6_1 (by decide)
  replace u7_1 := u7_1 (by decide)
  replace u0_2 := u0_2 (by decide)
  replace u2_2 := u2_2 (by decide)
  replace u4_2 := u4_2 (by decide)
  replace u6_2 := u6_2 (by decide)
  replace u0_4 := u0_4 (by decide)
  replace u4_4 := u4_4 (by decide)
  simp only [r0_1, r1_1, r2_1, r3_1, r4_1, r5_1, r6_1, r7_1, r0_2, r2_2, r4_2, r6_2, r0_4, r4_4, r0_8, o0_1, o1_1, o2_1, o3_1, o4_1, o5_1, o6_1, o7_1, o0_2, o2_2, o4_2, o6_2, o0_4, o4_4, o0_8, u0_1, u1_1, u2_1, u3_1, u4_1, u5_1, u6_1, u7_1, u0_2, u2_2, u4_2, u6_2, u0_4, u4_4, e1, e2, e4, e8, hD, q1, q2, q3, q4, q5, q6, q7, q8, q9, BitVec.setWidth_eq, Bool.not_true, Bool.not_false, cond_true, cond_false]
  have t1 : (v_capenc_Unpack false a b).tag = false := by unfold v_capenc_Unpack; cases (BitVec.setWidth 64 ((b ^^^ 35184305078276#64) >>> 26 &&& 1#64) == 1#64) <;> rfl
  have t2 : (v_capenc_Unpack false a b).ad = a := by unfold v_capenc_Unpack; cases (BitVec.setWidth 64 ((b ^^^ 35184305078276#64) >>> 26 &&& 1#64) == 1#64) <;> rfl
  simp only [t1, t2, beq_self_eq_true, Bool.not_false, Bool.and_true, cond_true]
end Go.Sx

/- BusParts: what stands in memory. -/
import Derived.Test.YtkniemlelilbdaaPlBusP0
import Derived.Test.YtkniemlelilbdaaPlRamBA0
set_option linter.unusedSimpArgs false
set_option linter.unusedVariables false
set_option linter.unnecessarySimpa false
namespace Go.Sx
open Go
/-! ### numbers of bytes, again -/
theorem byte_nat' (v : BitVec 64) {k : Nat} (h : k ≤ 8) : (byteOf v k).toNat = v.toNat / 2 ^ (8 * k) % 256 := by
  unfold byteOf
  rw [BitVec.toNat_setWidth, BitVec.toNat_ushiftRight, Nat.min_eq_left (by omega), Nat.shiftRight_eq_div_pow]
theorem sum_of (d : List (List AV)) (p x : Nat) : ∀ n, (∀ i, i < n → (bA d (p + i)).toNat = x / 2 ^ (8 * i) % 256) → sumB d p n = x % 2 ^ (8 * n)
  | 0, _ => by simp [sumB, Nat.mod_one]
  | n + 1, h => by
    unfold sumB
    rw [sum_of d p x n (fun i hi => h i (by omega)), h n (by omega)]
    rw [show 2 ^ (8 * (n + 1)) = 2 ^ (8 * n) * 256 by rw [Nat.mul_add, Nat.pow_add], Nat.mod_mul, Nat.mul_comm (2 ^ (8 * n))]
/-- Bytes from k on of a number's bytes. -/
theorem sum_part (d : List (List AV)) (o : Nat) (a : BitVec 64) (h : ∀ i, i < 8 → bA d (o + i) = byteOf a i) (k n : Nat) (hk : k + n ≤ 8) : sumB d (o + k) n = a.toNat / 2 ^ (8 * k) % 2 ^ (8 * n) := by
  apply sum_of
  intro i hi
  rw [Nat.add_assoc, h (k + i) (by omega), byte_nat' a (by omega), Nat.div_div_eq_div_mul, ← Nat.pow_add, Nat.mul_add]
/-- A place in memory. -/
theorem reg_ram {o k s : Nat} {P : BitVec 64} (hP : P.toNat = 2147483648 + o) (ho : o + k + s ≤ 4096) : v_reg 2147483648#64 4096#64 (P + BitVec.ofNat 64 k) (BitVec.ofNat 64 s) = true ∧ (P + BitVec.ofNat 64 k - 2147483648#64).toNat = o + k := by
  have hb : (2147483648#64).toNat = 2147483648 := rfl
  have hk : (BitVec.ofNat 64 k).toNat = k := ofNat_toNat (by omega)
  have hs : (BitVec.ofNat 64 s).toNat = s := ofNat_toNat (by omega)
  have h1 : (P + BitVec.ofNat 64 k).toNat = 2147483648 + o + k := by rw [BitVec.toNat_add, hP, hk]; omega
  have h2 : (P + BitVec.ofNat 64 k - 2147483648#64).toNat = o + k := by rw [BitVec.toNat_sub, h1, hb]; omega
  refine ⟨?_, h2⟩
  have h3 : (4096#64 - (P + BitVec.ofNat 64 k - 2147483648#64)).toNat = 4096 - (o + k) := by rw [BitVec.toNat_sub, h2, show (4096#64).toNat = 4096 from rfl]; omega
  unfold v_reg
  rw [BitVec.ule, BitVec.ule, BitVec.ule, sle_nat (by decide) (by omega), h1, h2, h3, hs, hb, show (4096#64).toNat = 4096 from rfl]
  rw [decide_eq_true (by omega), decide_eq_true (by show (0#64).toNat ≤ _; simp), decide_eq_true (by omega), decide_eq_true (by omega)]; rfl
theorem bp_pa (at_ : BitVec 64) : (bpP at_).toNat = 2147483648 + 16 * (at_.toNat % 256) := by
  have h1 : (at_ % 256#64).toNat = at_.toNat % 256 := by rw [BitVec.toNat_umod]; rfl
  have h2 : (at_ % 256#64 * 16#64).toNat = 16 * (at_.toNat % 256) := by rw [BitVec.toNat_mul, h1, show (16#64).toNat = 16 from rfl]; omega
  unfold bpP
  rw [BitVec.toNat_add, h2, show (2147483648#64).toNat = 2147483648 from rfl]; omega
theorem ok_at {o : BitVec 64} {s : Nat} (hs : v_sized (BitVec.ofNat 64 s) = true) (h : o.toNat + s ≤ 4096) : v_ok 4096 o (BitVec.ofNat 64 s) = true := by
  have e : (BitVec.ofNat 64 s).toNat = s := ofNat_toNat (by omega)
  unfold v_ok
  rw [hs, Bool.true_and]
  exact (v_in_iff (by decide) (by omega)).2 (by omega)
structure BpF (at_ a b : BitVec 64) : Prop where
  mem : g_ram 4096 (bpT at_) 4096 (bpD at_ a b) = true
  part : ∀ k s, v_sized (BitVec.ofNat 64 s) = true → k + s ≤ 8 → v_reg 2147483648#64 4096#64 (bpP at_ + BitVec.ofNat 64 k) (BitVec.ofNat 64 s) = true ∧ (!v_ok 4096 (bpP at_ + BitVec.ofNat 64 k - 2147483648#64) (BitVec.ofNat 64 s)) = false ∧
    (v_lV 4096 (bpD at_ a b) (bpP at_ + BitVec.ofNat 64 k - 2147483648#64) (BitVec.ofNat 64 s)).toNat = a.toNat / 2 ^ (8 * k) % 2 ^ (8 * s) ∧ (s < 8 → (BitVec.ofNat 64 (2 ^ (8 * s))).ule (v_lV 4096 (bpD at_ a b) (bpP at_ + BitVec.ofNat 64 k - 2147483648#64) (BitVec.ofNat 64 s)) = false)
  rest : v_reg 2147483648#64 4096#64 (bpP at_) 8#64 = true ∧ v_ok 4096 (bpP at_ - 2147483648#64) 8#64 = true ∧ v_reg 2147483648#64 4096#64 (bpP at_ + 8#64) 8#64 = true ∧ v_ok 4096 (bpP at_ + 8#64 - 2147483648#64) 8#64 = true ∧
    g_ram 4096 (v_sT 4096 zT (bpP at_ - 2147483648#64) 8#64) 4096 (v_sD 4096 (zB 4096) (bpP at_ - 2147483648#64) (8#64) a) = true ∧
    v_reg 2147483648#64 4096#64 (bpP at_) 16#64 = true ∧ v_okC 4096 (bpP at_ - 2147483648#64) = true ∧ v_cT 4096 (bpT at_) (bpP at_ - 2147483648#64) = false ∧ (v_cX 4096 (bpD at_ a b) (bpP at_ - 2147483648#64) 0 = a ∧ v_cX 4096 (bpD at_ a b) (bpP at_ - 2147483648#64) 8 = b)
theorem bp_facts (at_ a b : BitVec 64) : BpF at_ a b := by
  have hP := bp_pa at_
  generalize ho : 16 * (at_.toNat % 256) = o at hP
  have hol : o + 16 ≤ 4096 := by omega
  have ho16 : o % 16 = 0 := by omega
  have hR : ∀ k s, o + k + s ≤ 4096 → _ := fun k s h => reg_ram (k := k) (s := s) hP h
  have e0 : bpP at_ + BitVec.ofNat 64 0 = bpP at_ := by show _ + 0#64 = _; simp
  obtain ⟨r8, n8⟩ := hR 0 8 (by omega)
  obtain ⟨r16, _⟩ := hR 0 16 (by omega)
  rw [e0] at r8 n8 r16
  rw [Nat.add_zero] at n8
  obtain ⟨r88, n88⟩ := hR 8 8 (by omega)
  have s8 : v_sized (BitVec.ofNat 64 8) = true := rfl
  have k1 : v_ok 4096 (bpP at_ - 2147483648#64) 8#64 = true := ok_at s8 (by omega)
  have k2 : v_ok 4096 (bpP at_ + 8#64 - 2147483648#64) 8#64 = true := ok_at s8 (by rw [show (8#64) = BitVec.ofNat 64 8 from rfl, n88]; omega)
  have n88' : (bpP at_ + 8#64 - 2147483648#64).toNat = o + 8 := n88
  have hm1 := Rok.zero.store (bpP at_ - 2147483648#64) 8#64 a
  have hm : Rok 4096 (bpT at_) (bpD at_ a b) := hm1.store _ _ _
  have hz : (zB 4096).length = 4096 := List.length_replicate
  have hbytes : ∀ j, bA (bpD at_ a b) j = if o + 8 ≤ j ∧ j < o + 16 then byteOf b (j - (o + 8)) else if o ≤ j ∧ j < o + 8 then byteOf a (j - o) else bA (zB 4096) j := by
    intro j
    unfold bpD v_sD
    rw [k1, k2, cond_true, cond_true, n8, n88', show (8#64).toNat = 8 from rfl]
    rw [bA_put _ _ _ _ _ (by rw [v_put_len, hz]; omega), bA_put _ _ _ _ _ (by rw [hz]; omega)]
  have hA : ∀ i, i < 8 → bA (bpD at_ a b) (o + i) = byteOf a i := fun i hi => by
    rw [hbytes, if_neg (by omega), if_pos (by omega), Nat.add_sub_cancel_left]
  have hB : ∀ i, i < 8 → bA (bpD at_ a b) (o + 8 + i) = byteOf b i := fun i hi => by
    rw [hbytes, if_pos (by omega), Nat.add_sub_cancel_left]
  have kC : v_okC 4096 (bpP at_ - 2147483648#64) = true := by
    unfold v_okC
    rw [Bool.and_eq_true, beq_iff_eq]
    refine ⟨(v_in_iff (n := 4096) (size := 16#64) (by decide) (by decide)).2 (by rw [n8]; show o + 16 ≤ 4096; omega), ?_⟩
    apply BitVec.eq_of_toNat_eq
    rw [sremN _ 16#64 (by decide) (by omega), BitVec.toNat_umod, n8]
    exact ho16
  refine { mem := hm.ram, part := fun k s hs hks => ?_, rest := ⟨r8, k1, r88, k2, hm1.ram, r16, kC, ?_, ?_, ?_⟩ }
  · obtain ⟨r, n⟩ := hR k s (by omega)
    have hok := ok_at (o := bpP at_ + BitVec.ofNat 64 k - 2147483648#64) hs (by omega)
    have hl : (v_lV 4096 (bpD at_ a b) (bpP at_ + BitVec.ofNat 64 k - 2147483648#64) (BitVec.ofNat 64 s)).toNat = a.toNat / 2 ^ (8 * k) % 2 ^ (8 * s) := by
      unfold v_lV
      rw [hok, cond_true, n, ofNat_toNat (n := s) (by omega), get_nat _ _ _ (by omega)]
      exact sum_part _ o a hA k s hks
    refine ⟨r, by rw [hok]; rfl, hl, fun h8 => ?_⟩
    rw [BitVec.ule, hl, ofNat_toNat (Nat.pow_lt_pow_right (by decide) (by omega))]
    exact decide_eq_false (Nat.not_le.2 (Nat.mod_lt _ (Nat.pow_pos (by decide))))
  · unfold v_cT
    rw [kC, cond_true, n8]
    unfold bpT v_sT
    rw [k1, k2, cond_true, cond_true, n8, n88', show (8#64).toNat = 8 from rfl]
    rw [tag_clr _ _ _ (by rw [v_clr_len, v_clr_len, v_clr_len]; rfl) (by omega), tag_clr _ _ _ (by rw [v_clr_len, v_clr_len]; rfl) (by omega), decide_eq_true (show o / 16 = (o + 8) / 16 by omega)]
    simp
  · unfold v_cX
    rw [kC, cond_true, n8]
    apply BitVec.eq_of_toNat_eq
    rw [get_nat _ _ _ (by omega), sum_part _ o a hA 0 8 (by omega)]
    have := a.isLt
    show a.toNat / 1 % 2 ^ 64 = a.toNat
    rw [Nat.div_one]; exact Nat.mod_eq_of_lt this
  · unfold v_cX
    rw [kC, cond_true, n8]
    apply BitVec.eq_of_toNat_eq
    have := sum_part _ (o + 8) b hB 0 8 (by omega)
    rw [Nat.add_zero] at this
    rw [get_nat _ _ _ (by omega), this]
    have := b.isLt
    show b.toNat / 1 % 2 ^ 64 = b.toNat
    rw [Nat.div_one]; exact Nat.mod_eq_of_lt this
end Go.Sx

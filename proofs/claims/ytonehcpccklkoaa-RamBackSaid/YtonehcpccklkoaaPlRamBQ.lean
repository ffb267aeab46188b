/- RamBack: the law. -/
import Derived.Test.YtonehcpccklkoaaVm11b
import Derived.Test.YtonehcpccklkoaaPlB
set_option linter.unusedSimpArgs false
set_option linter.unusedVariables false
set_option linter.unnecessarySimpa false
namespace Go.Sx
open Go
theorem byte_nat (v : BitVec 64) {k : Nat} (h : k ≤ 8) : (byteOf v k).toNat = v.toNat / 2 ^ (8 * k) % 256 := by
  unfold byteOf
  rw [BitVec.toNat_setWidth, BitVec.toNat_ushiftRight, Nat.min_eq_left (by omega), Nat.shiftRight_eq_div_pow]
theorem sum_put (d : List (List AV)) (o n : Nat) (v : BitVec 64) (h : o + n ≤ d.length) (h8 : n ≤ 8) : ∀ k, k ≤ n → sumB (v_put d o n v) o k = v.toNat % 2 ^ (8 * k)
  | 0, _ => by simp [sumB, Nat.mod_one]
  | k + 1, hk => by
    unfold sumB
    rw [sum_put d o n v h h8 k (by omega), bA_put d o v (o + k) n h, if_pos (by omega), Nat.add_sub_cancel_left, byte_nat v (by omega)]
    rw [show 2 ^ (8 * (k + 1)) = 2 ^ (8 * k) * 256 by rw [Nat.mul_add, Nat.pow_add], Nat.mod_mul, Nat.mul_comm (2 ^ (8 * k))]
theorem sized_cases {size : BitVec 64} (h : v_sized size = true) : size = 1#64 ∨ size = 2#64 ∨ size = 4#64 ∨ size = 8#64 := by
  simpa [v_sized, Bool.or_eq_true, beq_iff_eq] using h
theorem back_shift (v : BitVec 64) {size : BitVec 64} (h : v_sized size = true) : (v <<< min (BitVec.signExtend 64 (64#64 - 8#64 * size)).toNat 64 >>> min (BitVec.signExtend 64 (64#64 - 8#64 * size)).toNat 64).toNat = v.toNat % 2 ^ (8 * size.toNat) := by
  have hv := v.isLt
  rcases sized_cases h with rfl | rfl | rfl | rfl
  · show (v <<< 56 >>> 56).toNat = v.toNat % 2 ^ 8
    rw [BitVec.toNat_ushiftRight, BitVec.toNat_shiftLeft, Nat.shiftLeft_eq, Nat.shiftRight_eq_div_pow]; omega
  · show (v <<< 48 >>> 48).toNat = v.toNat % 2 ^ 16
    rw [BitVec.toNat_ushiftRight, BitVec.toNat_shiftLeft, Nat.shiftLeft_eq, Nat.shiftRight_eq_div_pow]; omega
  · show (v <<< 32 >>> 32).toNat = v.toNat % 2 ^ 32
    rw [BitVec.toNat_ushiftRight, BitVec.toNat_shiftLeft, Nat.shiftLeft_eq, Nat.shiftRight_eq_div_pow]; omega
  · show (v <<< 0 >>> 0).toNat = v.toNat % 2 ^ 64
    rw [BitVec.toNat_ushiftRight, BitVec.toNat_shiftLeft, Nat.shiftLeft_eq, Nat.shiftRight_eq_div_pow]; omega
theorem ok_sle {o size : BitVec 64} (ho : o.toNat < 4100) (hs : v_sized size = true) : v_ok 4096 o size = (o + size).sle 4096#64 := by
  have hn := v_sized_nat hs
  have ha : (o + size).toNat = o.toNat + size.toNat := by rw [BitVec.toNat_add]; omega
  rw [sle_nat (by omega) (by decide), ha]
  unfold v_ok
  rw [hs, Bool.true_and, Bool.eq_iff_iff, v_in_iff (by decide) (by omega), decide_eq_true_eq]
  rfl
theorem back_lV {d : List (List AV)} {o size v : BitVec 64} (hd : d.length = 4096) (hok : v_ok 4096 o size = true) :
    v_lV 4096 (v_sD 4096 d o size v) o size = v <<< min (BitVec.signExtend 64 (64#64 - 8#64 * size)).toNat 64 >>> min (BitVec.signExtend 64 (64#64 - 8#64 * size)).toNat 64 := by
  have hs : v_sized size = true := by unfold v_ok at hok; rw [Bool.and_eq_true] at hok; exact hok.1
  have hn := v_sized_nat hs
  have hle : o.toNat + size.toNat ≤ 4096 := by unfold v_ok at hok; rw [Bool.and_eq_true] at hok; exact (v_in_iff (by decide) (by omega)).1 hok.2
  apply BitVec.eq_of_toNat_eq
  rw [back_shift v hs]
  unfold v_lV v_sD
  rw [hok, cond_true, cond_true, get_nat _ _ _ (by omega), sum_put d _ _ v (by omega) (by omega) _ (Nat.le_refl _)]
theorem back_lV0 {d : List (List AV)} {o size : BitVec 64} (hok : v_ok 4096 o size = false) : v_lV 4096 d o size = 0#64 := by unfold v_lV; rw [hok]; rfl
theorem back_chk {d w : List (List AV)} (hd : d.length = 4096) (hw : ∀ x, x < 4096 → bA w x = bA d x) (o size v : BitVec 64) (j : Nat) (hj : j < 4096) : chkB (v_sD 4096 d o size v) w o size v (v_ok 4096 o size) j = true := by
  unfold chkB v_sD
  cases hok : v_ok 4096 o size with
  | false => simp only [Bool.false_and, cond_false]; rw [hw j hj]; exact beq_self_eq_true _
  | true =>
    have hs : v_sized size = true := by unfold v_ok at hok; rw [Bool.and_eq_true] at hok; exact hok.1
    have hn := v_sized_nat hs
    have hle : o.toNat + size.toNat ≤ 4096 := by unfold v_ok at hok; rw [Bool.and_eq_true] at hok; exact (v_in_iff (by decide) (by omega)).1 hok.2
    have hi : (BitVec.ofNat 64 j).toNat = j := ofNat_toNat (by omega)
    have ha : (o + size).toNat = o.toNat + size.toNat := by rw [BitVec.toNat_add]; omega
    rw [sle_nat (by omega) (by omega), slt_nat (by omega) (by omega), hi, ha]
    simp only [Bool.true_and, cond_true]
    rw [bA_put _ _ _ _ _ (by omega)]
    by_cases q : o.toNat ≤ j ∧ j < o.toNat + size.toNat
    · rw [decide_eq_true q.1, decide_eq_true q.2, if_pos q, Bool.and_self, cond_true, beq_iff_eq]
      have hsub : (BitVec.ofNat 64 j - o).toNat = j - o.toNat := by rw [BitVec.toNat_sub, hi]; omega
      have hm : (8#64 * (BitVec.ofNat 64 j - o)).toNat = 8 * (j - o.toNat) := by rw [BitVec.toNat_mul, hsub, show (8#64).toNat = 8 from rfl]; omega
      apply BitVec.eq_of_toNat_eq
      rw [BitVec.signExtend_eq, hm, Nat.min_eq_left (by omega), BitVec.toNat_setWidth, byte_nat v (by omega), BitVec.toNat_umod, BitVec.toNat_ushiftRight, Nat.shiftRight_eq_div_pow, show (256#64).toNat = 256 from rfl]
      omega
    · rw [if_neg q, hw j hj]
      have : (decide (o.toNat ≤ j) && decide (j < o.toNat + size.toNat)) = false := by
        rw [Bool.eq_false_iff]; intro h; rw [Bool.and_eq_true, decide_eq_true_eq, decide_eq_true_eq] at h; exact q h
      rw [this, cond_false]; exact beq_self_eq_true _
theorem back_mbc {tg d w : List (List AV)} (h : Rok 4096 tg d) (hw : ∀ x, x < 4096 → bA w x = bA d x) (o size v : BitVec 64) (f : Bool) (hf : f = v_ok 4096 o size) :
    g_mbc (.a 4096 (v_sT 4096 tg o size) 4096 (v_sD 4096 d o size v) o size v 4096 4096 w f 0#64) = true := by
  subst hf
  exact g_mbc_ok ⟨rfl, rfl, h.store _ _ _, rfl, rfl, rfl, fun j hj => back_chk h.ld hw o size v j hj⟩
theorem mbb_fact {tg d : List (List AV)} (h : Rok 4096 tg d) (o size v : BitVec 64) : g_mbb (.a 4096 tg 4096 d o size v 4096 4096 (zB 4096) 0#64) = true ∧ ∀ x, x < 4096 → bA (v_mbb (.a 4096 tg 4096 d o size v 4096 4096 (zB 4096) 0#64)) x = bA d x := by
  have hok : mbbOk (.a 4096 tg 4096 d o size v 4096 4096 (zB 4096) 0#64) := ⟨rfl, rfl, h, rfl, rfl, List.length_replicate, rfl⟩
  exact ⟨g_mbb_ok hok, (v_mbb_ok hok).1.2⟩
theorem o_lt (off : BitVec 64) : (v_kit_Pick off 4100#64).toNat < 4100 := pickLt off 4100#64 (by decide) (by decide)
set_option maxHeartbeats 4000000 in
theorem ramBack_n (off size v : BitVec 64) : t_RamBack_n off size v = some (.bool true) := by
  unfold t_RamBack_n
  have h := Rok.zero
  generalize zT = tg at h ⊢
  have hb := mbb_fact h (v_kit_Pick off 4100#64) size v
  generalize hz : zB 4096 = d at h hb ⊢
  have ho := o_lt off
  generalize v_kit_Pick off 4100#64 = o at ho hb ⊢
  rw [hb.1, cond_true]
  generalize v_mbb (.a 4096 tg 4096 d o size v 4096 4096 d 0#64) = w at hb ⊢
  cases hs : v_sized size with
  | true =>
    have e := ok_sle ho hs
    have hc := sized_cases hs
    have hm := back_mbc h hb.2 o size v ((o + size).sle 4096#64) e.symm
    cases hok : v_ok 4096 o size with
    | true =>
      have hl := back_lV (v := v) h.ld hok
      rw [hok] at e
      rw [← e] at hm ⊢
      simp only [h.ram, (h.store o size v).ram, hl, hm, beq_self_eq_true, Bool.not_true, cond_true, cond_false]
      rcases hc with rfl | rfl | rfl | rfl <;> rfl
    | false =>
      have hl := back_lV0 (d := v_sD 4096 d o size v) hok
      rw [hok] at e
      rw [← e] at hm ⊢
      simp only [h.ram, (h.store o size v).ram, hl, hm, beq_self_eq_true, Bool.not_true, Bool.not_false, cond_true, cond_false]
      rcases hc with rfl | rfl | rfl | rfl <;> rfl
  | false =>
    have hok : v_ok 4096 o size = false := by unfold v_ok; rw [hs]; rfl
    have hl := back_lV0 (d := v_sD 4096 d o size v) hok
    have hm := back_mbc h hb.2 o size v false hok.symm
    have hs' := hs
    simp only [v_sized, Bool.or_eq_false_iff] at hs'
    obtain ⟨q1, q2, q4, q8⟩ := hs'
    simp only [q1, q2, q4, q8, h.ram, (h.store o size v).ram, hok, hl, hm, beq_self_eq_true, Bool.not_true, Bool.not_false, cond_true, cond_false]
set_option maxHeartbeats 4000000 in
theorem ramBack_r (k : Nat) (d : List (List AV)) (off size v : BitVec 64) (hl : d.length = k) (hf : fitsAll [.int .u64] d = true) (hn : k < 2 ^ 63) : t_RamBack_r k d off size v = some (.bool true) := by
  unfold t_RamBack_r
  have hok0 : mbaOk (mba0 k d off size v) := ⟨rfl, Rok.zero, Nat.le_refl _, hn, by simp⟩
  have h : Rok 4096 (v_mba (mba0 k d off size v)).tg (v_mba (mba0 k d off size v)).d := (v_mba_ok hok0).1
  rw [g_mba_ok hok0, cond_true]
  generalize (v_mba (mba0 k d off size v)).tg = tg at h ⊢
  generalize (v_mba (mba0 k d off size v)).d = d at h ⊢
  have hb := mbb_fact h (v_kit_Pick off 4100#64) size v
  have ho := o_lt off
  generalize v_kit_Pick off 4100#64 = o at ho hb ⊢
  rw [hb.1, cond_true]
  generalize v_mbb (.a 4096 tg 4096 d o size v 4096 4096 (zB 4096) 0#64) = w at hb ⊢
  cases hs : v_sized size with
  | true =>
    have e := ok_sle ho hs
    have hc := sized_cases hs
    have hm := back_mbc h hb.2 o size v ((o + size).sle 4096#64) e.symm
    cases hok : v_ok 4096 o size with
    | true =>
      have hl := back_lV (v := v) h.ld hok
      rw [hok] at e
      rw [← e] at hm ⊢
      simp only [h.ram, (h.store o size v).ram, hl, hm, beq_self_eq_true, Bool.not_true, cond_true, cond_false]
      rcases hc with rfl | rfl | rfl | rfl <;> rfl
    | false =>
      have hl := back_lV0 (d := v_sD 4096 d o size v) hok
      rw [hok] at e
      rw [← e] at hm ⊢
      simp only [h.ram, (h.store o size v).ram, hl, hm, beq_self_eq_true, Bool.not_true, Bool.not_false, cond_true, cond_false]
      rcases hc with rfl | rfl | rfl | rfl <;> rfl
  | false =>
    have hok : v_ok 4096 o size = false := by unfold v_ok; rw [hs]; rfl
    have hl := back_lV0 (d := v_sD 4096 d o size v) hok
    have hm := back_mbc h hb.2 o size v false hok.symm
    have hs' := hs
    simp only [v_sized, Bool.or_eq_false_iff] at hs'
    obtain ⟨q1, q2, q4, q8⟩ := hs'
    simp only [q1, q2, q4, q8, h.ram, (h.store o size v).ram, hok, hl, hm, beq_self_eq_true, Bool.not_true, Bool.not_false, cond_true, cond_false]
end Go.Sx

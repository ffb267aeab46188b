/- BusCaps: the law. -/
import Derived.Test.YtkniemlelilbdaaVm15c
import Derived.Test.YtkniemlelilbdaaPlBusN
import Derived.Test.YtkniemlelilbdaaPlEnc
set_option linter.unusedSimpArgs false
set_option linter.unusedVariables false
set_option linter.unnecessarySimpa false
namespace Go.Sx
open Go
theorem bc_nat (at_ : BitVec 64) : (bcP at_).toNat = 2147483648 + 16 * (at_.toNat % 255) := by
  have h1 : (at_ % 255#64).toNat = at_.toNat % 255 := by rw [BitVec.toNat_umod]; rfl
  have h2 : (at_ % 255#64 * 16#64).toNat = 16 * (at_.toNat % 255) := by rw [BitVec.toNat_mul, h1, show (16#64).toNat = 16 from rfl]; omega
  unfold bcP
  rw [BitVec.toNat_add, h2, show (2147483648#64).toNat = 2147483648 from rfl]; omega
theorem okC_of' {g : BitVec 64} (h : g.toNat + 16 ≤ 4096) (h16 : g.toNat % 16 = 0) : v_okC 4096 g = true := by
  unfold v_okC
  rw [Bool.and_eq_true, beq_iff_eq]
  refine ⟨(v_in_iff (n := 4096) (size := 16#64) (by decide) (by decide)).2 h, ?_⟩
  apply BitVec.eq_of_toNat_eq
  rw [sremN _ 16#64 (by decide) (by omega), BitVec.toNat_umod]
  exact h16
theorem tT_len' (n : Nat) (tg : List (List AV)) (off : BitVec 64) (t : Bool) : (v_tT n tg off t).length = tg.length := by
  unfold v_tT; cases v_okC n off <;> cases t <;> simp only [cond_true, cond_false, v_clr_len, v_lay_len]
theorem tD_len' (n : Nat) (d : List (List AV)) (off x y : BitVec 64) : (v_tD n d off x y).length = d.length := by
  unfold v_tD; cases v_okC n off <;> simp only [cond_true, cond_false, v_put_len]
theorem Rok.cap' {n : Nat} {tg d : List (List AV)} (h : Rok n tg d) (off : BitVec 64) (t : Bool) (x y : BitVec 64) : Rok n (v_tT n tg off t) (v_tD n d off x y) :=
  { ld := by rw [tD_len']; exact h.ld, lg := by rw [tT_len']; exact h.lg, lo := h.lo, hi := h.hi }
theorem unp_tag (t : Bool) (a b : BitVec 64) : (v_capenc_Unpack t a b).tag = t := by unfold v_capenc_Unpack; cases (BitVec.setWidth 64 ((b ^^^ 35184305078276#64) >>> 26 &&& 1#64) == 1#64) <;> rfl
set_option maxHeartbeats 4000000 in
theorem busCaps_x (c d : Cp) (at_ k v : BitVec 64) : t_BusCaps_x c d at_ k v = some (.bool true) := by
  have hP := bc_nat at_
  generalize ho : 16 * (at_.toNat % 255) = o at hP
  have hol : o + 32 ≤ 4096 := by omega
  have ho16 : o % 16 = 0 := by omega
  have e0 : bcP at_ + BitVec.ofNat 64 0 = bcP at_ := by show _ + 0#64 = _; simp
  obtain ⟨r16, n0⟩ := reg_ram (k := 0) (s := 16) hP (by omega)
  obtain ⟨r8, _⟩ := reg_ram (k := 0) (s := 8) hP (by omega)
  obtain ⟨q16, n16⟩ := reg_ram (k := 16) (s := 16) hP (by omega)
  rw [e0] at r16 n0 r8
  rw [Nat.add_zero] at n0
  have hk : (k % 16#64).toNat = k.toNat % 16 := by rw [BitVec.toNat_umod]; rfl
  obtain ⟨k1, nk⟩ := reg_ram (k := k.toNat % 16) (s := 1) hP (by omega)
  rw [show BitVec.ofNat 64 (k.toNat % 16) = k % 16#64 by apply BitVec.eq_of_toNat_eq; rw [hk, ofNat_toNat (by omega)]] at k1 nk
  have nO : (bcO at_).toNat = o := by unfold bcO; rw [BitVec.setWidth_eq]; exact n0
  have nQ : (bcQ at_).toNat = o + 16 := by unfold bcQ; rw [BitVec.setWidth_eq]; exact n16
  have r16' : v_reg 2147483648#64 4096#64 (bcP at_) 16#64 = true := r16
  have r8' : v_reg 2147483648#64 4096#64 (bcP at_) 8#64 = true := r8
  have q16' : v_reg 2147483648#64 4096#64 (bcP at_ + 16#64) 16#64 = true := q16
  have k1' : v_reg 2147483648#64 4096#64 (bcP at_ + k % 16#64) 1#64 = true := k1
  have oO : v_okC 4096 (bcO at_) = true := okC_of' (by omega) (by omega)
  have oQ : v_okC 4096 (bcQ at_) = true := okC_of' (by omega) (by omega)
  have o8 : v_ok 4096 (bcP at_ - 2147483648#64) 8#64 = true := ok_at (s := 8) rfl (by omega)
  have o1 : v_ok 4096 (bcP at_ + k % 16#64 - 2147483648#64) 1#64 = true := ok_at (s := 1) rfl (by omega)
  have m1 := Rok.zero.cap' (bcO at_) (v_l05_Right c).tag (v_capenc_Pack (v_l05_Right c)).fst (v_capenc_Pack (v_l05_Right c)).snd
  have m2 : Rok 4096 (bcT at_ c d) (bcD at_ c d) := m1.cap' _ _ _ _
  have m3 := m2.store (bcP at_ + k % 16#64 - 2147483648#64) 1#64 v
  have x1 : v_cX 4096 (bcD at_ c d) (bcO at_) 0 = (v_l05_Right c).ad := by unfold bcD; rw [cX_tD_ne m1.ld oQ (by omega) 0 (by omega), cX_tD0 Rok.zero.ld oO]; rfl
  have x2 : v_cX 4096 (bcD at_ c d) (bcO at_) 8 = v_capenc_meta (v_l05_Right c) ^^^ 35184305078276#64 := by unfold bcD; rw [cX_tD_ne m1.ld oQ (by omega) 8 (by omega), cX_tD8 Rok.zero.ld oO]; rfl
  have x3 : v_cX 4096 (bcD at_ c d) (bcQ at_) 0 = (v_l05_Right d).ad := by unfold bcD; rw [cX_tD0 m1.ld oQ]; rfl
  have x4 : v_cX 4096 (bcD at_ c d) (bcQ at_) 8 = v_capenc_meta (v_l05_Right d) ^^^ 35184305078276#64 := by unfold bcD; rw [cX_tD8 m1.ld oQ]; rfl
  have t1 : v_cT 4096 (bcT at_ c d) (bcO at_) = (v_l05_Right c).tag := by unfold bcT; rw [cT_tT_ne _ m1.lg oQ (by omega), cT_tT _ Rok.zero.lg oO]
  have t2 : v_cT 4096 (bcT at_ c d) (bcQ at_) = (v_l05_Right d).tag := by unfold bcT; rw [cT_tT _ m1.lg oQ]
  have u1 : v_capenc_Unpack (v_l05_Right c).tag (v_l05_Right c).ad (v_capenc_meta (v_l05_Right c) ^^^ 35184305078276#64) = v_l05_Right c := Enc.back_right c
  have u2 : v_capenc_Unpack (v_l05_Right d).tag (v_l05_Right d).ad (v_capenc_meta (v_l05_Right d) ^^^ 35184305078276#64) = v_l05_Right d := Enc.back_right d
  have l8 : v_lV 4096 (bcD at_ c d) (bcP at_ - 2147483648#64) 8#64 = (v_l05_Right c).ad := by
    rw [← x1]
    unfold v_lV v_cX
    rw [o8, oO, cond_true, cond_true, n0, nO]; rfl
  have y3 : v_cX 4096 (v_sD 4096 (bcD at_ c d) (bcP at_ + k % 16#64 - 2147483648#64) (1#64) v) (bcQ at_) 0 = (v_l05_Right d).ad := by rw [cX_sD_ne m2.ld o1 (by rw [show (1#64).toNat = 1 from rfl]; omega) 0 (by omega), x3]
  have y4 : v_cX 4096 (v_sD 4096 (bcD at_ c d) (bcP at_ + k % 16#64 - 2147483648#64) (1#64) v) (bcQ at_) 8 = v_capenc_meta (v_l05_Right d) ^^^ 35184305078276#64 := by rw [cX_sD_ne m2.ld o1 (by rw [show (1#64).toNat = 1 from rfl]; omega) 8 (by omega), x4]
  have s1 : v_cT 4096 (v_sT 4096 (bcT at_ c d) (bcP at_ + k % 16#64 - 2147483648#64) 1#64) (bcO at_) = false := by
    unfold v_cT
    rw [oO, cond_true, tag_sT1 m2.lg o1, decide_eq_true (by omega)]; simp
  have s2 : v_cT 4096 (v_sT 4096 (bcT at_ c d) (bcP at_ + k % 16#64 - 2147483648#64) 1#64) (bcQ at_) = (v_l05_Right d).tag := by
    rw [← t2]
    unfold v_cT
    rw [oQ, cond_true, cond_true, tag_sT1 m2.lg o1, decide_eq_false (by omega)]; simp
  unfold t_BusCaps_x
  simp only [r16', r8', q16', k1', oO, oQ, o8, o1, m1.ram, m2.ram, m3.ram, x1, x2, x3, x4, t1, t2, u1, u2, l8, y3, y4, s1, s2, unp_tag, beq_self_eq_true, Bool.and_self, Bool.and_true, Bool.not_true, Bool.not_false, cond_true, cond_false]
end Go.Sx

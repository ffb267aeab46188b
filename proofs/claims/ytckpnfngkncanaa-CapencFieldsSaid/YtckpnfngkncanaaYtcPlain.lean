/- The plain laws of capabilities' numbers. -/
import Derived.Test.YtckpnfngkncanaaYtcLaws
import Derived.Test.YtckpnfngkncanaaSxPlain
set_option linter.unusedSimpArgs false
set_option linter.unusedVariables false
namespace Go.Proofs.Ytckpnfngkncanaa
open Go Go.Sx

/-- A right capability. -/
def R (c : Cp) : Prop := c.per.toNat < 65536 ∧ c.ty.toNat < 262144 ∧ c.mo.toNat < 2 ∧ c.b.toNat < 16384 ∧ c.t.toNat < 4096 ∧ (c.big = true → c.e.toNat ≤ 52 ∧ c.b.toNat % 8 = 0 ∧ c.t.toNat % 8 = 0) ∧ (c.big = false → c.e.toNat = 0)

theorem and7 (x : BitVec 64) : (x &&& 7#64).toNat = x.toNat % 8 := andK x 3 (by decide)
theorem e1 : (1#64 <<< 16 - 1#64) = 65535#64 := by decide
theorem e2 : (1#64 <<< 18 - 1#64) = 262143#64 := by decide
theorem e3 : (1#64 <<< 1 - 1#64) = 1#64 := by decide
theorem e4 : (1#64 <<< 14 - 1#64) = 16383#64 := by decide
theorem e5 : (1#64 <<< 12 - 1#64) = 4095#64 := by decide

theorem v12_iff (c : Cp) : v_12 c = true ↔ R c := by
  obtain ⟨tag, per, ty, mo, e, b, t, big, ad⟩ := c
  have := per.isLt; have := ty.isLt; have := mo.isLt; have := e.isLt; have := b.isLt; have := t.isLt
  simp only [v_12, R, e1, e2, e3, e4, e5, beqN, and7, cond_eq_ite]
  cases big <;> simp [sleR, sleL] <;> omega
theorem v13_iff (c : Cp) : v_13 c = true ↔ R c := by
  obtain ⟨tag, per, ty, mo, e, b, t, big, ad⟩ := c
  have := per.isLt; have := ty.isLt; have := mo.isLt; have := e.isLt; have := b.isLt; have := t.isLt
  by_cases hb : b.toNat < 9223372036854775808
  · by_cases ht : t.toNat < 9223372036854775808
    · simp only [v_13, R, sremN b 8#64 (by decide) hb, sremN t 8#64 (by decide) ht, cond_eq_ite, beqN, BitVec.toNat_umod]
      cases big <;> simp [sleR, sleL, sltL, sltR] <;> omega
    · simp only [v_13, R, cond_eq_ite, beqN]
      simp [ht, sleR, sleL, sltL, sltR]; omega
  · simp only [v_13, R, cond_eq_ite, beqN]
    simp [hb, sleR, sleL, sltL, sltR]; omega
theorem v12_13 (c : Cp) : v_12 c = v_13 c := by rw [Bool.eq_iff_iff, v12_iff, v13_iff]

/-- A right capability's number. -/
def bf (c : Cp) : Nat := c.b.toNat + cond c.big (c.e.toNat % 8) 0
def tf (c : Cp) : Nat := c.t.toNat + cond c.big (c.e.toNat / 8) 0
def M (c : Cp) : Nat := bf c + tf c * 16384 + cond c.big 67108864 0 + c.ty.toNat * 134217728 + c.mo.toNat * 35184372088832 + c.per.toNat * 70368744177664

theorem pack6 (B T g ty mo per : BitVec 64) (hB : B.toNat < 16384) (hT : T.toNat < 4096) (hg : g.toNat = 0 ∨ g.toNat = 67108864) (hty : ty.toNat < 262144) (hmo : mo.toNat < 2) (hper : per.toNat < 65536) :
    (0#64 ||| (B &&& 16383#64) <<< 0 ||| (T &&& 4095#64) <<< 14 ||| g ||| (ty &&& 262143#64) <<< 27 ||| (mo &&& 1#64) <<< 45 ||| (per &&& 65535#64) <<< 46).toNat =
      B.toNat + T.toNat * 16384 + g.toNat + ty.toNat * 134217728 + mo.toNat * 35184372088832 + per.toNat * 70368744177664 := by
  have s1 : (0#64 ||| (B &&& 16383#64) <<< 0).toNat = B.toNat := by
    have := lay' (x := 0#64) (v := B) (w := 14) (at' := 0) (n := 0) rfl (by decide) hB (by decide) (by decide)
    simpa using this
  have s2 := lay' (w := 12) (at' := 14) s1 hB hT (by decide) (by decide)
  have s3 : (0#64 ||| (B &&& 16383#64) <<< 0 ||| (T &&& 4095#64) <<< 14 ||| g).toNat = B.toNat + T.toNat * 16384 + g.toNat := by
    rw [BitVec.or_comm, orAdd _ g 26 (Nat.lt_of_le_of_lt (Nat.le_of_eq s2) (by omega)) (by omega)]
    have : (0#64 ||| (B &&& 16383#64) <<< 0 ||| (T &&& 4095#64) <<< 14).toNat = B.toNat + T.toNat * 16384 := s2
    omega
  have s4 := lay' (v := ty) (w := 18) (at' := 27) s3 (by omega) hty (by decide) (by decide)
  have s5 := lay' (v := mo) (w := 1) (at' := 45) s4 (by omega) hmo (by decide) (by decide)
  have s6 := lay' (v := per) (w := 16) (at' := 46) s5 (by omega) hper (by decide) (by decide)
  exact s6
theorem v25_M (c : Cp) (h : R c) : (v_25 c).toNat = M c := by
  obtain ⟨tag, per, ty, mo, e, b, t, big, ad⟩ := c
  obtain ⟨h1, h2, h3, h4, h5, h6, h7⟩ := h
  dsimp only at h1 h2 h3 h4 h5 h6 h7
  cases big with
  | true =>
    simp only [true_implies] at h6
    have hb : (b ||| e &&& 7#64).toNat = b.toNat + e.toNat % 8 := by rw [orAdd (e &&& 7#64) b 3 (by rw [and7]; omega) h6.2.1, and7]
    have ht : (t ||| e.sshiftRight 3).toNat = t.toNat + e.toNat / 8 := by
      have he : (e.sshiftRight 3).toNat = e.toNat / 8 := by rw [sshN e 3 (by omega)]; simp [Nat.shiftRight_eq_div_pow]
      rw [orAdd _ t 3 (by rw [he]; omega) h6.2.2, he]
    have := pack6 (b ||| e &&& 7#64) (t ||| e.sshiftRight 3) 67108864#64 ty mo per (by omega) (by omega) (by decide) h2 h3 h1
    simp only [v_25, BitVec.signExtend_eq, cond_true, M, bf, tf]
    rw [this, hb, ht]; rfl
  | false =>
    have := pack6 b t 0#64 ty mo per (by omega) (by omega) (by decide) h2 h3 h1
    simp only [v_25, BitVec.signExtend_eq, cond_false, M, bf, tf]
    rw [this]; rfl
theorem v26_M (c : Cp) (h : R c) : (v_26 c).toNat = M c := by
  obtain ⟨tag, per, ty, mo, e, b, t, big, ad⟩ := c
  obtain ⟨h1, h2, h3, h4, h5, h6, h7⟩ := h
  dsimp only at h1 h2 h3 h4 h5 h6 h7
  cases big with
  | true =>
    simp only [true_implies] at h6
    have hq : e.sdiv 8#64 = e / 8#64 := sdivN e _ (by decide) (by omega)
    have hr : e.srem 8#64 = e % 8#64 := sremN e _ (by decide) (by omega)
    have ht : (t + e / 8#64).toNat = t.toNat + e.toNat / 8 := by
      rw [BitVec.toNat_add, BitVec.toNat_udiv, show (8#64).toNat = 8 from rfl]; omega
    have hb : (b + e % 8#64).toNat = b.toNat + e.toNat % 8 := by
      rw [BitVec.toNat_add, BitVec.toNat_umod, show (8#64).toNat = 8 from rfl]; omega
    simp only [v_26, BitVec.signExtend_eq, cond_true, M, bf, tf, hq, hr]
    have s1 := madd 2 (x := per) (y := mo) rfl rfl (by omega) (by decide)
    have s2 := madd 262144 s1 (y := ty) rfl (by omega) (by decide)
    have s3 := madd 2 s2 (y := 1#64) rfl (by simp only [BitVec.toNat_ofNat]; omega) (by decide)
    have s4 := madd 4096 s3 ht (by simp only [BitVec.toNat_ofNat]; omega) (by decide)
    have s5 := madd 16384 s4 hb (by simp only [BitVec.toNat_ofNat]; omega) (by decide)
    refine s5.trans ?_
    simp only [BitVec.toNat_ofNat]
    omega
  | false =>
    simp only [v_26, BitVec.signExtend_eq, cond_false, M, bf, tf]
    have s1 := madd 2 (x := per) (y := mo) rfl rfl (by omega) (by decide)
    have s2 := madd 262144 s1 (y := ty) rfl (by omega) (by decide)
    have s3 := madd 2 s2 (y := 0#64) rfl (by simp only [BitVec.toNat_ofNat]; omega) (by decide)
    have s4 := madd 4096 s3 (y := t) rfl (by simp only [BitVec.toNat_ofNat]; omega) (by decide)
    have s5 := madd 16384 s4 (y := b) rfl (by simp only [BitVec.toNat_ofNat]; omega) (by decide)
    refine s5.trans ?_
    simp only [BitVec.toNat_ofNat]
    omega
theorem v25_26 (c : Cp) (h : R c) : v_25 c = v_26 c := BitVec.eq_of_toNat_eq ((v25_M c h).trans (v26_M c h).symm)

theorem packs (c : Cp) : v_3 c = true := by
  unfold v_3
  rw [v12_13]
  cases h : v_13 c with
  | false => simp
  | true =>
    have := v25_26 c ((v13_iff c).1 h)
    simp [v_15, v_16, this]
theorem makes (m n : BitVec 64) : v_9 m n = true := by
  simp only [v_9, v_19, v_20, v_21, v_22]
  cases m == 1#64 <;> simp
end Go.Proofs.Ytckpnfngkncanaa

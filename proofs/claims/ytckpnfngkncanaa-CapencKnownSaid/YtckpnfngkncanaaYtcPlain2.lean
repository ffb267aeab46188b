/- The plain laws of capabilities' numbers: what is unpacked. -/
import Derived.Test.YtckpnfngkncanaaYtcPlain
set_option linter.unusedSimpArgs false
set_option linter.unusedVariables false
namespace Go.Proofs.Ytckpnfngkncanaa
open Go Go.Sx

theorem and1 (x : BitVec 64) : (x &&& 1#64).toNat = x.toNat % 2 := andK x 1 (by decide)
theorem and12 (x : BitVec 64) : (x &&& 4095#64).toNat = x.toNat % 4096 := andK x 12 (by decide)
theorem and14 (x : BitVec 64) : (x &&& 16383#64).toNat = x.toNat % 16384 := andK x 14 (by decide)
theorem and16 (x : BitVec 64) : (x &&& 65535#64).toNat = x.toNat % 65536 := andK x 16 (by decide)
theorem and18 (x : BitVec 64) : (x &&& 262143#64).toNat = x.toNat % 262144 := andK x 18 (by decide)
theorem shrN (x : BitVec 64) (k : Nat) : (x >>> k).toNat = x.toNat / 2 ^ k := by simp [Nat.shiftRight_eq_div_pow]
theorem off8 (x : BitVec 64) : (x &&& 18446744073709551608#64).toNat = x.toNat / 8 * 8 := by
  have h : ∀ i : Fin 64, (18446744073709551608#64).getLsbD i = decide (3 ≤ i.val) := by decide
  have : x &&& 18446744073709551608#64 = (x >>> 3) <<< 3 := by
    apply BitVec.eq_of_getLsbD_eq
    intro i hi
    rw [BitVec.getLsbD_and, h ⟨i, hi⟩, BitVec.getLsbD_shiftLeft, BitVec.getLsbD_ushiftRight]
    by_cases h3 : i < 3
    · simp [h3]
    · have : 3 + (i - 3) = i := by omega
      simp [h3, hi, this]; omega
  rw [this, BitVec.toNat_shiftLeft, shrN, Nat.shiftLeft_eq]
  have := x.isLt
  omega
theorem lowE (t b : BitVec 64) : ((t &&& 7#64) <<< 3 ||| b &&& 7#64).toNat = t.toNat % 8 * 8 + b.toNat % 8 := by
  have h : ((t &&& 7#64) <<< 3).toNat = t.toNat % 8 * 8 := by
    rw [BitVec.toNat_shiftLeft, and7, Nat.shiftLeft_eq]; omega
  rw [orAdd (b &&& 7#64) _ 3 (by rw [and7]; omega) (by rw [h]; omega), h, and7]

theorem Cp.ext' {c d : Cp} (h0 : c.tag = d.tag) (h1 : c.per.toNat = d.per.toNat) (h2 : c.ty.toNat = d.ty.toNat) (h3 : c.mo.toNat = d.mo.toNat) (h4 : c.e.toNat = d.e.toNat) (h5 : c.b.toNat = d.b.toNat) (h6 : c.t.toNat = d.t.toNat) (h7 : c.big = d.big) (h8 : c.ad = d.ad) : c = d := by
  obtain ⟨a1, a2, a3, a4, a5, a6, a7, a8, a9⟩ := c
  obtain ⟨b1, b2, b3, b4, b5, b6, b7, b8, b9⟩ := d
  simp only at h0 h1 h2 h3 h4 h5 h6 h7 h8
  subst h0; subst h7; subst h8
  rw [BitVec.eq_of_toNat_eq h1, BitVec.eq_of_toNat_eq h2, BitVec.eq_of_toNat_eq h3, BitVec.eq_of_toNat_eq h4, BitVec.eq_of_toNat_eq h5, BitVec.eq_of_toNat_eq h6]

/-- What a number's fields are: by multiples. -/
structure Unp (Y : Nat) (tag : Bool) (ad : BitVec 64) (c : Cp) : Prop where
  tag : c.tag = tag
  per : c.per.toNat = Y / 70368744177664 % 65536
  ty : c.ty.toNat = Y / 134217728 % 262144
  mo : c.mo.toNat = Y / 35184372088832 % 2
  big : c.big = decide (Y / 67108864 % 2 = 1)
  e : c.e.toNat = if Y / 67108864 % 2 = 1 then (if 52 < Y / 16384 % 8 * 8 + Y % 8 then 52 else Y / 16384 % 8 * 8 + Y % 8) else 0
  b : c.b.toNat = if Y / 67108864 % 2 = 1 then Y % 16384 / 8 * 8 else Y % 16384
  t : c.t.toNat = if Y / 67108864 % 2 = 1 then Y / 16384 % 4096 / 8 * 8 else Y / 16384 % 4096
  ad : c.ad = ad
theorem Unp.eq {Y : Nat} {tag : Bool} {ad : BitVec 64} {c d : Cp} (h : Unp Y tag ad c) (k : Unp Y tag ad d) : c = d :=
  Cp.ext' (h.tag.trans k.tag.symm) (h.per.trans k.per.symm) (h.ty.trans k.ty.symm) (h.mo.trans k.mo.symm) (h.e.trans k.e.symm) (h.b.trans k.b.symm) (h.t.trans k.t.symm) (h.big.trans k.big.symm) (h.ad.trans k.ad.symm)

theorem v17_unp (tag : Bool) (ad x : BitVec 64) : Unp (x ^^^ 35184305078276#64).toNat tag ad (v_17 tag ad x) := by
  unfold v_17
  generalize x ^^^ 35184305078276#64 = y
  simp only [BitVec.setWidth_eq, beqN, and1, shrN]
  by_cases hb : y.toNat / 67108864 % 2 = 1
  · have hb' : (decide (y.toNat / 2 ^ 26 % 2 = (1#64).toNat)) = true := by simp; omega
    rw [hb']
    refine ⟨rfl, ?_, ?_, ?_, ?_, ?_, ?_, ?_, rfl⟩
    · simp only [cond_true, cond_false, and16, shrN, Nat.reducePow]
    · simp only [cond_true, cond_false, and18, shrN, Nat.reducePow]
    · simp only [cond_true, cond_false, and1, shrN, Nat.reducePow]
    · simp [hb]
    · simp only [cond_true]
      rw [if_pos hb, sltL _ _ (by decide), lowE, and12, and14, shrN, shrN]
      have : ∀ (p : Prop) [Decidable p] (u v : BitVec 64), (bif decide p then u else v).toNat = if p then u.toNat else v.toNat := by
        intro p _ u v; by_cases h : p <;> simp [h]
      rw [this, lowE, and12, and14, shrN, shrN]
      simp
      split <;> split <;> omega
    · simp only [cond_true, off8, and14, if_pos hb, shrN, Nat.reducePow, Nat.div_one]
    · simp only [cond_true, off8, and12, shrN, if_pos hb, Nat.reducePow]
  · have hb' : (decide (y.toNat / 2 ^ 26 % 2 = (1#64).toNat)) = false := by simp; omega
    rw [hb']
    refine ⟨rfl, ?_, ?_, ?_, ?_, ?_, ?_, ?_, rfl⟩
    · simp only [cond_true, cond_false, and16, shrN, Nat.reducePow]
    · simp only [cond_true, cond_false, and18, shrN, Nat.reducePow]
    · simp only [cond_true, cond_false, and1, shrN, Nat.reducePow]
    · simp [hb]
    · simp [hb]
    · simp only [cond_false, and14, if_neg hb, shrN, Nat.reducePow, Nat.div_one]
    · simp only [cond_false, and12, shrN, if_neg hb, Nat.reducePow]

theorem low62 (x : BitVec 64) : (x % 4611686018427387904#64 ^^^ 35184305078276#64).toNat = (x ^^^ 35184305078276#64).toNat % 4611686018427387904 := by
  rw [BitVec.toNat_xor, BitVec.toNat_umod, BitVec.toNat_xor, show (4611686018427387904#64).toNat = 2 ^ 62 from rfl, show (4611686018427387904 : Nat) = 2 ^ 62 from rfl, Nat.xor_mod_two_pow]
  rfl
theorem v18_unp (tag : Bool) (ad x : BitVec 64) : Unp (x ^^^ 35184305078276#64).toNat tag ad (v_18 tag ad x) := by
  unfold v_18
  have hy := low62 x
  generalize x % 4611686018427387904#64 ^^^ 35184305078276#64 = y at hy
  generalize (x ^^^ 35184305078276#64).toNat = Y at hy
  have hY : y.toNat < 4611686018427387904 := by omega
  have hB : (y % 16384#64).toNat = y.toNat % 16384 := by simp
  have hT : (y / 16384#64 % 4096#64).toNat = y.toNat / 16384 % 4096 := by simp
  have hb8 : (y % 16384#64).srem 8#64 = y % 16384#64 % 8#64 := sremN _ _ (by decide) (by rw [hB]; omega)
  have ht8 : (y / 16384#64 % 4096#64).srem 8#64 = y / 16384#64 % 4096#64 % 8#64 := sremN _ _ (by decide) (by rw [hT]; omega)
  have hE : (y / 16384#64 % 4096#64 % 8#64 * 8#64 + y % 16384#64 % 8#64).toNat = y.toNat / 16384 % 8 * 8 + y.toNat % 8 := by
    simp only [BitVec.toNat_add, BitVec.toNat_mul, BitVec.toNat_umod, hB, hT, BitVec.toNat_ofNat, Nat.reducePow, Nat.reduceMod]
    omega
  have hb' : (y % 16384#64 - y % 16384#64 % 8#64).toNat = y.toNat % 16384 / 8 * 8 := by
    simp only [BitVec.toNat_sub, BitVec.toNat_umod, hB, BitVec.toNat_ofNat, Nat.reducePow, Nat.reduceMod]
    omega
  have ht' : (y / 16384#64 % 4096#64 - y / 16384#64 % 4096#64 % 8#64).toNat = y.toNat / 16384 % 4096 / 8 * 8 := by
    simp only [BitVec.toNat_sub, BitVec.toNat_umod, hT, BitVec.toNat_ofNat, Nat.reducePow, Nat.reduceMod]
    omega
  have hTY : y.toNat / 16384 % 4096 = Y / 16384 % 4096 := by omega
  have h1 : (y / 16384#64 / 4096#64 / 2#64 / 262144#64 / 2#64).toNat = Y / 70368744177664 % 65536 := by simp only [BitVec.toNat_udiv, BitVec.toNat_ofNat, Nat.reducePow, Nat.reduceMod, Nat.div_div_eq_div_mul, Nat.reduceMul]; omega
  have h2 : (y / 16384#64 / 4096#64 / 2#64 % 262144#64).toNat = Y / 134217728 % 262144 := by simp only [BitVec.toNat_udiv, BitVec.toNat_umod, BitVec.toNat_ofNat, Nat.reducePow, Nat.reduceMod, Nat.div_div_eq_div_mul, Nat.reduceMul]; omega
  have h3 : (y / 16384#64 / 4096#64 / 2#64 / 262144#64 % 2#64).toNat = Y / 35184372088832 % 2 := by simp only [BitVec.toNat_udiv, BitVec.toNat_umod, BitVec.toNat_ofNat, Nat.reducePow, Nat.reduceMod, Nat.div_div_eq_div_mul, Nat.reduceMul]; omega
  have h4 : (y / 16384#64 / 4096#64 % 2#64).toNat = Y / 67108864 % 2 := by simp only [BitVec.toNat_udiv, BitVec.toNat_umod, BitVec.toNat_ofNat, Nat.reducePow, Nat.reduceMod, Nat.div_div_eq_div_mul, Nat.reduceMul]; omega
  simp only [BitVec.setWidth_eq, beqN, h4, hb8, ht8, sltL _ 52#64 (by decide), hE]
  by_cases hb : Y / 67108864 % 2 = 1
  · have hd : (decide (Y / 67108864 % 2 = (1#64).toNat)) = true := by simp; omega
    rw [hd, cond_true]
    by_cases h52 : 52 < y.toNat / 16384 % 8 * 8 + y.toNat % 8
    · have hd2 : decide ((52#64).toNat < y.toNat / 16384 % 8 * 8 + y.toNat % 8 ∧ y.toNat / 16384 % 8 * 8 + y.toNat % 8 < 9223372036854775808) = true := by simp; omega
      rw [hd2, cond_true]
      refine ⟨rfl, h1, h2, h3, by simp [hb], ?_, ?_, ?_, rfl⟩
      · show (52#64).toNat = _
        rw [if_pos hb, if_pos (by omega)]; rfl
      · rw [if_pos hb]; refine hb'.trans ?_; omega
      · rw [if_pos hb]; rw [← hTY]; exact ht'
    · have hd2 : decide ((52#64).toNat < y.toNat / 16384 % 8 * 8 + y.toNat % 8 ∧ y.toNat / 16384 % 8 * 8 + y.toNat % 8 < 9223372036854775808) = false := by simp; omega
      rw [hd2, cond_false]
      refine ⟨rfl, h1, h2, h3, by simp [hb], ?_, ?_, ?_, rfl⟩
      · rw [if_pos hb, if_neg (by omega)]; refine hE.trans ?_; omega
      · rw [if_pos hb]; refine hb'.trans ?_; omega
      · rw [if_pos hb]; rw [← hTY]; exact ht'
  · have hd : (decide (Y / 67108864 % 2 = (1#64).toNat)) = false := by simp; omega
    rw [hd, cond_false]
    refine ⟨rfl, h1, h2, h3, by simp [hb], ?_, ?_, ?_, rfl⟩
    · rw [if_neg hb]; rfl
    · rw [if_neg hb]; refine hB.trans ?_; omega
    · rw [if_neg hb]; refine hT.trans ?_; omega
theorem unpacks (tag : Bool) (ad x : BitVec 64) : v_4 tag ad x = true := by
  unfold v_4
  rw [(v17_unp tag ad x).eq (v18_unp tag ad x)]
  simp

/-- Packed and unpacked. -/
theorem unp_nat (B T g ty mo per : Nat) (hB : B < 16384) (hT : T < 4096) (hg : g < 2) (hty : ty < 262144) (hmo : mo < 2) (hper : per < 65536) :
    (B + T * 16384 + g * 67108864 + ty * 134217728 + mo * 35184372088832 + per * 70368744177664) / 67108864 % 2 = g ∧
    (B + T * 16384 + g * 67108864 + ty * 134217728 + mo * 35184372088832 + per * 70368744177664) / 70368744177664 % 65536 = per ∧
    (B + T * 16384 + g * 67108864 + ty * 134217728 + mo * 35184372088832 + per * 70368744177664) / 134217728 % 262144 = ty ∧
    (B + T * 16384 + g * 67108864 + ty * 134217728 + mo * 35184372088832 + per * 70368744177664) / 35184372088832 % 2 = mo ∧
    (B + T * 16384 + g * 67108864 + ty * 134217728 + mo * 35184372088832 + per * 70368744177664) % 16384 = B ∧
    (B + T * 16384 + g * 67108864 + ty * 134217728 + mo * 35184372088832 + per * 70368744177664) / 16384 % 4096 = T := by
  have e : B + T * 16384 + g * 67108864 + ty * 134217728 + mo * 35184372088832 + per * 70368744177664 = B + 16384 * (T + 4096 * (g + 2 * (ty + 262144 * (mo + 2 * per)))) := by omega
  rw [e]
  generalize hY4 : mo + 2 * per = Y4
  generalize hY3 : ty + 262144 * Y4 = Y3
  generalize hY2 : g + 2 * Y3 = Y2
  generalize hY1 : T + 4096 * Y2 = Y1
  have d1 : (B + 16384 * Y1) / 16384 = Y1 := by omega
  have d2 : Y1 / 4096 = Y2 := by omega
  have d3 : Y2 / 2 = Y3 := by omega
  have d4 : Y3 / 262144 = Y4 := by omega
  have d5 : Y4 / 2 = per := by omega
  have f2 : (B + 16384 * Y1) / 67108864 = Y2 := by rw [show (67108864 : Nat) = 16384 * 4096 from rfl, ← Nat.div_div_eq_div_mul, d1, d2]
  have f3 : (B + 16384 * Y1) / 134217728 = Y3 := by rw [show (134217728 : Nat) = 67108864 * 2 from rfl, ← Nat.div_div_eq_div_mul, f2, d3]
  have f4 : (B + 16384 * Y1) / 35184372088832 = Y4 := by rw [show (35184372088832 : Nat) = 134217728 * 262144 from rfl, ← Nat.div_div_eq_div_mul, f3, d4]
  have f5 : (B + 16384 * Y1) / 70368744177664 = per := by rw [show (70368744177664 : Nat) = 35184372088832 * 2 from rfl, ← Nat.div_div_eq_div_mul, f4, d5]
  rw [f2, f3, f4, f5, d1]
  refine ⟨by omega, by omega, by omega, by omega, by omega, by omega⟩
theorem unp_M (c : Cp) (h : R c) : Unp (M c) c.tag c.ad c := by
  obtain ⟨tag, per, ty, mo, e, b, t, big, ad⟩ := c
  obtain ⟨h1, h2, h3, h4, h5, h6, h7⟩ := h
  dsimp only at h1 h2 h3 h4 h5 h6 h7
  cases big with
  | true =>
    simp only [true_implies] at h6
    obtain ⟨k1, k2, k3, k4, k5, k6⟩ := unp_nat (b.toNat + e.toNat % 8) (t.toNat + e.toNat / 8) 1 ty.toNat mo.toNat per.toNat (by omega) (by omega) (by omega) h2 h3 h1
    rw [show b.toNat + e.toNat % 8 + (t.toNat + e.toNat / 8) * 16384 + 1 * 67108864 + ty.toNat * 134217728 + mo.toNat * 35184372088832 + per.toNat * 70368744177664 = M ⟨tag, per, ty, mo, e, b, t, true, ad⟩ by simp [M, bf, tf]] at k1 k2 k3 k4 k5 k6
    generalize M ⟨tag, per, ty, mo, e, b, t, true, ad⟩ = Y at k1 k2 k3 k4 k5 k6
    refine ⟨rfl, k2.symm, k3.symm, k4.symm, by simp [k1], ?_, ?_, ?_, rfl⟩
    · rw [if_pos k1]
      have : Y / 16384 % 8 * 8 + Y % 8 = e.toNat := by
        have e1 : Y / 16384 % 8 = (Y / 16384 % 4096) % 8 := by omega
        have e2 : Y % 8 = (Y % 16384) % 8 := by omega
        rw [e1, e2, k5, k6]; omega
      rw [this, if_neg (by omega)]
    · rw [if_pos k1, k5]; dsimp only; omega
    · rw [if_pos k1, k6]; dsimp only; omega
  | false =>
    simp only [true_implies] at h7
    obtain ⟨k1, k2, k3, k4, k5, k6⟩ := unp_nat (b.toNat + 0) (t.toNat + 0) 0 ty.toNat mo.toNat per.toNat (by omega) (by omega) (by omega) h2 h3 h1
    rw [show b.toNat + 0 + (t.toNat + 0) * 16384 + 0 * 67108864 + ty.toNat * 134217728 + mo.toNat * 35184372088832 + per.toNat * 70368744177664 = M ⟨tag, per, ty, mo, e, b, t, false, ad⟩ by simp [M, bf, tf]] at k1 k2 k3 k4 k5 k6
    generalize M ⟨tag, per, ty, mo, e, b, t, false, ad⟩ = Y at k1 k2 k3 k4 k5 k6
    have hb : ¬ Y / 67108864 % 2 = 1 := by omega
    refine ⟨rfl, k2.symm, k3.symm, k4.symm, by simp [hb], ?_, ?_, ?_, rfl⟩
    · rw [if_neg hb]; exact h7
    · rw [if_neg hb, k5]; rfl
    · rw [if_neg hb, k6]; rfl
theorem M_lt (c : Cp) (h : R c) : M c < 4611686018427387904 := by
  obtain ⟨tag, per, ty, mo, e, b, t, big, ad⟩ := c
  obtain ⟨h1, h2, h3, h4, h5, h6, h7⟩ := h
  cases big <;> simp only [M, bf, tf, cond_true, cond_false] <;> simp at * <;> omega
theorem back17 (c : Cp) (h : R c) : v_17 c.tag c.ad (v_25 c ^^^ 35184305078276#64) = c := by
  have k := v17_unp c.tag c.ad (v_25 c ^^^ 35184305078276#64)
  rw [BitVec.xor_assoc, BitVec.xor_self, BitVec.xor_zero, v25_M c h] at k
  exact k.eq (unp_M c h)
theorem pack_lt (c : Cp) (h : R c) : (v_25 c ^^^ 35184305078276#64).toNat < 4611686018427387904 := by
  rw [BitVec.toNat_xor, v25_M c h]
  exact Nat.xor_lt_two_pow (n := 62) (M_lt c h) (by decide)
theorem v15_eq (c : Cp) : v_15 c = (c.ad, v_25 c ^^^ 35184305078276#64) := rfl
theorem back (c : Cp) : v_5 c = true := by
  unfold v_5
  cases h : v_12 c with
  | false => simp
  | true =>
    have hr := (v12_iff c).1 h
    have k := back17 c hr
    have hl := pack_lt c hr
    have hu : (v_25 c ^^^ 35184305078276#64).ult 4611686018427387904#64 = true := by rw [ultN]; exact decide_eq_true hl
    simp only [v15_eq, k, hu]
    simp
end Go.Proofs.Ytckpnfngkncanaa

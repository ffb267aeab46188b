/- Several texts in one. -/
import Derived.Test.YtkniemlelilbdaaVa05
import Derived.Test.YtkniemlelilbdaaSxLen2
import Derived.Test.YtkniemlelilbdaaVa04
set_option linter.unusedSimpArgs false
set_option linter.unusedVariables false
set_option linter.unnecessarySimpa false
/- Plain laws: right capabilities; where nothing panics. -/
namespace Go.Sx
open Go

theorem nonnegI (x : BitVec 64) (h : x.toNat < 9223372036854775808) : nonneg .i64 x = true := by
  have : x.msb = false := by rw [BitVec.msb_eq_decide]; simp; omega
  show (!(true && x.msb)) = true
  rw [this]; rfl
theorem nonnegU (x : BitVec 64) : nonneg .u64 x = true := rfl

theorem pickLt (k n : BitVec 64) (h0 : 0 < n.toNat) (h : n.toNat < 9223372036854775808) : (v_kit_Pick k n).toNat < n.toNat := by
  unfold v_kit_Pick
  rw [sltR _ _ (by decide), decide_eq_false (by rw [show (1#64).toNat = 1 from rfl]; omega), cond_false]
  have hi : n.toInt = (n.toNat : Int) := by rw [BitVec.toInt_eq_toNat_cond]; split <;> omega
  have hk := BitVec.toInt_srem k n
  rw [hi] at hk
  have hb1 := Int.tmod_lt_of_pos k.toInt (b := (n.toNat : Int)) (by omega)
  have hb2 : -(n.toNat : Int) < k.toInt.tmod n.toNat := by
    have h1 := Int.natAbs_tmod k.toInt (n.toNat : Int)
    have h2 := Nat.mod_lt k.toInt.natAbs (show 0 < (n.toNat : Int).natAbs by omega)
    omega
  rw [← hk] at hb1 hb2
  cases hs : (k.srem n).slt 0#64 with
  | true =>
    rw [cond_true]
    have hneg : (k.srem n).toInt < 0 := by simpa [BitVec.slt] using hs
    have hlt := (k.srem n).isLt
    rw [BitVec.toInt_eq_toNat_cond] at hneg hb2
    rw [BitVec.toNat_add]
    split at hneg <;> omega
  | false =>
    rw [cond_false]
    have hneg : ¬ (k.srem n).toInt < 0 := by simpa [BitVec.slt] using hs
    rw [BitVec.toInt_eq_toNat_cond] at hneg hb1
    have hlt := (k.srem n).isLt
    split at hneg <;> omega
theorem pickId (k n : BitVec 64) (hk : k.toNat < n.toNat) (h : n.toNat < 9223372036854775808) : v_kit_Pick k n = k := by
  unfold v_kit_Pick
  rw [sltR _ _ (by decide), decide_eq_false (by rw [show (1#64).toNat = 1 from rfl]; omega), cond_false]
  have e : k.srem n = k := by
    rw [sremN _ _ h (by omega)]
    apply BitVec.eq_of_toNat_eq
    rw [BitVec.toNat_umod, Nat.mod_eq_of_lt hk]
  rw [e, sltR _ _ (by decide), decide_eq_false (by rw [show (0#64).toNat = 0 from rfl]; omega), cond_false]

/-- A capability whose fields are in their places. -/
structure RightC (c : Cp) : Prop where
  e : c.e.toNat ≤ 52
  b : c.b.toNat < 16384
  t : c.t.toNat < 4096
  per : c.per.toNat < 65536
  ty : c.ty.toNat < 262144
  mo : c.mo.toNat < 2
  e0 : c.big = false → c.e = 0#64
  b8 : c.big = true → c.b.toNat % 8 = 0
  t8 : c.big = true → c.t.toNat % 8 = 0

theorem and8 (x : BitVec 64) : (x &&& 18446744073709551608#64).toNat = x.toNat - x.toNat % 8 := by
  have h := x.isLt
  have e : x &&& 18446744073709551608#64 = (x >>> 3) <<< 3 := by
    apply BitVec.eq_of_getLsbD_eq
    intro i hi
    have hm : ∀ j : Fin 64, (18446744073709551608#64).getLsbD j.val = !decide (j.val < 3) := by decide
    rw [BitVec.getLsbD_and, hm ⟨i, hi⟩, BitVec.getLsbD_shiftLeft, BitVec.getLsbD_ushiftRight]
    by_cases h3 : i < 3
    · simp [h3]
    · simp [h3, hi, show 3 + (i - 3) = i by omega]
  rw [e, BitVec.toNat_shiftLeft, BitVec.toNat_ushiftRight, Nat.shiftLeft_eq, Nat.shiftRight_eq_div_pow]
  omega

theorem may_e (c : Cp) : (v_l03_May c).e.toNat ≤ 52 := by
  unfold v_l03_May
  cases c.big
  · simp
  · have := pickLt c.e 53#64 (by decide) (by decide)
    simp only [Bool.not_true, cond_false]
    have h : (53#64).toNat = 53 := rfl
    omega
theorem may_b (c : Cp) : (v_l03_May c).b.toNat < 16384 := by
  have h := pickLt c.b 16384#64 (by decide) (by decide)
  unfold v_l03_May
  cases c.big <;> exact h
theorem may_t (c : Cp) : (v_l03_May c).t.toNat < 4096 := by
  have h := pickLt c.t 4096#64 (by decide) (by decide)
  unfold v_l03_May
  cases c.big <;> exact h
theorem may_big (c : Cp) : (v_l03_May c).big = c.big := by unfold v_l03_May; cases c.big <;> rfl
theorem may_tag (c : Cp) : (v_l03_May c).tag = c.tag := by unfold v_l03_May; cases c.big <;> rfl
theorem may_ad (c : Cp) : (v_l03_May c).ad = c.ad := by unfold v_l03_May; cases c.big <;> rfl
theorem may_e0 (c : Cp) (h : c.big = false) : (v_l03_May c).e = 0#64 := by unfold v_l03_May; rw [h]; rfl

theorem right_ok (c : Cp) : RightC (v_l05_Right c) := by
  have he := may_e c
  have hb := may_b c
  have ht := may_t c
  have hp := pickLt (v_l03_May c).per 65536#64 (by decide) (by decide)
  have hy := pickLt (v_l03_May c).ty 262144#64 (by decide) (by decide)
  have hm := pickLt (v_l03_May c).mo 2#64 (by decide) (by decide)
  have hb8 := and8 (v_l03_May c).b
  have ht8 := and8 (v_l03_May c).t
  have hbig := may_big c
  unfold v_l05_Right
  cases h : (v_l03_May c).big with
  | true =>
    simp only [cond_true]
    exact ⟨he, by show (_ &&& _ : BitVec 64).toNat < _; omega, by show (_ &&& _ : BitVec 64).toNat < _; omega, hp, hy, hm, fun h => by simp at h, fun _ => by show (_ &&& _ : BitVec 64).toNat % 8 = 0; omega, fun _ => by show (_ &&& _ : BitVec 64).toNat % 8 = 0; omega⟩
  | false =>
    simp only [cond_false]
    exact ⟨he, hb, ht, hp, hy, hm, fun _ => may_e0 c (by rw [← hbig, h]), fun h => by simp at h, fun h => by simp at h⟩

theorem g_up_ok (a : W2) (n : BitVec 64) (h : n.toNat < 9223372036854775808) : g_bounds_number_up a n = true := by
  unfold g_bounds_number_up
  rw [nonnegI n h]
  cases h1 : (n == 0#64) with
  | true => rfl
  | false =>
    cases h2 : (65#64).sle n with
    | true => rfl
    | false =>
      rw [sleL _ _ (by decide)] at h2
      simp only [decide_eq_false_iff_not] at h2
      have h3 : n.toNat ≤ 64 := by
        have : (65#64).toNat = 65 := rfl
        omega
      cases h4 : (n == 64#64) with
      | true => rfl
      | false =>
        rw [nonnegI (64#64 - n) (by rw [BitVec.toNat_sub, show (64#64).toNat = 64 from rfl]; omega)]
        rfl
theorem g_Of_ok {c : Cp} (h : c.e.toNat ≤ 52) : g_bounds_Of c = true := by
  have h1 := nonnegI c.e (by omega)
  have h2 : (c.e + 14#64).toNat < 9223372036854775808 := by rw [BitVec.toNat_add, show (14#64).toNat = 14 from rfl]; omega
  have h3 := nonnegI _ h2
  have u1 := fun a => g_up_ok a (c.e + 14#64) h2
  have u2 := fun a => g_up_ok a c.e (by omega)
  unfold g_bounds_Of
  simp only [h1, h3, u1, u2, cond_true, Bool.cond_self]
theorem g_down_ok (a : W2) (n : BitVec 64) (h : n.toNat ≤ 64) : g_bounds_number_down a n = true := by
  unfold g_bounds_number_down
  simp only [nonnegI n (by omega), nonnegI (64#64 - n) (by rw [BitVec.toNat_sub, show (64#64).toNat = 64 from rfl]; omega), cond_true, Bool.cond_self]
theorem g_mant_ok (a b : W2) (e : BitVec 64) (h : e.toNat ≤ 61) : g_bounds_mantissas a b e = true := by
  have h1 : (e + 3#64).toNat ≤ 64 := by rw [BitVec.toNat_add, show (3#64).toNat = 3 from rfl]; omega
  unfold g_bounds_mantissas
  simp only [g_down_ok _ _ h1, cond_true]
/-- The exponent that a length needs. -/
def expo (n : BitVec 64) : BitVec 64 := bif (0#64).slt (v_bits_Len64 n - 13#64) then v_bits_Len64 n - 13#64 else 0#64
theorem blen_le {n k : Nat} (h : n < 2 ^ k) : blen n ≤ k := by
  unfold blen
  split
  · omega
  · rename_i h0
    have := (Nat.log2_lt h0).2 h
    omega
theorem lt_blen (n : Nat) : n < 2 ^ blen n := by
  unfold blen
  split
  · omega
  · exact Nat.lt_log2_self
theorem le_blen {n : Nat} (h : n ≠ 0) : 2 ^ (blen n - 1) ≤ n := by
  unfold blen
  rw [if_neg h, Nat.add_sub_cancel]
  exact Nat.log2_self_le h
theorem len64N (n : BitVec 64) : (v_bits_Len64 n).toNat = blen n.toNat := by
  have := blen_le n.isLt
  unfold v_bits_Len64
  rw [BitVec.toNat_ofNat, Nat.mod_eq_of_lt (by omega)]
theorem expoN (n : BitVec 64) : (expo n).toNat = blen n.toNat - 13 := by
  have hl := len64N n
  have hb := blen_le n.isLt
  unfold expo
  have hs : (v_bits_Len64 n - 13#64).toNat = (18446744073709551603 + blen n.toNat) % 18446744073709551616 := by
    rw [BitVec.toNat_sub, hl]; rfl
  rw [sltL _ _ (by decide), hs, show (0#64).toNat = 0 from rfl]
  by_cases h : 14 ≤ blen n.toNat
  · rw [decide_eq_true (by omega), cond_true, hs]; omega
  · rw [decide_eq_false (by omega), cond_false, show (0#64).toNat = 0 from rfl]; omega
theorem g_Lay_ok (c : Cp) (n : BitVec 64) : g_bounds_Lay c n = true := by
  have he := expoN n
  have hb := blen_le n.isLt
  unfold g_bounds_Lay
  rw [← expo]
  have h1 : (expo n).toNat ≤ 61 := by omega
  have h2 : (expo n + 1#64).toNat ≤ 61 := by rw [BitVec.toNat_add, show (1#64).toNat = 1 from rfl]; omega
  simp only [g_mant_ok _ _ _ h1, g_mant_ok _ _ _ h2, cond_true, Bool.cond_self]
/-- The exponent of what is laid. -/
theorem lay_e (c : Cp) (n : BitVec 64) : (v_bounds_Lay c n).1.e.toNat ≤ 52 := by
  have he := expoN n
  have hb := blen_le n.isLt
  have h1 : (expo n).toNat ≤ 52 := by omega
  have h2 : (expo n + 1#64).toNat ≤ 52 := by rw [BitVec.toNat_add, show (1#64).toNat = 1 from rfl]; omega
  have h0 : (0#64).toNat ≤ 52 := by decide
  unfold v_bounds_Lay
  rw [← expo]
  generalize expo n = x at *
  (repeat' (rw [Bool.cond_eq_ite]; split)) <;> assumption
theorem lay_keeps (c : Cp) (n : BitVec 64) : (v_bounds_Lay c n).1.tag = c.tag ∧ (v_bounds_Lay c n).1.per = c.per ∧ (v_bounds_Lay c n).1.ty = c.ty ∧ (v_bounds_Lay c n).1.mo = c.mo ∧ (v_bounds_Lay c n).1.ad = c.ad := by
  unfold v_bounds_Lay
  (repeat' (rw [Bool.cond_eq_ite]; split)) <;> exact ⟨rfl, rfl, rfl, rfl, rfl⟩
theorem right_e (c : Cp) : (v_l05_Right c).e.toNat ≤ 52 := (right_ok c).e
theorem g_Of_right (c : Cp) : g_bounds_Of (v_l05_Right c) = true := g_Of_ok (right_e c)
theorem g_Of_lay (c : Cp) (n : BitVec 64) : g_bounds_Of (v_bounds_Lay c n).1 = true := g_Of_ok (lay_e c n)
end Go.Sx

/- Capabilities' numbers: what is packed is unpacked as it was. -/
namespace Go.Sx.Enc
open Go Go.Sx
/-- A right capability. -/
def R (c : Cp) : Prop := c.per.toNat < 65536 ∧ c.ty.toNat < 262144 ∧ c.mo.toNat < 2 ∧ c.b.toNat < 16384 ∧ c.t.toNat < 4096 ∧ (c.big = true → c.e.toNat ≤ 52 ∧ c.b.toNat % 8 = 0 ∧ c.t.toNat % 8 = 0) ∧ (c.big = false → c.e.toNat = 0)

theorem and7 (x : BitVec 64) : (x &&& 7#64).toNat = x.toNat % 8 := andK x 3 (by decide)
/-- A right capability's number. -/
def bf (c : Cp) : Nat := c.b.toNat + cond c.big (c.e.toNat % 8) 0
def tf (c : Cp) : Nat := c.t.toNat + cond c.big (c.e.toNat / 8) 0
def M (c : Cp) : Nat := bf c + tf c * 16384 + cond c.big 67108864 0 + c.ty.toNat * 134217728 + c.mo.toNat * 35184372088832 + c.per.toNat * 70368744177664

theorem pack6 (B T g ty mo per : BitVec 64) (hB : B.toNat < 16384) (hT : T.toNat < 4096) (hg : g.toNat = 0 ∨ g.toNat = 67108864) (hty : ty.toNat < 262144) (hmo : mo.toNat < 2) (hper : per.toNat < 65536) :
    (0#64 ||| (B &&& 16383#64) <<< 0 ||| (T &&& 4095#64) <<< 14 ||| g ||| (ty &&& 262143#64) <<< 27 ||| (mo &&& 1#64) <<< 45 ||| (per &&& 65535#64) <<< 46).toNat =
      B.toNat + T.toNat * 16384 + g.toNat + ty.toNat * 134217728 + mo.toNat * 35184372088832 + per.toNat * 70368744177664 := by
  have s1 : (0#64 ||| (B &&& 16383#64) <<< 0).toNat = B.toNat := by
    have := lay' (x := 0#64) (v := B) (w := 14) (at' := 0) (n := 0) rfl (by decide) hB (by decide) (by decide)
    simpa using this
  have s2 := lay' (w := 12) (at' := 14) s1 hB hT (by decide) (by decide)
  have s3 : (0#64 ||| (B &&& 16383#64) <<< 0 ||| (T &&& 4095#64) <<< 14 ||| g).toNat = B.toNat + T.toNat * 16384 + g.toNat := by
    rw [BitVec.or_comm, orAdd _ g 26 (Nat.lt_of_le_of_lt (Nat.le_of_eq s2) (by omega)) (by omega)]
    have : (0#64 ||| (B &&& 16383#64) <<< 0 ||| (T &&& 4095#64) <<< 14).toNat = B.toNat + T.toNat * 16384 := s2
    omega
  have s4 := lay' (v := ty) (w := 18) (at' := 27) s3 (by omega) hty (by decide) (by decide)
  have s5 := lay' (v := mo) (w := 1) (at' := 45) s4 (by omega) hmo (by decide) (by decide)
  have s6 := lay' (v := per) (w := 16) (at' := 46) s5 (by omega) hper (by decide) (by decide)
  exact s6
theorem meta_M (c : Cp) (h : R c) : (v_capenc_meta c).toNat = M c := by
  obtain ⟨tag, per, ty, mo, e, b, t, big, ad⟩ := c
  obtain ⟨h1, h2, h3, h4, h5, h6, h7⟩ := h
  dsimp only at h1 h2 h3 h4 h5 h6 h7
  cases big with
  | true =>
    simp only [true_implies] at h6
    have hb : (b ||| e &&& 7#64).toNat = b.toNat + e.toNat % 8 := by rw [orAdd (e &&& 7#64) b 3 (by rw [and7]; omega) h6.2.1, and7]
    have ht : (t ||| e.sshiftRight 3).toNat = t.toNat + e.toNat / 8 := by
      have he : (e.sshiftRight 3).toNat = e.toNat / 8 := by rw [sshN e 3 (by omega)]; simp [Nat.shiftRight_eq_div_pow]
      rw [orAdd _ t 3 (by rw [he]; omega) h6.2.2, he]
    have := pack6 (b ||| e &&& 7#64) (t ||| e.sshiftRight 3) 67108864#64 ty mo per (by omega) (by omega) (by decide) h2 h3 h1
    simp only [v_capenc_meta, BitVec.signExtend_eq, cond_true, M, bf, tf]
    rw [this, hb, ht]; rfl
  | false =>
    have := pack6 b t 0#64 ty mo per (by omega) (by omega) (by decide) h2 h3 h1
    simp only [v_capenc_meta, BitVec.signExtend_eq, cond_false, M, bf, tf]
    rw [this]; rfl
theorem and1 (x : BitVec 64) : (x &&& 1#64).toNat = x.toNat % 2 := andK x 1 (by decide)
theorem and12 (x : BitVec 64) : (x &&& 4095#64).toNat = x.toNat % 4096 := andK x 12 (by decide)
theorem and14 (x : BitVec 64) : (x &&& 16383#64).toNat = x.toNat % 16384 := andK x 14 (by decide)
theorem and16 (x : BitVec 64) : (x &&& 65535#64).toNat = x.toNat % 65536 := andK x 16 (by decide)
theorem and18 (x : BitVec 64) : (x &&& 262143#64).toNat = x.toNat % 262144 := andK x 18 (by decide)
theorem shrN (x : BitVec 64) (k : Nat) : (x >>> k).toNat = x.toNat / 2 ^ k := by simp [Nat.shiftRight_eq_div_pow]
theorem off8 (x : BitVec 64) : (x &&& 18446744073709551608#64).toNat = x.toNat / 8 * 8 := by
  have h : ∀ i : Fin 64, (18446744073709551608#64).getLsbD i = decide (3 ≤ i.val) := by decide
  have : x &&& 18446744073709551608#64 = (x >>> 3) <<< 3 := by
    apply BitVec.eq_of_getLsbD_eq
    intro i hi
    rw [BitVec.getLsbD_and, h ⟨i, hi⟩, BitVec.getLsbD_shiftLeft, BitVec.getLsbD_ushiftRight]
    by_cases h3 : i < 3
    · simp [h3]
    · have : 3 + (i - 3) = i := by omega
      simp [h3, hi, this]; omega
  rw [this, BitVec.toNat_shiftLeft, shrN, Nat.shiftLeft_eq]
  have := x.isLt
  omega
theorem lowE (t b : BitVec 64) : ((t &&& 7#64) <<< 3 ||| b &&& 7#64).toNat = t.toNat % 8 * 8 + b.toNat % 8 := by
  have h : ((t &&& 7#64) <<< 3).toNat = t.toNat % 8 * 8 := by
    rw [BitVec.toNat_shiftLeft, and7, Nat.shiftLeft_eq]; omega
  rw [orAdd (b &&& 7#64) _ 3 (by rw [and7]; omega) (by rw [h]; omega), h, and7]

theorem Cp.ext' {c d : Cp} (h0 : c.tag = d.tag) (h1 : c.per.toNat = d.per.toNat) (h2 : c.ty.toNat = d.ty.toNat) (h3 : c.mo.toNat = d.mo.toNat) (h4 : c.e.toNat = d.e.toNat) (h5 : c.b.toNat = d.b.toNat) (h6 : c.t.toNat = d.t.toNat) (h7 : c.big = d.big) (h8 : c.ad = d.ad) : c = d := by
  obtain ⟨a1, a2, a3, a4, a5, a6, a7, a8, a9⟩ := c
  obtain ⟨b1, b2, b3, b4, b5, b6, b7, b8, b9⟩ := d
  simp only at h0 h1 h2 h3 h4 h5 h6 h7 h8
  subst h0; subst h7; subst h8
  rw [BitVec.eq_of_toNat_eq h1, BitVec.eq_of_toNat_eq h2, BitVec.eq_of_toNat_eq h3, BitVec.eq_of_toNat_eq h4, BitVec.eq_of_toNat_eq h5, BitVec.eq_of_toNat_eq h6]

/-- What a number's fields are: by multiples. -/
structure Unp (Y : Nat) (tag : Bool) (ad : BitVec 64) (c : Cp) : Prop where
  tag : c.tag = tag
  per : c.per.toNat = Y / 70368744177664 % 65536
  ty : c.ty.toNat = Y / 134217728 % 262144
  mo : c.mo.toNat = Y / 35184372088832 % 2
  big : c.big = decide (Y / 67108864 % 2 = 1)
  e : c.e.toNat = if Y / 67108864 % 2 = 1 then (if 52 < Y / 16384 % 8 * 8 + Y % 8 then 52 else Y / 16384 % 8 * 8 + Y % 8) else 0
  b : c.b.toNat = if Y / 67108864 % 2 = 1 then Y % 16384 / 8 * 8 else Y % 16384
  t : c.t.toNat = if Y / 67108864 % 2 = 1 then Y / 16384 % 4096 / 8 * 8 else Y / 16384 % 4096
  ad : c.ad = ad
theorem Unp.eq {Y : Nat} {tag : Bool} {ad : BitVec 64} {c d : Cp} (h : Unp Y tag ad c) (k : Unp Y tag ad d) : c = d :=
  Cp.ext' (h.tag.trans k.tag.symm) (h.per.trans k.per.symm) (h.ty.trans k.ty.symm) (h.mo.trans k.mo.symm) (h.e.trans k.e.symm) (h.b.trans k.b.symm) (h.t.trans k.t.symm) (h.big.trans k.big.symm) (h.ad.trans k.ad.symm)

theorem v17_unp (tag : Bool) (ad x : BitVec 64) : Unp (x ^^^ 35184305078276#64).toNat tag ad (v_capenc_Unpack tag ad x) := by
  unfold v_capenc_Unpack
  generalize x ^^^ 35184305078276#64 = y
  simp only [BitVec.setWidth_eq, beqN, and1, shrN]
  by_cases hb : y.toNat / 67108864 % 2 = 1
  · have hb' : (decide (y.toNat / 2 ^ 26 % 2 = (1#64).toNat)) = true := by simp; omega
    rw [hb']
    refine ⟨rfl, ?_, ?_, ?_, ?_, ?_, ?_, ?_, rfl⟩
    · simp only [cond_true, cond_false, and16, shrN, Nat.reducePow]
    · simp only [cond_true, cond_false, and18, shrN, Nat.reducePow]
    · simp only [cond_true, cond_false, and1, shrN, Nat.reducePow]
    · simp [hb]
    · simp only [cond_true]
      rw [if_pos hb, sltL _ _ (by decide), lowE, and12, and14, shrN, shrN]
      have : ∀ (p : Prop) [Decidable p] (u v : BitVec 64), (bif decide p then u else v).toNat = if p then u.toNat else v.toNat := by
        intro p _ u v; by_cases h : p <;> simp [h]
      rw [this, lowE, and12, and14, shrN, shrN]
      simp
      split <;> split <;> omega
    · simp only [cond_true, off8, and14, if_pos hb, shrN, Nat.reducePow, Nat.div_one]
    · simp only [cond_true, off8, and12, shrN, if_pos hb, Nat.reducePow]
  · have hb' : (decide (y.toNat / 2 ^ 26 % 2 = (1#64).toNat)) = false := by simp; omega
    rw [hb']
    refine ⟨rfl, ?_, ?_, ?_, ?_, ?_, ?_, ?_, rfl⟩
    · simp only [cond_true, cond_false, and16, shrN, Nat.reducePow]
    · simp only [cond_true, cond_false, and18, shrN, Nat.reducePow]
    · simp only [cond_true, cond_false, and1, shrN, Nat.reducePow]
    · simp [hb]
    · simp [hb]
    · simp only [cond_false, and14, if_neg hb, shrN, Nat.reducePow, Nat.div_one]
    · simp only [cond_false, and12, shrN, if_neg hb, Nat.reducePow]

/-- Packed and unpacked. -/
theorem unp_nat (B T g ty mo per : Nat) (hB : B < 16384) (hT : T < 4096) (hg : g < 2) (hty : ty < 262144) (hmo : mo < 2) (hper : per < 65536) :
    (B + T * 16384 + g * 67108864 + ty * 134217728 + mo * 35184372088832 + per * 70368744177664) / 67108864 % 2 = g ∧
    (B + T * 16384 + g * 67108864 + ty * 134217728 + mo * 35184372088832 + per * 70368744177664) / 70368744177664 % 65536 = per ∧
    (B + T * 16384 + g * 67108864 + ty * 134217728 + mo * 35184372088832 + per * 70368744177664) / 134217728 % 262144 = ty ∧
    (B + T * 16384 + g * 67108864 + ty * 134217728 + mo * 35184372088832 + per * 70368744177664) / 35184372088832 % 2 = mo ∧
    (B + T * 16384 + g * 67108864 + ty * 134217728 + mo * 35184372088832 + per * 70368744177664) % 16384 = B ∧
    (B + T * 16384 + g * 67108864 + ty * 134217728 + mo * 35184372088832 + per * 70368744177664) / 16384 % 4096 = T := by
  have e : B + T * 16384 + g * 67108864 + ty * 134217728 + mo * 35184372088832 + per * 70368744177664 = B + 16384 * (T + 4096 * (g + 2 * (ty + 262144 * (mo + 2 * per)))) := by omega
  rw [e]
  generalize hY4 : mo + 2 * per = Y4
  generalize hY3 : ty + 262144 * Y4 = Y3
  generalize hY2 : g + 2 * Y3 = Y2
  generalize hY1 : T + 4096 * Y2 = Y1
  have d1 : (B + 16384 * Y1) / 16384 = Y1 := by omega
  have d2 : Y1 / 4096 = Y2 := by omega
  have d3 : Y2 / 2 = Y3 := by omega
  have d4 : Y3 / 262144 = Y4 := by omega
  have d5 : Y4 / 2 = per := by omega
  have f2 : (B + 16384 * Y1) / 67108864 = Y2 := by rw [show (67108864 : Nat) = 16384 * 4096 from rfl, ← Nat.div_div_eq_div_mul, d1, d2]
  have f3 : (B + 16384 * Y1) / 134217728 = Y3 := by rw [show (134217728 : Nat) = 67108864 * 2 from rfl, ← Nat.div_div_eq_div_mul, f2, d3]
  have f4 : (B + 16384 * Y1) / 35184372088832 = Y4 := by rw [show (35184372088832 : Nat) = 134217728 * 262144 from rfl, ← Nat.div_div_eq_div_mul, f3, d4]
  have f5 : (B + 16384 * Y1) / 70368744177664 = per := by rw [show (70368744177664 : Nat) = 35184372088832 * 2 from rfl, ← Nat.div_div_eq_div_mul, f4, d5]
  rw [f2, f3, f4, f5, d1]
  refine ⟨by omega, by omega, by omega, by omega, by omega, by omega⟩
theorem unp_M (c : Cp) (h : R c) : Unp (M c) c.tag c.ad c := by
  obtain ⟨tag, per, ty, mo, e, b, t, big, ad⟩ := c
  obtain ⟨h1, h2, h3, h4, h5, h6, h7⟩ := h
  dsimp only at h1 h2 h3 h4 h5 h6 h7
  cases big with
  | true =>
    simp only [true_implies] at h6
    obtain ⟨k1, k2, k3, k4, k5, k6⟩ := unp_nat (b.toNat + e.toNat % 8) (t.toNat + e.toNat / 8) 1 ty.toNat mo.toNat per.toNat (by omega) (by omega) (by omega) h2 h3 h1
    rw [show b.toNat + e.toNat % 8 + (t.toNat + e.toNat / 8) * 16384 + 1 * 67108864 + ty.toNat * 134217728 + mo.toNat * 35184372088832 + per.toNat * 70368744177664 = M ⟨tag, per, ty, mo, e, b, t, true, ad⟩ by simp [M, bf, tf]] at k1 k2 k3 k4 k5 k6
    generalize M ⟨tag, per, ty, mo, e, b, t, true, ad⟩ = Y at k1 k2 k3 k4 k5 k6
    refine ⟨rfl, k2.symm, k3.symm, k4.symm, by simp [k1], ?_, ?_, ?_, rfl⟩
    · rw [if_pos k1]
      have : Y / 16384 % 8 * 8 + Y % 8 = e.toNat := by
        have e1 : Y / 16384 % 8 = (Y / 16384 % 4096) % 8 := by omega
        have e2 : Y % 8 = (Y % 16384) % 8 := by omega
        rw [e1, e2, k5, k6]; omega
      rw [this, if_neg (by omega)]
    · rw [if_pos k1, k5]; dsimp only; omega
    · rw [if_pos k1, k6]; dsimp only; omega
  | false =>
    simp only [true_implies] at h7
    obtain ⟨k1, k2, k3, k4, k5, k6⟩ := unp_nat (b.toNat + 0) (t.toNat + 0) 0 ty.toNat mo.toNat per.toNat (by omega) (by omega) (by omega) h2 h3 h1
    rw [show b.toNat + 0 + (t.toNat + 0) * 16384 + 0 * 67108864 + ty.toNat * 134217728 + mo.toNat * 35184372088832 + per.toNat * 70368744177664 = M ⟨tag, per, ty, mo, e, b, t, false, ad⟩ by simp [M, bf, tf]] at k1 k2 k3 k4 k5 k6
    generalize M ⟨tag, per, ty, mo, e, b, t, false, ad⟩ = Y at k1 k2 k3 k4 k5 k6
    have hb : ¬ Y / 67108864 % 2 = 1 := by omega
    refine ⟨rfl, k2.symm, k3.symm, k4.symm, by simp [hb], ?_, ?_, ?_, rfl⟩
    · rw [if_neg hb]; exact h7
    · rw [if_neg hb, k5]; rfl
    · rw [if_neg hb, k6]; rfl
theorem back17 (c : Cp) (h : R c) : v_capenc_Unpack c.tag c.ad (v_capenc_meta c ^^^ 35184305078276#64) = c := by
  have k := v17_unp c.tag c.ad (v_capenc_meta c ^^^ 35184305078276#64)
  rw [BitVec.xor_assoc, BitVec.xor_self, BitVec.xor_zero, meta_M c h] at k
  exact k.eq (unp_M c h)
theorem of_right (c : Cp) : R (v_l05_Right c) := by
  have h := right_ok c
  exact ⟨h.per, h.ty, h.mo, h.b, h.t, fun q => ⟨h.e, h.b8 q, h.t8 q⟩, fun q => by rw [h.e0 q]; rfl⟩
theorem back_right (c : Cp) : v_capenc_Unpack (v_l05_Right c).tag (v_l05_Right c).ad (v_capenc_meta (v_l05_Right c) ^^^ 35184305078276#64) = v_l05_Right c := back17 _ (of_right c)
end Go.Sx.Enc


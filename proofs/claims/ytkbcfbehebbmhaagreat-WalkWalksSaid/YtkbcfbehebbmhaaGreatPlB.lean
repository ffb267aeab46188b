/- Plain laws: right capabilities; where nothing panics. -/
import Derived.Test.YtkbcfbehebbmhaaGreatVa05
import Derived.Test.YtkbcfbehebbmhaaGreatSxLen2
set_option linter.unusedSimpArgs false
set_option linter.unusedVariables false
set_option linter.unnecessarySimpa false
namespace Go.Sx
open Go

theorem nonnegI (x : BitVec 64) (h : x.toNat < 9223372036854775808) : nonneg .i64 x = true := by
  have : x.msb = false := by rw [BitVec.msb_eq_decide]; simp; omega
  show (!(true && x.msb)) = true
  rw [this]; rfl
theorem nonnegU (x : BitVec 64) : nonneg .u64 x = true := rfl

theorem pickLt (k n : BitVec 64) (h0 : 0 < n.toNat) (h : n.toNat < 9223372036854775808) : (v_kit_Pick k n).toNat < n.toNat := by
  unfold v_kit_Pick
  rw [sltR _ _ (by decide), decide_eq_false (by rw [show (1#64).toNat = 1 from rfl]; omega), cond_false]
  have hi : n.toInt = (n.toNat : Int) := by rw [BitVec.toInt_eq_toNat_cond]; split <;> omega
  have hk := BitVec.toInt_srem k n
  rw [hi] at hk
  have hb1 := Int.tmod_lt_of_pos k.toInt (b := (n.toNat : Int)) (by omega)
  have hb2 : -(n.toNat : Int) < k.toInt.tmod n.toNat := by
    have h1 := Int.natAbs_tmod k.toInt (n.toNat : Int)
    have h2 := Nat.mod_lt k.toInt.natAbs (show 0 < (n.toNat : Int).natAbs by omega)
    omega
  rw [← hk] at hb1 hb2
  cases hs : (k.srem n).slt 0#64 with
  | true =>
    rw [cond_true]
    have hneg : (k.srem n).toInt < 0 := by simpa [BitVec.slt] using hs
    have hlt := (k.srem n).isLt
    rw [BitVec.toInt_eq_toNat_cond] at hneg hb2
    rw [BitVec.toNat_add]
    split at hneg <;> omega
  | false =>
    rw [cond_false]
    have hneg : ¬ (k.srem n).toInt < 0 := by simpa [BitVec.slt] using hs
    rw [BitVec.toInt_eq_toNat_cond] at hneg hb1
    have hlt := (k.srem n).isLt
    split at hneg <;> omega
theorem pickId (k n : BitVec 64) (hk : k.toNat < n.toNat) (h : n.toNat < 9223372036854775808) : v_kit_Pick k n = k := by
  unfold v_kit_Pick
  rw [sltR _ _ (by decide), decide_eq_false (by rw [show (1#64).toNat = 1 from rfl]; omega), cond_false]
  have e : k.srem n = k := by
    rw [sremN _ _ h (by omega)]
    apply BitVec.eq_of_toNat_eq
    rw [BitVec.toNat_umod, Nat.mod_eq_of_lt hk]
  rw [e, sltR _ _ (by decide), decide_eq_false (by rw [show (0#64).toNat = 0 from rfl]; omega), cond_false]

/-- A capability whose fields are in their places. -/
structure RightC (c : Cp) : Prop where
  e : c.e.toNat ≤ 52
  b : c.b.toNat < 16384
  t : c.t.toNat < 4096
  per : c.per.toNat < 65536
  ty : c.ty.toNat < 262144
  mo : c.mo.toNat < 2
  e0 : c.big = false → c.e = 0#64
  b8 : c.big = true → c.b.toNat % 8 = 0
  t8 : c.big = true → c.t.toNat % 8 = 0

theorem and8 (x : BitVec 64) : (x &&& 18446744073709551608#64).toNat = x.toNat - x.toNat % 8 := by
  have h := x.isLt
  have e : x &&& 18446744073709551608#64 = (x >>> 3) <<< 3 := by
    apply BitVec.eq_of_getLsbD_eq
    intro i hi
    have hm : ∀ j : Fin 64, (18446744073709551608#64).getLsbD j.val = !decide (j.val < 3) := by decide
    rw [BitVec.getLsbD_and, hm ⟨i, hi⟩, BitVec.getLsbD_shiftLeft, BitVec.getLsbD_ushiftRight]
    by_cases h3 : i < 3
    · simp [h3]
    · simp [h3, hi, show 3 + (i - 3) = i by omega]
  rw [e, BitVec.toNat_shiftLeft, BitVec.toNat_ushiftRight, Nat.shiftLeft_eq, Nat.shiftRight_eq_div_pow]
  omega

theorem may_e (c : Cp) : (v_l03_May c).e.toNat ≤ 52 := by
  unfold v_l03_May
  cases c.big
  · simp
  · have := pickLt c.e 53#64 (by decide) (by decide)
    simp only [Bool.not_true, cond_false]
    have h : (53#64).toNat = 53 := rfl
    omega
theorem may_b (c : Cp) : (v_l03_May c).b.toNat < 16384 := by
  have h := pickLt c.b 16384#64 (by decide) (by decide)
  unfold v_l03_May
  cases c.big <;> exact h
theorem may_t (c : Cp) : (v_l03_May c).t.toNat < 4096 := by
  have h := pickLt c.t 4096#64 (by decide) (by decide)
  unfold v_l03_May
  cases c.big <;> exact h
theorem may_big (c : Cp) : (v_l03_May c).big = c.big := by unfold v_l03_May; cases c.big <;> rfl
theorem may_tag (c : Cp) : (v_l03_May c).tag = c.tag := by unfold v_l03_May; cases c.big <;> rfl
theorem may_ad (c : Cp) : (v_l03_May c).ad = c.ad := by unfold v_l03_May; cases c.big <;> rfl
theorem may_e0 (c : Cp) (h : c.big = false) : (v_l03_May c).e = 0#64 := by unfold v_l03_May; rw [h]; rfl

theorem right_ok (c : Cp) : RightC (v_l05_Right c) := by
  have he := may_e c
  have hb := may_b c
  have ht := may_t c
  have hp := pickLt (v_l03_May c).per 65536#64 (by decide) (by decide)
  have hy := pickLt (v_l03_May c).ty 262144#64 (by decide) (by decide)
  have hm := pickLt (v_l03_May c).mo 2#64 (by decide) (by decide)
  have hb8 := and8 (v_l03_May c).b
  have ht8 := and8 (v_l03_May c).t
  have hbig := may_big c
  unfold v_l05_Right
  cases h : (v_l03_May c).big with
  | true =>
    simp only [cond_true]
    exact ⟨he, by show (_ &&& _ : BitVec 64).toNat < _; omega, by show (_ &&& _ : BitVec 64).toNat < _; omega, hp, hy, hm, fun h => by simp at h, fun _ => by show (_ &&& _ : BitVec 64).toNat % 8 = 0; omega, fun _ => by show (_ &&& _ : BitVec 64).toNat % 8 = 0; omega⟩
  | false =>
    simp only [cond_false]
    exact ⟨he, hb, ht, hp, hy, hm, fun _ => may_e0 c (by rw [← hbig, h]), fun h => by simp at h, fun h => by simp at h⟩

theorem g_up_ok (a : W2) (n : BitVec 64) (h : n.toNat < 9223372036854775808) : g_bounds_number_up a n = true := by
  unfold g_bounds_number_up
  rw [nonnegI n h]
  cases h1 : (n == 0#64) with
  | true => rfl
  | false =>
    cases h2 : (65#64).sle n with
    | true => rfl
    | false =>
      rw [sleL _ _ (by decide)] at h2
      simp only [decide_eq_false_iff_not] at h2
      have h3 : n.toNat ≤ 64 := by
        have : (65#64).toNat = 65 := rfl
        omega
      cases h4 : (n == 64#64) with
      | true => rfl
      | false =>
        rw [nonnegI (64#64 - n) (by rw [BitVec.toNat_sub, show (64#64).toNat = 64 from rfl]; omega)]
        rfl
theorem g_Of_ok {c : Cp} (h : c.e.toNat ≤ 52) : g_bounds_Of c = true := by
  have h1 := nonnegI c.e (by omega)
  have h2 : (c.e + 14#64).toNat < 9223372036854775808 := by rw [BitVec.toNat_add, show (14#64).toNat = 14 from rfl]; omega
  have h3 := nonnegI _ h2
  have u1 := fun a => g_up_ok a (c.e + 14#64) h2
  have u2 := fun a => g_up_ok a c.e (by omega)
  unfold g_bounds_Of
  simp only [h1, h3, u1, u2, cond_true, Bool.cond_self]
theorem g_down_ok (a : W2) (n : BitVec 64) (h : n.toNat ≤ 64) : g_bounds_number_down a n = true := by
  unfold g_bounds_number_down
  simp only [nonnegI n (by omega), nonnegI (64#64 - n) (by rw [BitVec.toNat_sub, show (64#64).toNat = 64 from rfl]; omega), cond_true, Bool.cond_self]
theorem g_mant_ok (a b : W2) (e : BitVec 64) (h : e.toNat ≤ 61) : g_bounds_mantissas a b e = true := by
  have h1 : (e + 3#64).toNat ≤ 64 := by rw [BitVec.toNat_add, show (3#64).toNat = 3 from rfl]; omega
  unfold g_bounds_mantissas
  simp only [g_down_ok _ _ h1, cond_true]
/-- The exponent that a length needs. -/
def expo (n : BitVec 64) : BitVec 64 := bif (0#64).slt (v_bits_Len64 n - 13#64) then v_bits_Len64 n - 13#64 else 0#64
theorem blen_le {n k : Nat} (h : n < 2 ^ k) : blen n ≤ k := by
  unfold blen
  split
  · omega
  · rename_i h0
    have := (Nat.log2_lt h0).2 h
    omega
theorem lt_blen (n : Nat) : n < 2 ^ blen n := by
  unfold blen
  split
  · omega
  · exact Nat.lt_log2_self
theorem le_blen {n : Nat} (h : n ≠ 0) : 2 ^ (blen n - 1) ≤ n := by
  unfold blen
  rw [if_neg h, Nat.add_sub_cancel]
  exact Nat.log2_self_le h
theorem len64N (n : BitVec 64) : (v_bits_Len64 n).toNat = blen n.toNat := by
  have := blen_le n.isLt
  unfold v_bits_Len64
  rw [BitVec.toNat_ofNat, Nat.mod_eq_of_lt (by omega)]
theorem expoN (n : BitVec 64) : (expo n).toNat = blen n.toNat - 13 := by
  have hl := len64N n
  have hb := blen_le n.isLt
  unfold expo
  have hs : (v_bits_Len64 n - 13#64).toNat = (18446744073709551603 + blen n.toNat) % 18446744073709551616 := by
    rw [BitVec.toNat_sub, hl]; rfl
  rw [sltL _ _ (by decide), hs, show (0#64).toNat = 0 from rfl]
  by_cases h : 14 ≤ blen n.toNat
  · rw [decide_eq_true (by omega), cond_true, hs]; omega
  · rw [decide_eq_false (by omega), cond_false, show (0#64).toNat = 0 from rfl]; omega
theorem g_Lay_ok (c : Cp) (n : BitVec 64) : g_bounds_Lay c n = true := by
  have he := expoN n
  have hb := blen_le n.isLt
  unfold g_bounds_Lay
  rw [← expo]
  have h1 : (expo n).toNat ≤ 61 := by omega
  have h2 : (expo n + 1#64).toNat ≤ 61 := by rw [BitVec.toNat_add, show (1#64).toNat = 1 from rfl]; omega
  simp only [g_mant_ok _ _ _ h1, g_mant_ok _ _ _ h2, cond_true, Bool.cond_self]
/-- The exponent of what is laid. -/
theorem lay_e (c : Cp) (n : BitVec 64) : (v_bounds_Lay c n).1.e.toNat ≤ 52 := by
  have he := expoN n
  have hb := blen_le n.isLt
  have h1 : (expo n).toNat ≤ 52 := by omega
  have h2 : (expo n + 1#64).toNat ≤ 52 := by rw [BitVec.toNat_add, show (1#64).toNat = 1 from rfl]; omega
  have h0 : (0#64).toNat ≤ 52 := by decide
  unfold v_bounds_Lay
  rw [← expo]
  generalize expo n = x at *
  (repeat' (rw [Bool.cond_eq_ite]; split)) <;> assumption
theorem lay_keeps (c : Cp) (n : BitVec 64) : (v_bounds_Lay c n).1.tag = c.tag ∧ (v_bounds_Lay c n).1.per = c.per ∧ (v_bounds_Lay c n).1.ty = c.ty ∧ (v_bounds_Lay c n).1.mo = c.mo ∧ (v_bounds_Lay c n).1.ad = c.ad := by
  unfold v_bounds_Lay
  (repeat' (rw [Bool.cond_eq_ite]; split)) <;> exact ⟨rfl, rfl, rfl, rfl, rfl⟩
theorem right_e (c : Cp) : (v_l05_Right c).e.toNat ≤ 52 := (right_ok c).e
theorem g_Of_right (c : Cp) : g_bounds_Of (v_l05_Right c) = true := g_Of_ok (right_e c)
theorem g_Of_lay (c : Cp) (n : BitVec 64) : g_bounds_Of (v_bounds_Lay c n).1 = true := g_Of_ok (lay_e c n)
end Go.Sx

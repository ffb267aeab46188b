/- The plain laws of capabilities' numbers: forms, unlike ones, numbers and roots. -/
import Derived.Test.YtckpnfngkncanaaYtcPlain2
set_option linter.unusedSimpArgs false
set_option linter.unusedVariables false
namespace Go.Proofs.Ytckpnfngkncanaa
open Go Go.Sx

theorem unp_R {Y : Nat} {tag : Bool} {ad : BitVec 64} {c : Cp} (h : Unp Y tag ad c) : R c := by
  obtain ⟨h0, h1, h2, h3, h4, h5, h6, h7, h8⟩ := h
  refine ⟨by omega, by omega, by omega, ?_, ?_, ?_, ?_⟩
  · rw [h6]; split <;> omega
  · rw [h7]; split <;> omega
  · intro hb
    rw [h4] at hb
    have hb := of_decide_eq_true hb
    rw [if_pos hb] at h5 h6 h7
    refine ⟨?_, by omega, by omega⟩
    rw [h5]; split <;> omega
  · intro hb
    rw [h4] at hb
    have hb := of_decide_eq_false hb
    rw [if_neg hb] at h5
    exact h5
theorem split5 (B T g Y5 : Nat) (hB : B < 16384) (hT : T < 4096) (hg : g < 2) : (B + T * 16384 + g * 67108864 + Y5 * 134217728) / 134217728 = Y5 := by omega
theorem low27 (B T g Y5 : Nat) (hB : B < 16384) (hT : T < 4096) (hg : g < 2) : (B + T * 16384 + g * 67108864 + Y5 * 134217728) % 134217728 = B + T * 16384 + g * 67108864 := by omega
theorem lowY (Y : Nat) : Y % 134217728 = Y % 16384 + Y / 16384 % 4096 * 16384 + Y / 67108864 % 2 * 67108864 := by
  have e1 : Y / 67108864 = Y / 16384 / 4096 := by rw [Nat.div_div_eq_div_mul]
  rw [e1]
  have e2 : Y % 134217728 = Y % 16384 + 16384 * (Y / 16384 % 8192) := by
    rw [show (134217728 : Nat) = 16384 * 8192 from rfl, Nat.mod_mul]
  rw [e2]
  generalize Y / 16384 = Z
  omega
theorem unp_hi {Y : Nat} {tag : Bool} {ad : BitVec 64} {c : Cp} (h : Unp Y tag ad c) : M c / 134217728 = Y / 134217728 % 34359738368 := by
  have hr := unp_R h
  obtain ⟨tag', per, ty, mo, e, b, t, big, ad'⟩ := c
  obtain ⟨h0, h1, h2, h3, h4, h5, h6, h7, h8⟩ := h
  obtain ⟨r1, r2, r3, r4, r5, r6, r7⟩ := hr
  dsimp only at *
  have hm : ty.toNat + mo.toNat * 262144 + per.toNat * 524288 = Y / 134217728 % 34359738368 := by
    have e1 : Y / 35184372088832 = Y / 134217728 / 262144 := by rw [Nat.div_div_eq_div_mul]
    have e2 : Y / 70368744177664 = Y / 134217728 / 524288 := by rw [Nat.div_div_eq_div_mul]
    rw [h1, h2, h3, e1, e2]
    generalize Y / 134217728 = Z
    omega
  rw [← hm]
  cases big with
  | true =>
    simp only [true_implies] at r6
    rw [show M ⟨tag', per, ty, mo, e, b, t, true, ad'⟩ = (b.toNat + e.toNat % 8) + (t.toNat + e.toNat / 8) * 16384 + 1 * 67108864 + (ty.toNat + mo.toNat * 262144 + per.toNat * 524288) * 134217728 by simp [M, bf, tf]; omega]
    exact split5 _ _ _ _ (by omega) (by omega) (by omega)
  | false =>
    rw [show M ⟨tag', per, ty, mo, e, b, t, false, ad'⟩ = b.toNat + t.toNat * 16384 + 0 * 67108864 + (ty.toNat + mo.toNat * 262144 + per.toNat * 524288) * 134217728 by simp [M, bf, tf]; omega]
    exact split5 _ _ _ _ r4 r5 (by omega)
theorem unp_all {Y : Nat} {tag : Bool} {ad : BitVec 64} {c : Cp} (h : Unp Y tag ad c) (he : c.e.toNat < 52) (hY : Y < 4611686018427387904) : M c = Y := by
  have hi := unp_hi h
  have hr := unp_R h
  obtain ⟨tag', per, ty, mo, e, b, t, big, ad'⟩ := c
  obtain ⟨h0, h1, h2, h3, h4, h5, h6, h7, h8⟩ := h
  dsimp only at *
  have lo : M ⟨tag', per, ty, mo, e, b, t, big, ad'⟩ % 134217728 = Y % 134217728 := by
    by_cases hb : Y / 67108864 % 2 = 1
    · rw [if_pos hb] at h5 h6 h7
      have hbig : big = true := by rw [h4]; simp [hb]
      subst hbig
      have he' : e.toNat = Y / 16384 % 8 * 8 + Y % 8 := by
        split at h5
        · omega
        · exact h5
      have hB : b.toNat + e.toNat % 8 = Y % 16384 := by omega
      have hT : t.toNat + e.toNat / 8 = Y / 16384 % 4096 := by omega
      rw [show M ⟨tag', per, ty, mo, e, b, t, true, ad'⟩ = (b.toNat + e.toNat % 8) + (t.toNat + e.toNat / 8) * 16384 + 1 * 67108864 + (ty.toNat + mo.toNat * 262144 + per.toNat * 524288) * 134217728 by simp [M, bf, tf]; omega, hB, hT, low27 _ _ _ _ (by omega) (by omega) (by omega), lowY, hb]
    · rw [if_neg hb] at h5 h6 h7
      have hbig : big = false := by rw [h4]; simp [hb]
      subst hbig
      rw [show M ⟨tag', per, ty, mo, e, b, t, false, ad'⟩ = b.toNat + t.toNat * 16384 + 0 * 67108864 + (ty.toNat + mo.toNat * 262144 + per.toNat * 524288) * 134217728 by simp [M, bf, tf]; omega, h6, h7, low27 _ _ _ _ (by omega) (by omega) (by omega), lowY]
      have : Y / 67108864 % 2 = 0 := by omega
      rw [this]
  omega
theorem ofCp (c : Cp) (x : BitVec 64) (h : R c) : (v_25 c ^^^ 35184305078276#64).toNat / 134217728 = (M c / 134217728) ^^^ 262143 := by
  rw [BitVec.toNat_xor, v25_M c h, show (134217728 : Nat) = 2 ^ 27 from rfl, Nat.xor_div_two_pow]; rfl
theorem forms (tag : Bool) (ad x : BitVec 64) : v_6 tag ad x = true := by
  have u := v17_unp tag ad x
  have hr := unp_R u
  have hb := back17 (v_17 tag ad x) hr
  rw [u.tag, u.ad] at hb
  have h12 := (v12_iff _).2 hr
  have hx : x.toNat = (x ^^^ 35184305078276#64).toNat ^^^ 35184305078276 := by
    rw [BitVec.toNat_xor, show (35184305078276#64).toNat = 35184305078276 from rfl, Nat.xor_assoc, Nat.xor_self, Nat.xor_zero]
  have hhi : ((v_25 (v_17 tag ad x) ^^^ 35184305078276#64) >>> 27 == x >>> 27 % 34359738368#64) = true := by
    rw [beqN]
    apply decide_eq_true
    rw [shrN, BitVec.toNat_umod, shrN, show (34359738368#64).toNat = 2 ^ 35 from rfl, show (2 : Nat) ^ 27 = 134217728 from rfl, ofCp _ x hr, unp_hi u]
    generalize (x ^^^ 35184305078276#64).toNat = Y at hx
    rw [hx, show (134217728 : Nat) = 2 ^ 27 from rfl, Nat.xor_div_two_pow, Nat.xor_mod_two_pow]
  have hlast : (v_17 tag ad x).e.slt 52#64 = true → x.ult 4611686018427387904#64 = true → (v_25 (v_17 tag ad x) ^^^ 35184305078276#64 == x) = true := by
    intro h1 h2
    rw [sltR _ _ (by decide)] at h1
    have h1 := of_decide_eq_true h1
    have h2 := of_decide_eq_true (by rw [← ultN]; exact h2 : decide (x.toNat < (4611686018427387904#64).toNat) = true)
    have he : (v_17 tag ad x).e.toNat ≤ 52 := by
      rw [u.e]; split
      · split <;> omega
      · omega
    have h52 : (52#64).toNat = 52 := rfl
    have h62 : (4611686018427387904#64).toNat = 4611686018427387904 := rfl
    have hY : (x ^^^ 35184305078276#64).toNat < 4611686018427387904 := by
      rw [BitVec.toNat_xor]
      exact Nat.xor_lt_two_pow (n := 62) (by omega) (by decide)
    have hM := unp_all u (by omega) hY
    have : v_25 (v_17 tag ad x) = x ^^^ 35184305078276#64 := BitVec.eq_of_toNat_eq ((v25_M _ hr).trans hM)
    rw [this, BitVec.xor_assoc, BitVec.xor_self, BitVec.xor_zero]
    simp
  unfold v_6
  simp only [v15_eq, u.tag, u.ad, hb, h12, hhi]
  cases h1 : (v_17 tag ad x).e.slt 52#64 with
  | false => simp
  | true =>
    cases h2 : x.ult 4611686018427387904#64 with
    | false => simp
    | true => simp [hlast h1 h2]

theorem apart_ne (c d : Cp) (hc : R c) (hd : R d) (ht : c.tag = d.tag) (ha : c.ad = d.ad) (h : v_25 c ^^^ 35184305078276#64 = v_25 d ^^^ 35184305078276#64) : c = d := by
  rw [← back17 c hc, ← back17 d hd, h, ht, ha]
theorem apart (c d : Cp) : v_7 c d = true := by
  unfold v_7
  cases h1 : v_12 c with
  | false => rfl
  | true =>
    cases h2 : v_12 d with
    | false => rfl
    | true =>
      have hc := (v12_iff c).1 h1
      have hd := (v12_iff d).1 h2
      obtain ⟨tag, per, ty, mo, e, b, t, big, ad⟩ := c
      obtain ⟨tag', per', ty', mo', e', b', t', big', ad'⟩ := d
      have hd' : R ⟨tag, per', ty', mo', e', b', t', big', ad'⟩ := hd
      simp only [v15_eq, Bool.not_true, cond_false]
      by_cases ha : ad = ad'
      · subst ha
        by_cases hm : v_25 ⟨tag, per, ty, mo, e, b, t, big, ad⟩ ^^^ 35184305078276#64 = v_25 ⟨tag, per', ty', mo', e', b', t', big', ad⟩ ^^^ 35184305078276#64
        · have := apart_ne _ _ hc hd' rfl rfl hm
          simp only [Cp.mk.injEq] at this
          obtain ⟨_, rfl, rfl, rfl, rfl, rfl, rfl, rfl, _⟩ := this
          simp
        · have hf : (v_25 ⟨tag, per, ty, mo, e, b, t, big, ad⟩ ^^^ 35184305078276#64 == v_25 ⟨tag, per', ty', mo', e', b', t', big', ad⟩ ^^^ 35184305078276#64) = false := beq_eq_false_iff_ne.2 hm
          rw [hf]
          by_cases hq : per = per' ∧ ty = ty' ∧ mo = mo' ∧ e = e' ∧ b = b' ∧ t = t' ∧ big = big'
          · obtain ⟨rfl, rfl, rfl, rfl, rfl, rfl, rfl⟩ := hq
            exact absurd rfl hm
          · have : (tag == tag && (per == per' && (ty == ty' && (mo == mo' && (e == e' && (b == b' && (t == t' && (big == big' && (ad == ad && true))))))))) = false := by
              rw [Bool.eq_false_iff]
              intro h
              simp only [Bool.and_eq_true, beq_iff_eq] at h
              exact hq ⟨h.2.1, h.2.2.1, h.2.2.2.1, h.2.2.2.2.1, h.2.2.2.2.2.1, h.2.2.2.2.2.2.1, h.2.2.2.2.2.2.2.1⟩
            rw [this]; simp
      · have hf : (ad == ad') = false := beq_eq_false_iff_ne.2 ha
        simp [hf]

theorem unp0 (n : BitVec 64) : Unp ((0#64 ^^^ 35184305078276#64).toNat) false n (v_19 n) := by
  refine ⟨rfl, ?_, ?_, ?_, ?_, ?_, ?_, ?_, rfl⟩
  · show (0#64).toNat = _; decide
  · show (262143#64).toNat = _; decide
  · show (0#64).toNat = _; decide
  · show true = _; decide
  · show (52#64).toNat = _; decide
  · show (0#64).toNat = _; decide
  · show (0#64).toNat = _; decide
theorem num_root (n m : BitVec 64) : R (v_21 m n) ∧ (v_21 m n).tag = true ∧ (v_21 m n).per = 65535#64 ∧ (v_21 m n).ty = 262143#64 ∧ (v_21 m n).ad = n := by
  unfold v_21
  cases m == 1#64
  · simp only [cond_false, v_19, and_true, R]; decide
  · simp only [cond_true, v_19, and_true, R]; decide
theorem numbers (n k m : BitVec 64) : v_10 n k m = true := by
  have e0 := (v17_unp false n 0#64).eq (unp0 n)
  obtain ⟨hr, h1, h2, h3, h4⟩ := num_root n m
  have hne : (v_25 (v_21 m n) ^^^ 35184305078276#64 == 0#64) = false := by
    rw [beq_eq_false_iff_ne]
    intro h
    have hM := v25_M _ hr
    have : v_25 (v_21 m n) = 35184305078276#64 := by
      have := congrArg (· ^^^ 35184305078276#64) h
      simpa [BitVec.xor_assoc] using this
    rw [this] at hM
    simp only [M, h2] at hM
    have e1 : (35184305078276#64).toNat = 35184305078276 := rfl
    have e2 : (65535#64).toNat = 65535 := rfl
    omega
  unfold v_10
  simp only [v15_eq, e0, h1, h2, h3, h4, (v12_iff _).2 hr, hne]
  simp [v_19]
end Go.Proofs.Ytckpnfngkncanaa

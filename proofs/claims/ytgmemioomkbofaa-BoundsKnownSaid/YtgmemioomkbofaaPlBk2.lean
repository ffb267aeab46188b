/- Plain laws, in one text. -/
import Derived.Test.YtgmemioomkbofaaPlLay4
import Derived.Test.YtgmemioomkbofaaPlCap5
import Derived.KernelRfl
import Derived.Test.YtgmemioomkbofaaSxLoop
import Derived.Test.YtgmemioomkbofaaSxAE
set_option linter.unusedSimpArgs false
set_option linter.unusedVariables false
set_option linter.unnecessarySimpa false
/- Bounds that are laid, in numbers. -/
namespace Go.Sx
open Go
set_option maxHeartbeats 1000000
theorem expo_small {n : BitVec 64} (h : n.toNat < 8192) : expo n = 0#64 := by
  apply BitVec.eq_of_toNat_eq
  rw [expoN]
  have : blen n.toNat ≤ 13 := blen_le (by omega)
  show _ = 0
  omega
theorem bit12 (n : BitVec 64) (h : n.toNat < 8192) : (n >>> 12 &&& 1#64 == 1#64) = decide (4096 ≤ n.toNat) := by
  rw [bigN, Bool.eq_iff_iff, beq_iff_eq, decide_eq_true_iff]
  constructor
  · intro e
    have := congrArg BitVec.toNat e
    simp only [BitVec.toNat_umod, BitVec.toNat_ushiftRight, Nat.shiftRight_eq_div_pow, BitVec.toNat_ofNat, Nat.reducePow, Nat.reduceMod] at this
    omega
  · intro e
    apply BitVec.eq_of_toNat_eq
    simp only [BitVec.toNat_umod, BitVec.toNat_ushiftRight, Nat.shiftRight_eq_div_pow, BitVec.toNat_ofNat, Nat.reducePow, Nat.reduceMod]
    omega
theorem blen_lt {n : Nat} (h : blen n ≤ 13) : n < 8192 := by
  unfold blen at h
  split at h
  · omega
  · rename_i hn
    exact (Nat.log2_lt (k := 13) hn).1 (by omega)
theorem lay_fold (n : BitVec 64) : (bif (0#64).slt (v_bits_Len64 n - 13#64) then v_bits_Len64 n - 13#64 else 0#64) = expo n := rfl
theorem lay_small (c : Cp) {n : BitVec 64} (h : n.toNat < 4096) : v_bounds_Lay c n = ({ c with e := 0#64, b := c.ad &&& 16383#64, t := (c.ad + n) &&& 4095#64, big := false }, true) := by
  have e0 : expo n = 0#64 := expo_small (by omega)
  have b0 : (n >>> 12 &&& 1#64 == 1#64) = false := by rw [bit12 n (by omega)]; simp; omega
  have t3 : (v_bounds_number_plus ⟨0#64, c.ad⟩ ⟨0#64, n⟩).lo = c.ad + n := rfl
  unfold v_bounds_Lay
  simp only [lay_fold, e0, b0, t3, BitVec.setWidth_eq, show (0#64 : BitVec 64).slt 0#64 = false by decide, Bool.not_false, cond_true, cond_false]
/-- The upper mantissa, told by numbers. -/
def tN (s k : Nat) : BitVec 64 := (cN s k + v_bounds_truth (cL s k)).srem 2048#64
def layAt (c : Cp) (e : BitVec 64) (s : Nat) : Cp × Bool :=
  ({ c with e := e, b := cN c.ad.toNat (e.toNat + 3) <<< 3, t := tN s (e.toNat + 3) <<< 3 &&& 4095#64, big := true }, !cL c.ad.toNat (e.toNat + 3) && !cL s (e.toNat + 3))
theorem lay_big (c : Cp) {n : BitVec 64} (h : 4096 ≤ n.toNat) : v_bounds_Lay c n = cond (!tN (c.ad.toNat + n.toNat) ((expo n).toNat + 3) - cN c.ad.toNat ((expo n).toNat + 3) &&& 1024#64 == 0#64) (layAt c (expo n + 1#64) (c.ad.toNat + n.toNat)) (layAt c (expo n) (c.ad.toNat + n.toNat)) := by
  have f1 : W2.val { hi := 0#64, lo := c.ad } = c.ad.toNat := by unfold W2.val; simp
  have f2 : (W2.mk 0#64 c.ad).hi.toNat < 2 := by show (0#64).toNat < 2; decide
  have t1 := plusLoN c.ad n
  have t2 : (v_bounds_number_plus ⟨0#64, c.ad⟩ ⟨0#64, n⟩).hi.toNat < 2 := by rw [plus_add]; exact add_hi _ _
  have x0 := expoN n
  have xb := blen_le n.isLt
  have x1 : (expo n + 1#64).toNat = (expo n).toNat + 1 := by rw [BitVec.toNat_add, show (1#64).toNat = 1 from rfl]; omega
  have m1 := mant_val _ _ f2 t2 (expo n) (by omega)
  have m2 := mant_val _ _ f2 t2 (expo n + 1#64) (by omega)
  rw [f1, t1] at m1 m2
  have big : (n >>> 12 &&& 1#64 == 1#64) = true ∨ (0#64).slt (expo n) = true := by
    by_cases hn : n.toNat < 8192
    · left; rw [bit12 n hn]; exact decide_eq_true h
    · right
      have hb : 13 < blen n.toNat := by
        rcases Nat.lt_or_ge 13 (blen n.toNat) with h' | h'
        · exact h'
        · exact absurd (blen_lt h') hn
      rw [sltL _ _ (by decide)]; simp only [show (0#64 : BitVec 64).toNat = 0 from rfl, decide_eq_true_eq]; omega
  unfold v_bounds_Lay
  simp only [lay_fold, m1, m2]
  unfold layAt tN
  have pk : ∀ (a b : Bool) (x : Cp), cond (!a) (x, !b) (x, false) = (x, !a && !b) := fun a b x => by cases a <;> cases b <;> rfl
  cases hs : (0#64).slt (expo n) with
  | true => simp only [cond_true, pk]
  | false =>
    have hb : (n >>> 12 &&& 1#64 == 1#64) = true := by
      rcases big with hb | hb
      · exact hb
      · rw [hb] at hs; exact absurd hs (by decide)
    simp only [cond_false, hb, Bool.not_true, pk]
end Go.Sx

/- Bounds in numbers: what stands for bounds, told. -/
namespace Go.Sx
open Go
set_option maxHeartbeats 1000000
def ofW (a s v e : BitVec 64) : W2 := v_r03_add (v_r03_up (v_r03_part a s).fst (v_r03_part a s).snd (e + 14#64)) (v_r03_up v false e)
def r03A (c : Cp) : BitVec 64 := cond ((c.e + 14#64).slt 64#64) (c.ad >>> min (BitVec.signExtend 64 (c.e + 14#64)).toNat 64) 0#64
def r03t (c : Cp) : BitVec 64 := c.t + (c.b.sdiv 4096#64 + v_r03_one (c.t.slt (c.b.srem 4096#64)) + v_r03_one c.big).srem 4#64 * 4096#64
def r03r (c : Cp) : BitVec 64 := (c.b.sdiv 2048#64 + 7#64).srem 8#64 * 2048#64
def r03m (c : Cp) : BitVec 64 := BitVec.setWidth 64 (c.ad >>> min (BitVec.signExtend 64 c.e).toNat 64 % 16384#64)
def r03b (c : Cp) : W2 := ofW (r03A c) (v_r03_one (c.b.slt (r03r c)) - v_r03_one ((r03m c).slt (r03r c))) (BitVec.signExtend 64 c.b) c.e
def r03T (c : Cp) : W2 := ofW (r03A c) (v_r03_one ((r03t c).slt (r03r c)) - v_r03_one ((r03m c).slt (r03r c))) (BitVec.signExtend 64 (r03t c)) c.e
def r03f (c : Cp) : Bool := c.e.slt 51#64 && (1#64).ult ((2#64 * (r03T c).hi + (r03T c).lo >>> 63 + 4#64 - (r03b c).lo >>> 63) % 4#64)
theorem cond_mk (q u v : Bool) (x y : BitVec 64) : cond q (⟨x, y, u⟩ : Rg) ⟨x, y, v⟩ = ⟨x, y, cond q u v⟩ := by cases q <;> rfl
theorem of_form (c : Cp) : v_r03_Of c = ⟨(r03b c).lo, (r03T c).lo, cond (r03f c) (1#64 - (r03T c).hi == 1#64) ((r03T c).hi == 1#64)⟩ := by
  unfold v_r03_Of r03f r03b r03T r03A r03m r03r r03t ofW
  cases (c.e + 14#64).slt 64#64 <;> cases c.e.slt 51#64 <;> simp only [cond_true, cond_false, Bool.true_and, Bool.false_and]
  · exact cond_mk _ _ _ _ _
  · exact cond_mk _ _ _ _ _
/-- A number, moved up: told. -/
theorem up_val (v n : BitVec 64) (hn : n.toNat ≤ 100) : (v_r03_up v false n).val = v.toNat * 2 ^ n.toNat % 2 ^ 65 ∧ (v_r03_up v false n).hi.toNat < 2 := by
  obtain ⟨h1, h2⟩ := upF n v 0#64 (by omega)
  have hv := v.isLt
  unfold v_r03_up W2.val
  simp only [cond_false, h1, h2]
  by_cases hz : n.toNat = 0
  · rw [hz]
    simp only [upIter, Nat.pow_zero, Nat.mul_one]
    constructor
    · show (0#64).toNat * _ + _ = _
      simp; omega
    · decide
  · rw [upIter_eq _ _ _ hz]
    simp only [BitVec.toNat_ofNat, BitVec.toNat_shiftLeft, Nat.shiftLeft_eq]
    obtain ⟨k, hk⟩ : ∃ k, n.toNat = k + 1 := ⟨n.toNat - 1, by omega⟩
    rw [hk, Nat.add_sub_cancel, show (2 : Nat) ^ (k + 1) = 2 ^ k * 2 from Nat.pow_succ .., ← Nat.mul_assoc]
    generalize v.toNat * 2 ^ k = y
    constructor <;> omega
theorem add_val (a b : W2) (ha : a.hi.toNat < 2) (hb : b.hi.toNat < 2) : (v_r03_add a b).val = (a.val + b.val) % 2 ^ 65 := by
  have h1 := a.lo.isLt
  have h2 := b.lo.isLt
  have h3 : (a.lo + b.lo).ult a.lo = decide (2 ^ 64 ≤ a.lo.toNat + b.lo.toNat) := by
    rw [Bool.eq_iff_iff, decide_eq_true_iff]
    simp only [BitVec.ult, decide_eq_true_eq, BitVec.toNat_add]
    omega
  unfold v_r03_add W2.val
  rw [h3]
  by_cases h : 2 ^ 64 ≤ a.lo.toNat + b.lo.toNat
  · rw [decide_eq_true h, cond_true]
    simp only [BitVec.toNat_umod, BitVec.toNat_add, BitVec.toNat_ofNat, Nat.reducePow, Nat.reduceMod]
    omega
  · rw [decide_eq_false h, cond_false]
    simp only [BitVec.toNat_umod, BitVec.toNat_add, BitVec.toNat_ofNat, Nat.reducePow, Nat.reduceMod]
    omega
end Go.Sx

/- Bounds in numbers: a capability whose fields are cut from an address and a length has just these bounds. -/
namespace Go.Sx
open Go
set_option maxHeartbeats 1000000
theorem one_toNat (b : Bool) : (v_r03_one b).toNat = if b then 1 else 0 := by cases b <;> rfl
theorem ofW_val (a s v e : BitVec 64) (hs : s = 0#64 ∨ s = 1#64) (ha : a.toNat + 1 < 2 ^ 64) (he : e.toNat ≤ 52) :
    (ofW a s v e).val = ((a.toNat + s.toNat) * 2 ^ (e.toNat + 14) + v.toNat * 2 ^ e.toNat) % 2 ^ 65 := by
  have hp : v_r03_part a s = (a + s, false) := by
    rcases hs with rfl | rfl
    · rfl
    · rfl
  have e14 : (e + 14#64).toNat = e.toNat + 14 := by rw [BitVec.toNat_add, show (14#64).toNat = 14 from rfl]; omega
  have has : (a + s).toNat = a.toNat + s.toNat := by
    rw [BitVec.toNat_add]
    rcases hs with rfl | rfl
    · rw [show (0#64).toNat = 0 from rfl]; omega
    · rw [show (1#64).toNat = 1 from rfl]; omega
  unfold ofW
  rw [hp]
  obtain ⟨u1, u2⟩ := up_val (a + s) (e + 14#64) (by omega)
  obtain ⟨w1, w2⟩ := up_val v e (by omega)
  rw [add_val _ _ u2 w2, u1, w1, e14, has]
  omega
/-- Fields cut from an address and a length (in units of two to the exponent). -/
structure Al (c : Cp) (L : Nat) : Prop where
  e : c.e.toNat ≤ 51
  b : c.b.toNat = c.ad.toNat / 2 ^ c.e.toNat % 16384
  t : c.t.toNat = (c.ad.toNat / 2 ^ c.e.toNat + L) % 4096
  big : c.big = decide (4096 ≤ L)
  l : L < 8192
section
variable {c : Cp} {L : Nat} (h : Al c L)
include h
theorem Al.bl : c.b.toNat < 16384 := by rw [h.b]; omega
theorem Al.tl : c.t.toNat < 4096 := by rw [h.t]; omega
theorem Al.nt : (r03t c).toNat = (c.ad.toNat / 2 ^ c.e.toNat + L) % 16384 := by
  have hb := h.bl
  have ht := h.tl
  have q1 : c.b.sdiv 4096#64 = c.b / 4096#64 := sdivN _ _ (by decide) (by omega)
  have q2 : c.b.srem 4096#64 = c.b % 4096#64 := sremN _ _ (by decide) (by omega)
  have n2 : (c.b % 4096#64).toNat = c.b.toNat % 4096 := by rw [BitVec.toNat_umod]; rfl
  have n1 : (c.b / 4096#64).toNat = c.b.toNat / 4096 := by rw [BitVec.toNat_udiv]; rfl
  have q3 : c.t.slt (c.b % 4096#64) = decide (c.t.toNat < c.b.toNat % 4096) := by
    rw [sltR _ _ (by omega), n2]
    rw [Bool.eq_iff_iff, decide_eq_true_iff, decide_eq_true_iff]; omega
  have n3 := one_toNat (decide (c.t.toNat < c.b.toNat % 4096))
  have n4 := one_toNat c.big
  have n5 : (c.b / 4096#64 + v_r03_one (decide (c.t.toNat < c.b.toNat % 4096)) + v_r03_one c.big).toNat = c.b.toNat / 4096 + (v_r03_one (decide (c.t.toNat < c.b.toNat % 4096))).toNat + (v_r03_one c.big).toNat := by
    rw [BitVec.toNat_add, BitVec.toNat_add, n1]
    rw [n3, n4]
    split <;> split <;> omega
  have q4 : (c.b / 4096#64 + v_r03_one (decide (c.t.toNat < c.b.toNat % 4096)) + v_r03_one c.big).srem 4#64 = (c.b / 4096#64 + v_r03_one (decide (c.t.toNat < c.b.toNat % 4096)) + v_r03_one c.big) % 4#64 := sremN _ _ (by decide) (by rw [n5, n3, n4]; split <;> split <;> omega)
  unfold Go.Sx.r03t
  rw [q1, q2, q3, q4, BitVec.toNat_add, BitVec.toNat_mul, BitVec.toNat_umod, n5, n3, n4, show (4#64).toNat = 4 from rfl, show (4096#64).toNat = 4096 from rfl]
  have hbig := h.big
  have h1 := h.b
  have h2 := h.t
  have h3 := h.l
  generalize c.ad.toNat / 2 ^ c.e.toNat = X at *
  simp only [decide_eq_true_eq, hbig]
  split <;> split <;> omega
theorem Al.nr : (r03r c).toNat = (c.b.toNat / 2048 + 7) % 8 * 2048 := by
  have hb := h.bl
  have q1 : c.b.sdiv 2048#64 = c.b / 2048#64 := sdivN _ _ (by decide) (by omega)
  have n1 : (c.b / 2048#64).toNat = c.b.toNat / 2048 := by rw [BitVec.toNat_udiv]; rfl
  have n2 : (c.b / 2048#64 + 7#64).toNat = c.b.toNat / 2048 + 7 := by rw [BitVec.toNat_add, n1, show (7#64).toNat = 7 from rfl]; omega
  have q2 : (c.b / 2048#64 + 7#64).srem 8#64 = (c.b / 2048#64 + 7#64) % 8#64 := sremN _ _ (by decide) (by omega)
  unfold Go.Sx.r03r
  rw [q1, q2, BitVec.toNat_mul, BitVec.toNat_umod, n2, show (8#64).toNat = 8 from rfl, show (2048#64).toNat = 2048 from rfl]
  omega
theorem Al.nm : (r03m c).toNat = c.b.toNat := by
  have he := h.e
  unfold Go.Sx.r03m
  rw [BitVec.setWidth_eq, BitVec.signExtend_eq, BitVec.toNat_umod, BitVec.toNat_ushiftRight, Nat.shiftRight_eq_div_pow, Nat.min_eq_left (by omega), h.b]
  rfl
theorem Al.nA : (r03A c).toNat = c.ad.toNat / 2 ^ c.e.toNat / 16384 := by
  have he := h.e
  have ha := c.ad.isLt
  have e14 : (c.e + 14#64).toNat = c.e.toNat + 14 := by rw [BitVec.toNat_add, show (14#64).toNat = 14 from rfl]; omega
  have hp : c.ad.toNat / 2 ^ c.e.toNat / 16384 = c.ad.toNat / 2 ^ (c.e.toNat + 14) := by
    rw [Nat.pow_add, Nat.div_div_eq_div_mul]
  rw [hp]
  unfold Go.Sx.r03A
  rw [sltR _ _ (by decide), e14, BitVec.signExtend_eq, show (64#64).toNat = 64 from rfl]
  by_cases hq : c.e.toNat + 14 < 64
  · rw [decide_eq_true (.inl hq), cond_true, BitVec.toNat_ushiftRight, Nat.shiftRight_eq_div_pow, e14, Nat.min_eq_left (by omega)]
  · rw [decide_eq_false (by omega), cond_false]
    have : (2 : Nat) ^ 64 ≤ 2 ^ (c.e.toNat + 14) := Nat.pow_le_pow_right (by decide) (by omega)
    rw [Nat.div_eq_of_lt (by omega)]; rfl
end
end Go.Sx

/- Bounds in numbers: what is cut from an aligned address and length is told back. -/
namespace Go.Sx
open Go
set_option maxHeartbeats 1000000
theorem one_sub_self (x : Bool) : v_r03_one x - v_r03_one x = 0#64 := by cases x <;> rfl
theorem unitsY (Y Z p : Nat) : Y * (p * 2 ^ 14) + Z * p = (Y * 16384 + Z) * p := by
  rw [Nat.add_mul, Nat.mul_assoc Y 16384 p, Nat.mul_comm 16384 p]
section
variable {c : Cp} {L : Nat} (h : Al c L)
include h
theorem Al.same_b : c.b.slt (r03r c) = (r03m c).slt (r03r c) := by
  have : r03m c = c.b := BitVec.eq_of_toNat_eq h.nm
  rw [this]
theorem Al.step : v_r03_one ((r03t c).slt (r03r c)) - v_r03_one ((r03m c).slt (r03r c)) = (if 16384 ≤ c.b.toNat + L then 1#64 else 0#64) := by
  have e1 : r03m c = c.b := BitVec.eq_of_toNat_eq h.nm
  have hb := h.bl
  have hr := h.nr
  have ht := h.nt
  have hl := h.l
  have hB := h.b
  have s1 : (r03t c).slt (r03r c) = decide ((r03t c).toNat < (r03r c).toNat) := by
    rw [sltR _ _ (by omega), Bool.eq_iff_iff, decide_eq_true_iff, decide_eq_true_iff]; omega
  have s2 : c.b.slt (r03r c) = decide (c.b.toNat < (r03r c).toNat) := by
    rw [sltR _ _ (by omega), Bool.eq_iff_iff, decide_eq_true_iff, decide_eq_true_iff]; omega
  rw [e1, s1, s2, hr, ht]
  generalize c.ad.toNat / 2 ^ c.e.toNat = X at *
  have hm : (X + L) % 16384 = (c.b.toNat + L) % 16384 := by omega
  rw [hm]
  generalize c.b.toNat = b at *
  by_cases hq : 16384 ≤ b + L
  · rw [if_pos hq]
    have x1 : (b + L) % 16384 < (b / 2048 + 7) % 8 * 2048 := by omega
    have x2 : ¬ b < (b / 2048 + 7) % 8 * 2048 := by omega
    rw [decide_eq_true x1, decide_eq_false x2]; rfl
  · rw [if_neg hq]
    by_cases x2 : b < (b / 2048 + 7) % 8 * 2048
    · have x1 : (b + L) % 16384 < (b / 2048 + 7) % 8 * 2048 := by omega
      rw [decide_eq_true x1, decide_eq_true x2]; rfl
    · have x1 : ¬ (b + L) % 16384 < (b / 2048 + 7) % 8 * 2048 := by omega
      rw [decide_eq_false x1, decide_eq_false x2]; rfl
theorem Al.base : (r03b c).val = c.ad.toNat / 2 ^ c.e.toNat * 2 ^ c.e.toNat % 2 ^ 65 := by
  have he := h.e
  have hA := h.nA
  have ha := c.ad.isLt
  have hX : c.ad.toNat / 2 ^ c.e.toNat ≤ c.ad.toNat := Nat.div_le_self _ _
  unfold r03b
  rw [h.same_b, one_sub_self, BitVec.signExtend_eq, ofW_val _ _ _ _ (.inl rfl) (by omega) (by omega), hA, h.b, show (0#64).toNat = 0 from rfl, Nat.add_zero, Nat.pow_add]
  generalize c.ad.toNat / 2 ^ c.e.toNat = X at *
  generalize 2 ^ c.e.toNat = p
  congr 1
  have : X = X / 16384 * 16384 + X % 16384 := by omega
  calc X / 16384 * (p * 2 ^ 14) + X % 16384 * p = (X / 16384 * 16384 + X % 16384) * p := by rw [Nat.add_mul, Nat.mul_assoc, Nat.mul_comm 16384 p]
    _ = X * p := by rw [← this]
theorem Al.topV : (r03T c).val = (c.ad.toNat / 2 ^ c.e.toNat + L) * 2 ^ c.e.toNat % 2 ^ 65 := by
  have he := h.e
  have hA := h.nA
  have ht := h.nt
  have ha := c.ad.isLt
  have hl := h.l
  have hB := h.b
  have hX : c.ad.toNat / 2 ^ c.e.toNat ≤ c.ad.toNat := Nat.div_le_self _ _
  unfold r03T
  rw [h.step, BitVec.signExtend_eq, ofW_val _ _ _ _ (by split; exact .inr rfl; exact .inl rfl) (by omega) (by omega), hA, ht, Nat.pow_add]
  have hs : (if 16384 ≤ c.b.toNat + L then 1#64 else 0#64 : BitVec 64).toNat = (c.b.toNat + L) / 16384 := by
    have := h.bl
    split
    · rw [show (1#64).toNat = 1 from rfl]; omega
    · rw [show (0#64).toNat = 0 from rfl]; omega
  rw [hs, hB]
  generalize c.ad.toNat / 2 ^ c.e.toNat = X at *
  generalize 2 ^ c.e.toNat = p
  congr 1
  have : X + L = (X / 16384 + (X % 16384 + L) / 16384) * 16384 + (X + L) % 16384 := by omega
  rw [unitsY, ← this]
end
theorem add_hi2 (a s v e : BitVec 64) : (ofW a s v e).hi.toNat < 2 := by unfold ofW; exact add_hi _ _
/-- An aligned address, a length of whole units: the bounds are just these. -/
theorem of_exact {c : Cp} {L : Nat} (h : Al c L) (h1 : c.ad.toNat % 2 ^ c.e.toNat = 0) (h2 : c.ad.toNat + L * 2 ^ c.e.toNat ≤ 2 ^ 64) :
    v_r03_Of c = ⟨c.ad, BitVec.ofNat 64 (c.ad.toNat + L * 2 ^ c.e.toNat), decide (c.ad.toNat + L * 2 ^ c.e.toNat = 2 ^ 64)⟩ := by
  have ha := c.ad.isLt
  have hl := h.l
  have he := h.e
  have hx : c.ad.toNat / 2 ^ c.e.toNat * 2 ^ c.e.toNat = c.ad.toNat := by
    have := Nat.div_add_mod c.ad.toNat (2 ^ c.e.toNat)
    rw [h1, Nat.add_zero, Nat.mul_comm] at this; exact this
  have b := h.base
  have t := h.topV
  rw [hx] at b
  rw [Nat.add_mul, hx] at t
  have lim : c.e.toNat < 51 → L * 2 ^ c.e.toNat < 2 ^ 63 := fun hq => by
    have h50 : (2 : Nat) ^ c.e.toNat ≤ 2 ^ 50 := Nat.pow_le_pow_right (by decide) (by omega)
    have := Nat.mul_le_mul (show L ≤ 8191 by omega) h50
    omega
  generalize L * 2 ^ c.e.toNat = l at *
  have hb2 : (r03b c).hi.toNat < 2 := add_hi2 _ _ _ _
  have ht2 : (r03T c).hi.toNat < 2 := add_hi2 _ _ _ _
  have hbl := (r03b c).lo.isLt
  have htl := (r03T c).lo.isLt
  unfold W2.val at b t
  have f : r03f c = false := by
    unfold r03f
    by_cases hq : c.e.toNat < 51
    · have := lim hq
      rw [Bool.and_eq_false_iff]
      right
      simp only [BitVec.ult, decide_eq_false_iff_not, BitVec.toNat_umod, BitVec.toNat_add, BitVec.toNat_sub, BitVec.toNat_mul, BitVec.toNat_ushiftRight, Nat.shiftRight_eq_div_pow, BitVec.toNat_ofNat, Nat.reducePow, Nat.reduceMod]
      omega
    · rw [sltR _ _ (by decide), show (51#64).toNat = 51 from rfl, decide_eq_false (by omega), Bool.false_and]
  rw [of_form, f, cond_false]
  have e1 : (r03b c).lo = c.ad := by apply BitVec.eq_of_toNat_eq; omega
  have e2 : (r03T c).lo = BitVec.ofNat 64 (c.ad.toNat + l) := by apply BitVec.eq_of_toNat_eq; rw [BitVec.toNat_ofNat]; omega
  have e3 : ((r03T c).hi == 1#64) = decide (c.ad.toNat + l = 2 ^ 64) := by
    rw [Bool.eq_iff_iff, beq_iff_eq, decide_eq_true_iff]
    constructor
    · intro hq
      rw [hq, show (1#64).toNat = 1 from rfl] at t; omega
    · intro hq
      apply BitVec.eq_of_toNat_eq
      rw [show (1#64).toNat = 1 from rfl]; omega
  rw [e1, e2, e3]
end Go.Sx

/- Masks and lengths that bounds may have, in numbers. -/
namespace Go.Sx
open Go
set_option maxHeartbeats 1000000
theorem cN_val (s k : Nat) : (cN s k).toNat = s / 2 ^ k % 2048 := by
  unfold cN; rw [BitVec.toNat_ofNat]; omega
theorem truth_val (b : Bool) : (v_bounds_truth b).toNat = if b then 1 else 0 := by cases b <;> rfl
theorem tN_val (s k : Nat) : (tN s k).toNat = (s / 2 ^ k % 2048 + if s % 2 ^ k ≠ 0 then 1 else 0) % 2048 := by
  have h1 := cN_val s k
  have h2 := truth_val (cL s k)
  have h3 : (cN s k + v_bounds_truth (cL s k)).toNat = s / 2 ^ k % 2048 + if s % 2 ^ k ≠ 0 then 1 else 0 := by
    rw [BitVec.toNat_add, h1, h2]
    unfold cL
    simp only [decide_eq_true_eq]
    split <;> omega
  unfold tN
  rw [sremN _ _ (by decide) (by rw [h3]; split <;> omega), BitVec.toNat_umod, h3]
  rfl
/-- How long, in bits. -/
theorem expo_range {n : BitVec 64} (h : 4096 ≤ n.toNat) : 2 ^ ((expo n).toNat + 12) ≤ n.toNat ∧ n.toNat < 2 ^ ((expo n).toNat + 13) := by
  have e := expoN n
  have hb : 13 ≤ blen n.toNat := by
    unfold blen
    rw [if_neg (by omega)]
    have : 12 ≤ Nat.log2 n.toNat := (Nat.le_log2 (by omega)).2 h
    omega
  have h1 : 2 ^ (blen n.toNat - 1) ≤ n.toNat := by
    unfold blen; rw [if_neg (by omega), Nat.add_sub_cancel]
    exact Nat.log2_self_le (by omega)
  have h2 : n.toNat < 2 ^ blen n.toNat := by
    unfold blen; rw [if_neg (by omega)]
    exact Nat.lt_log2_self
  rw [e]
  constructor
  · rw [show blen n.toNat - 13 + 12 = blen n.toNat - 1 by omega]; exact h1
  · rw [show blen n.toNat - 13 + 13 = blen n.toNat by omega]; exact h2
theorem expo_of {n : BitVec 64} {k : Nat} (h1 : 2 ^ (k + 12) ≤ n.toNat) (h2 : n.toNat < 2 ^ (k + 13)) : (expo n).toNat = k := by
  rw [expoN]
  have := blen_eq (n := n.toNat) (k := k + 12) h1 h2
  omega
end Go.Sx

/- Masks, rounded lengths, and what is laid of these, in numbers. -/
namespace Go.Sx
open Go
set_option maxHeartbeats 1000000
/-- The capability of which masks are asked. -/
def zc : Cp := { tag := false, per := BitVec.ofInt IntKind.i64.bits 0, ty := BitVec.ofInt IntKind.i64.bits 0, mo := BitVec.ofInt IntKind.i64.bits 0, e := BitVec.ofInt IntKind.i64.bits 0, b := BitVec.ofInt IntKind.i64.bits 0, t := BitVec.ofInt IntKind.i64.bits 0, big := false, ad := BitVec.ofInt IntKind.u64.bits 0 }
theorem zc_ad : zc.ad.toNat = 0 := by decide
theorem far_val (t b : BitVec 64) (ht : t.toNat < 2048) (hb : b.toNat < 2048) : (!(t - b &&& 1024#64) == 0#64) = decide (1024 ≤ (t.toNat + 2048 - b.toNat) % 2048) := by
  rw [far_eq t b ht hb]
  have h1 : (t - b + 2048#64).toNat = t.toNat + 2048 - b.toNat := by
    rw [BitVec.toNat_add, BitVec.toNat_sub, show (2048#64).toNat = 2048 from rfl]; omega
  have h2 : (t - b + 2048#64).srem 2048#64 = (t - b + 2048#64) % 2048#64 := sremN _ _ (by decide) (by omega)
  have h3 : ((t - b + 2048#64) % 2048#64).toNat = (t.toNat + 2048 - b.toNat) % 2048 := by rw [BitVec.toNat_umod, h1]; rfl
  rw [h2]
  have h4 : (1024#64).sle ((t - b + 2048#64) % 2048#64) = !((t - b + 2048#64) % 2048#64).slt 1024#64 := by
    exact BitVec.sle_eq_not_slt
  rw [h4, sltR _ _ (by decide), h3, show (1024#64).toNat = 1024 from rfl, Bool.eq_iff_iff]
  simp only [Bool.not_eq_true', decide_eq_false_iff_not, decide_eq_true_eq]
  omega
def ones : BitVec 64 := 18446744073709551615#64
theorem mask_small {n : BitVec 64} (h : n.toNat < 4096) : v_bounds_Mask n = ones := by
  unfold v_bounds_Mask
  have := lay_small zc h
  unfold zc at this
  rw [this]; rfl
theorem mask_big {n : BitVec 64} (h : 4096 ≤ n.toNat) (h2 : n.toNat ≤ 2 ^ 63) : ∃ E c, E ≤ 51 ∧ 512 ≤ c ∧ c ≤ 1023 ∧ v_bounds_Mask n = ones <<< (E + 3) ∧ n.toNat ≤ c * 2 ^ (E + 3) ∧ c * 2 ^ (E + 3) < n.toNat + 2 ^ (E + 3) := by
  obtain ⟨r1, r2⟩ := expo_range h
  have hk : (expo n).toNat ≤ 51 := by
    rcases Nat.lt_or_ge 51 (expo n).toNat with hq | hq
    · have : (2 : Nat) ^ 64 ≤ 2 ^ ((expo n).toNat + 12) := Nat.pow_le_pow_right (by decide) (by omega)
      omega
    · exact hq
  have hl := lay_big zc h
  have hm : v_bounds_Mask n = cond (!(v_bounds_Lay zc n).fst.big) ones (ones <<< min ((v_bounds_Lay zc n).fst.e + 3#64).toNat 64) := rfl
  have b0 : cN zc.ad.toNat ((expo n).toNat + 3) = 0#64 := by
    apply BitVec.eq_of_toNat_eq; rw [cN_val, zc_ad, Nat.zero_div]; rfl
  have e1 : (expo n + 1#64).toNat = (expo n).toNat + 1 := by rw [BitVec.toNat_add, show (1#64).toNat = 1 from rfl]; omega
  rw [zc_ad, Nat.zero_add] at hl
  rw [zc_ad] at b0
  rw [b0] at hl
  have tv := tN_val n.toNat ((expo n).toNat + 3)
  have p12 : 2 ^ ((expo n).toNat + 12) = 512 * 2 ^ ((expo n).toNat + 3) := by rw [show (expo n).toNat + 12 = 9 + ((expo n).toNat + 3) by omega, Nat.pow_add]
  have p13 : 2 ^ ((expo n).toNat + 13) = 1024 * 2 ^ ((expo n).toNat + 3) := by rw [show (expo n).toNat + 13 = 10 + ((expo n).toNat + 3) by omega, Nat.pow_add]
  have p4 : 2 ^ ((expo n).toNat + 1 + 3) = 2 * 2 ^ ((expo n).toNat + 3) := by rw [show (expo n).toNat + 1 + 3 = 1 + ((expo n).toNat + 3) by omega, Nat.pow_add]
  rw [p12] at r1
  rw [p13] at r2
  have hpos : 0 < 2 ^ ((expo n).toNat + 3) := Nat.two_pow_pos _
  have dm := Nat.div_add_mod n.toNat (2 ^ ((expo n).toNat + 3))
  have ml := Nat.mod_lt n.toNat hpos
  have q1 : 512 ≤ n.toNat / 2 ^ ((expo n).toNat + 3) := (Nat.le_div_iff_mul_le hpos).2 r1
  have q2 : n.toNat / 2 ^ ((expo n).toNat + 3) < 1024 := (Nat.div_lt_iff_lt_mul hpos).2 r2
  have ms : ∀ E, E ≤ 51 → (BitVec.ofNat 64 E).toNat = E := fun E hE => by rw [BitVec.toNat_ofNat]; omega
  have tl : (tN n.toNat ((expo n).toNat + 3)).toNat < 2048 := by rw [tv]; omega
  rw [far_val _ _ tl (by decide), show (0#64 : BitVec 64).toNat = 0 from rfl, Nat.sub_zero] at hl
  by_cases hf : 1024 ≤ ((tN n.toNat ((expo n).toNat + 3)).toNat + 2048) % 2048
  · rw [decide_eq_true hf, cond_true] at hl
    have t24 : n.toNat / 2 ^ ((expo n).toNat + 3) = 1023 ∧ n.toNat % 2 ^ ((expo n).toNat + 3) ≠ 0 := by
      rw [tv] at hf
      split at hf
      · rename_i hne; exact ⟨by omega, hne⟩
      · omega
    have h50 : (expo n).toNat ≤ 50 := by
      rcases Nat.lt_or_ge 50 (expo n).toNat with hq | hq
      · exfalso
        have : (2 : Nat) ^ 54 ≤ 2 ^ ((expo n).toNat + 3) := Nat.pow_le_pow_right (by decide) (by omega)
        rw [t24.1] at dm
        omega
      · exact hq
    refine ⟨(expo n).toNat + 1, 512, by omega, by omega, by omega, ?_, ?_, ?_⟩
    · rw [hm, hl]
      show ones <<< min (expo n + 1#64 + 3#64).toNat 64 = _
      rw [BitVec.toNat_add, e1, show (3#64).toNat = 3 from rfl, Nat.mod_eq_of_lt (by omega), Nat.min_eq_left (by omega)]
    · rw [p4]; omega
    · rw [p4]; rw [t24.1] at dm; omega
  · rw [decide_eq_false hf, cond_false] at hl
    refine ⟨(expo n).toNat, n.toNat / 2 ^ ((expo n).toNat + 3) + if n.toNat % 2 ^ ((expo n).toNat + 3) ≠ 0 then 1 else 0, hk, by omega, ?_, ?_, ?_, ?_⟩
    · rw [tv] at hf; split <;> simp_all <;> omega
    · rw [hm, hl]
      show ones <<< min (expo n + 3#64).toNat 64 = _
      rw [BitVec.toNat_add, show (3#64).toNat = 3 from rfl, Nat.mod_eq_of_lt (by omega), Nat.min_eq_left (by omega)]
    · generalize 2 ^ ((expo n).toNat + 3) = p at *
      rw [Nat.add_mul]
      generalize hqq : n.toNat / p = q at *
      have : p * q = q * p := Nat.mul_comm _ _
      split <;> omega
    · generalize 2 ^ ((expo n).toNat + 3) = p at *
      rw [Nat.add_mul]
      generalize hqq : n.toNat / p = q at *
      have : p * q = q * p := Nat.mul_comm _ _
      split <;> omega
end Go.Sx

/- What is laid of an aligned address and a length that can be: just these bounds. -/
namespace Go.Sx
open Go
set_option maxHeartbeats 1000000
theorem shl3 (x : BitVec 64) (h : x.toNat < 2048) : (x <<< 3).toNat = x.toNat * 8 := by
  rw [BitVec.toNat_shiftLeft, Nat.shiftLeft_eq]; omega
theorem shl3m (x : BitVec 64) (h : x.toNat < 2048) : (x <<< 3 &&& 4095#64).toNat = x.toNat * 8 % 4096 := by
  rw [and4095, shl3 x h]
/-- Lengths of whole units. -/
theorem lay_units (c : Cp) {l : BitVec 64} {E u : Nat} (hE : E ≤ 51) (h1 : 512 ≤ u) (h2 : u ≤ 1023) (hl : l.toNat = u * 2 ^ (E + 3)) (ha : c.ad.toNat % 2 ^ (E + 3) = 0) :
    ∃ x, v_bounds_Lay c l = (x, true) ∧ x.ad = c.ad ∧ x.e.toNat = E ∧ Al x (u * 8) := by
  have hpos : 0 < 2 ^ (E + 3) := Nat.two_pow_pos _
  have p8 : 2 ^ (E + 3) = 8 * 2 ^ E := by rw [show E + 3 = 3 + E by omega, Nat.pow_add]
  have p12 : 2 ^ (E + 12) = 512 * 2 ^ (E + 3) := by rw [show E + 12 = 9 + (E + 3) by omega, Nat.pow_add]
  have p13 : 2 ^ (E + 13) = 1024 * 2 ^ (E + 3) := by rw [show E + 13 = 10 + (E + 3) by omega, Nat.pow_add]
  have r1 : 2 ^ (E + 12) ≤ l.toNat := by rw [p12, hl]; exact Nat.mul_le_mul_right _ h1
  have r2 : l.toNat < 2 ^ (E + 13) := by rw [p13, hl]; exact (Nat.mul_lt_mul_right hpos).2 (by omega)
  have hx := expo_of r1 r2
  have big : 4096 ≤ l.toNat := by
    have : (2 : Nat) ^ 12 ≤ 2 ^ (E + 12) := Nat.pow_le_pow_right (by decide) (by omega)
    omega
  have hb := lay_big c big
  have A : c.ad.toNat / 2 ^ (E + 3) * 2 ^ (E + 3) = c.ad.toNat := by
    have := Nat.div_add_mod c.ad.toNat (2 ^ (E + 3))
    rw [ha, Nat.add_zero, Nat.mul_comm] at this; exact this
  have sd : (c.ad.toNat + l.toNat) / 2 ^ (E + 3) = c.ad.toNat / 2 ^ (E + 3) + u := by
    rw [hl, Nat.add_mul_div_right _ _ hpos]
  have sm : (c.ad.toNat + l.toNat) % 2 ^ (E + 3) = 0 := by rw [hl, Nat.add_mul_mod_self_right]; exact ha
  have tv := tN_val (c.ad.toNat + l.toNat) (E + 3)
  have bv := cN_val c.ad.toNat (E + 3)
  rw [sd, sm] at tv
  simp only [ne_eq, not_true_eq_false, if_false, Nat.add_zero] at tv
  rw [hx, far_val _ _ (by omega) (by omega), tv, bv] at hb
  have nf : ¬ 1024 ≤ ((c.ad.toNat / 2 ^ (E + 3) + u) % 2048 % 2048 + 2048 - c.ad.toNat / 2 ^ (E + 3) % 2048) % 2048 := by omega
  rw [decide_eq_false nf, cond_false] at hb
  have l1 : cL c.ad.toNat (E + 3) = false := by unfold cL; simp [ha]
  have l2 : cL (c.ad.toNat + l.toNat) (E + 3) = false := by unfold cL; simp [sm]
  refine ⟨(layAt c (expo l) (c.ad.toNat + l.toNat)).1, ?_, rfl, hx, ?_⟩
  · rw [hb]
    unfold layAt
    rw [hx, l1, l2]; rfl
  · have hX : c.ad.toNat / 2 ^ E = c.ad.toNat / 2 ^ (E + 3) * 8 := by
      have hp : 0 < 2 ^ E := Nat.two_pow_pos _
      generalize c.ad.toNat / 2 ^ (E + 3) = q at A
      rw [← A, p8, ← Nat.mul_assoc, Nat.mul_div_cancel _ hp]
    constructor
    · show (expo l).toNat ≤ 51; omega
    · show (cN c.ad.toNat ((expo l).toNat + 3) <<< 3).toNat = c.ad.toNat / 2 ^ (expo l).toNat % 16384
      rw [hx, shl3 _ (by omega), bv, hX]; omega
    · show (tN (c.ad.toNat + l.toNat) ((expo l).toNat + 3) <<< 3 &&& 4095#64).toNat = (c.ad.toNat / 2 ^ (expo l).toNat + u * 8) % 4096
      rw [hx, shl3m _ (by omega), tv, hX]; omega
    · show true = decide (4096 ≤ u * 8)
      rw [decide_eq_true (by omega)]
    · omega
theorem lay_few (c : Cp) {l : BitVec 64} (h : l.toNat < 4096) : ∃ x, v_bounds_Lay c l = (x, true) ∧ x.ad = c.ad ∧ x.e.toNat = 0 ∧ Al x l.toNat := by
  refine ⟨_, lay_small c h, rfl, rfl, ?_⟩
  constructor
  · show (0#64 : BitVec 64).toNat ≤ 51; decide
  · show (c.ad &&& 16383#64).toNat = c.ad.toNat / 2 ^ 0 % 16384
    rw [and16383, Nat.pow_zero, Nat.div_one]
  · show (c.ad + l &&& 4095#64).toNat = (c.ad.toNat / 2 ^ 0 + l.toNat) % 4096
    rw [and4095, BitVec.toNat_add, Nat.pow_zero, Nat.div_one]; omega
  · show false = decide (4096 ≤ l.toNat)
    rw [decide_eq_false (by omega)]
  · omega
end Go.Sx

/- Rounded lengths, and how long bounds are. -/
namespace Go.Sx
open Go
set_option maxHeartbeats 1000000
theorem and_ones (x : BitVec 64) (k : Nat) (hk : k ≤ 63) : (x &&& ones <<< k).toNat = x.toNat / 2 ^ k * 2 ^ k := by
  have e : x &&& ones <<< k = (x >>> k) <<< k := by
    apply BitVec.eq_of_getLsbD_eq
    intro i hi
    have ho : ones = BitVec.allOnes 64 := by decide
    rw [ho]
    simp only [BitVec.getLsbD_and, BitVec.getLsbD_shiftLeft, BitVec.getLsbD_ushiftRight, BitVec.getLsbD_allOnes, hi, decide_true, Bool.true_and]
    by_cases hq : i < k
    · simp [hq]
    · simp only [hq, decide_false, Bool.not_false, Bool.true_and]
      rw [decide_eq_true (by omega), Bool.and_true, show k + (i - k) = i by omega]
  rw [e, BitVec.toNat_shiftLeft, BitVec.toNat_ushiftRight, Nat.shiftRight_eq_div_pow, Nat.shiftLeft_eq]
  have := Nat.div_mul_le_self x.toNat (2 ^ k)
  have := x.isLt
  omega
theorem ones_val (k : Nat) (hk : k ≤ 63) : (ones <<< k).toNat = 2 ^ 64 - 2 ^ k := by
  have h := and_ones ones k hk
  have e : ones &&& ones <<< k = ones <<< k := by
    apply BitVec.eq_of_getLsbD_eq
    intro i hi
    have ho : ones = BitVec.allOnes 64 := by decide
    rw [ho, BitVec.getLsbD_and, BitVec.getLsbD_allOnes]
    simp [hi]
  rw [e] at h
  rw [h, show ones.toNat = 2 ^ 64 - 1 by decide]
  have hs : (2 : Nat) ^ 64 = 2 ^ (64 - k) * 2 ^ k := by rw [← Nat.pow_add]; congr 1; omega
  have hp : 0 < 2 ^ k := Nat.two_pow_pos _
  have hq : 0 < 2 ^ (64 - k) := Nat.two_pow_pos _
  rw [hs]
  generalize 2 ^ (64 - k) = a at *
  generalize 2 ^ k = p at *
  have d : (a * p - 1) / p = a - 1 := by
    obtain ⟨b, rfl⟩ : ∃ b, a = b + 1 := ⟨a - 1, by omega⟩
    have : (b + 1) * p - 1 = (p - 1) + b * p := by rw [Nat.add_mul, Nat.one_mul]; omega
    rw [this, Nat.add_mul_div_right _ _ hp, Nat.div_eq_of_lt (by omega)]; omega
  rw [d, Nat.sub_mul, Nat.one_mul]
theorem not_ones (k : Nat) (hk : k ≤ 63) : (~~~(ones <<< k)).toNat = 2 ^ k - 1 := by
  have h := ones_val k hk
  have : (2 : Nat) ^ k ≤ 2 ^ 63 := Nat.pow_le_pow_right (by decide) hk
  have hp : 0 < 2 ^ k := Nat.two_pow_pos _
  rw [BitVec.toNat_not, h]; omega
/-- The least length from that on. -/
theorem round_val {n : BitVec 64} {k u : Nat} (hk : k ≤ 54) (hn : n.toNat ≤ 2 ^ 63) (hm : v_bounds_Mask n = ones <<< k) (h1 : n.toNat ≤ u * 2 ^ k) (h2 : u * 2 ^ k < n.toNat + 2 ^ k) : (v_bounds_Round n).toNat = u * 2 ^ k := by
  have hp : 0 < 2 ^ k := Nat.two_pow_pos _
  have h54 : (2 : Nat) ^ k ≤ 2 ^ 54 := Nat.pow_le_pow_right (by decide) hk
  unfold v_bounds_Round
  rw [hm, and_ones _ _ (by omega), BitVec.toNat_add, not_ones _ (by omega), Nat.mod_eq_of_lt (by omega)]
  congr 1
  have : n.toNat + (2 ^ k - 1) = (n.toNat + 2 ^ k - 1 - u * 2 ^ k) + u * 2 ^ k := by omega
  rw [this, Nat.add_mul_div_right _ _ hp, Nat.div_eq_of_lt (by omega)]; omega
theorem mask_units {l : BitVec 64} {E u : Nat} (hE : E ≤ 51) (h1 : 512 ≤ u) (h2 : u ≤ 1023) (hl : l.toNat = u * 2 ^ (E + 3)) : v_bounds_Mask l = ones <<< (E + 3) := by
  obtain ⟨x, e1, _, e2, e3⟩ := lay_units zc hE h1 h2 hl (by rw [zc_ad]; simp)
  have hm : v_bounds_Mask l = cond (!(v_bounds_Lay zc l).fst.big) ones (ones <<< min ((v_bounds_Lay zc l).fst.e + 3#64).toNat 64) := rfl
  rw [hm, e1]
  have hb : x.big = true := by rw [e3.big]; exact decide_eq_true (by omega)
  rw [hb]
  show ones <<< min (x.e + 3#64).toNat 64 = _
  rw [BitVec.toNat_add, e2, show (3#64).toNat = 3 from rfl, Nat.mod_eq_of_lt (by omega), Nat.min_eq_left (by omega)]
theorem len_val {a l : BitVec 64} (h : a.toNat + l.toNat ≤ 2 ^ 64) : v_bounds_Len ⟨a, BitVec.ofNat 64 (a.toNat + l.toNat), decide (a.toNat + l.toNat = 2 ^ 64)⟩ = l := by
  have ha := a.isLt
  have hl := l.isLt
  unfold v_bounds_Len
  rw [aboveN]
  have t0 := truth_val (decide (a.toNat + l.toNat = 2 ^ 64))
  have tv : (v_bounds_top ⟨a, BitVec.ofNat 64 (a.toNat + l.toNat), decide (a.toNat + l.toNat = 2 ^ 64)⟩).val = a.toNat + l.toNat := by
    unfold v_bounds_top W2.val
    simp only [BitVec.signExtend_eq, t0, BitVec.toNat_ofNat, decide_eq_true_eq]
    split <;> omega
  have bv : W2.val { hi := 0#64, lo := a } = a.toNat := by unfold W2.val; simp
  rw [tv, bv]
  by_cases h0 : l.toNat = 0
  · rw [decide_eq_false (by omega), Bool.not_false, cond_true]
    apply BitVec.eq_of_toNat_eq; rw [h0]; rfl
  · rw [decide_eq_true (by omega), Bool.not_true, cond_false]
    have sub : BitVec.ofNat 64 (a.toNat + l.toNat) - a = l := by
      apply BitVec.eq_of_toNat_eq
      rw [BitVec.toNat_sub, BitVec.toNat_ofNat]; omega
    by_cases hq : a.toNat + l.toNat = 2 ^ 64
    · rw [decide_eq_true hq, cond_true]
      have : a.ule (BitVec.ofNat 64 (a.toNat + l.toNat)) = false := by
        simp only [BitVec.ule, decide_eq_false_iff_not, BitVec.toNat_ofNat]; omega
      simp only [this, cond_false, sub]
    · rw [decide_eq_false hq, cond_false]; exact sub
end Go.Sx

/- What masks allow has just its bounds (plain). -/
namespace Go.Sx
open Go
set_option maxHeartbeats 1000000
theorem fits_le {a l : BitVec 64} (h : v_l03_fits a l = true) : a.toNat + l.toNat ≤ 2 ^ 64 := by
  have ha := a.isLt
  have hl := l.isLt
  unfold v_l03_fits at h
  cases hq : a.ule (a + l) with
  | true =>
    simp only [BitVec.ule, decide_eq_true_eq, BitVec.toNat_add] at hq
    omega
  | false =>
    rw [hq, cond_false, beq_iff_eq] at h
    have := congrArg BitVec.toNat h
    rw [BitVec.toNat_add, show (0#64).toNat = 0 from rfl] at this
    omega
/-- What masks, lengths and bounds keep. -/
structure Once (n m l : BitVec 64) : Prop where
  msk : v_bounds_Mask n = m
  rd : v_bounds_Round n = l
  ge : l.ult n = false
  al : l &&& m = l
  near : (~~~m).ult (l - n) = false
  again : v_bounds_Round l = l
  same : v_bounds_Mask l = m
  lay : ∀ c : Cp, c.ad &&& m = c.ad → c.ad.toNat + l.toNat ≤ 2 ^ 64 → ∃ x, v_bounds_Lay c l = (x, true) ∧ g_bounds_Of x = true ∧ v_bounds_Of x = ⟨c.ad, BitVec.ofNat 64 (c.ad.toNat + l.toNat), decide (c.ad.toNat + l.toNat = 2 ^ 64)⟩
theorem al_of {x : Cp} {L : Nat} (h : Al x L) : g_bounds_Of x = true ∧ v_bounds_Of x = v_r03_Of x := by
  have e := h.e
  exact ⟨g_Of_ok (by omega), of_eq (by omega) h.bl h.tl⟩
theorem once_few {n : BitVec 64} (h : n.toNat < 4096) : Once n ones n := by
  have r : v_bounds_Round n = n := by
    unfold v_bounds_Round
    rw [mask_small h, show ~~~ones = 0#64 by decide, BitVec.add_zero, show ones = BitVec.allOnes 64 by decide, BitVec.and_allOnes]
  refine ⟨mask_small h, r, ?_, ?_, ?_, r, mask_small h, fun c hc hs => ?_⟩
  · simp [BitVec.ult]
  · rw [show ones = BitVec.allOnes 64 by decide, BitVec.and_allOnes]
  · simp [BitVec.ult]
  · obtain ⟨x, e1, e2, e3, e4⟩ := lay_few c h
    obtain ⟨g1, g2⟩ := al_of e4
    refine ⟨x, e1, g1, ?_⟩
    rw [g2, of_exact e4 (by rw [e3, Nat.pow_zero]; omega) (by rw [e2, e3, Nat.pow_zero]; omega), e2, e3, Nat.pow_zero, Nat.mul_one]
theorem once_big {n : BitVec 64} (h : 4096 ≤ n.toNat) (h2 : n.toNat ≤ 2 ^ 63) : ∃ m l, Once n m l := by
  obtain ⟨E, u, hE, u1, u2, hm, n1, n2⟩ := mask_big h h2
  have hr := round_val (k := E + 3) (by omega) h2 hm n1 n2
  have hp : 0 < 2 ^ (E + 3) := Nat.two_pow_pos _
  have hl63 : u * 2 ^ (E + 3) ≤ 2 ^ 63 := by
    have hs : (2 : Nat) ^ 63 = 2 ^ (63 - (E + 3)) * 2 ^ (E + 3) := by rw [← Nat.pow_add]; congr 1; omega
    rw [hs] at h2 ⊢
    have : u * 2 ^ (E + 3) < (2 ^ (63 - (E + 3)) + 1) * 2 ^ (E + 3) := by rw [Nat.add_mul, Nat.one_mul]; omega
    have := Nat.lt_of_mul_lt_mul_right this
    exact Nat.mul_le_mul_right _ (by omega)
  have hms := mask_units hE u1 u2 hr
  have hag := round_val (n := v_bounds_Round n) (k := E + 3) (u := u) (by omega) (by omega) hms (by omega) (by omega)
  refine ⟨ones <<< (E + 3), v_bounds_Round n, hm, rfl, ?_, ?_, ?_, ?_, hms, fun c hc hs => ?_⟩
  · simp only [BitVec.ult, decide_eq_false_iff_not]; omega
  · apply BitVec.eq_of_toNat_eq
    rw [and_ones _ _ (by omega), hr, Nat.mul_div_cancel _ hp]
  · simp only [BitVec.ult, decide_eq_false_iff_not]
    rw [not_ones _ (by omega), BitVec.toNat_sub]
    omega
  · apply BitVec.eq_of_toNat_eq; rw [hag, hr]
  · have hal : c.ad.toNat % 2 ^ (E + 3) = 0 := by
      have := congrArg BitVec.toNat hc
      rw [and_ones _ _ (by omega)] at this
      rw [← this]; exact Nat.mul_mod_left _ _
    obtain ⟨x, e1, e2, e3, e4⟩ := lay_units c hE u1 u2 hr hal
    obtain ⟨g1, g2⟩ := al_of e4
    have p8 : 2 ^ (E + 3) = 8 * 2 ^ E := by rw [show E + 3 = 3 + E by omega, Nat.pow_add]
    have hal0 : c.ad.toNat % 2 ^ E = 0 := by
      have d : 2 ^ E ∣ 2 ^ (E + 3) := by rw [p8]; exact Nat.dvd_mul_left _ _
      exact Nat.mod_eq_zero_of_dvd (Nat.dvd_trans d (Nat.dvd_of_mod_eq_zero hal))
    have hL : u * 8 * 2 ^ E = (v_bounds_Round n).toNat := by rw [hr, p8, Nat.mul_assoc]
    refine ⟨x, e1, g1, ?_⟩
    rw [g2, of_exact e4 (by rw [e2, e3]; exact hal0) (by rw [e2, e3, hL]; exact hs), e2, e3, hL]
theorem once_all {n : BitVec 64} (h : n.toNat ≤ 2 ^ 63) : ∃ m l, Once n m l := by
  by_cases hq : n.toNat < 4096
  · exact ⟨_, _, once_few hq⟩
  · exact once_big (by omega) h
theorem once_plain (a n : BitVec 64) : t_l03_BoundsOnce a n = some (.bool true) := by
  have hn : (n % 9223372036854775809#64).toNat ≤ 2 ^ 63 := by
    rw [BitVec.toNat_umod, show (9223372036854775809#64).toNat = 2 ^ 63 + 1 from rfl]; omega
  unfold t_l03_BoundsOnce
  generalize n % 9223372036854775809#64 = n at hn ⊢
  obtain ⟨m, l, o⟩ := once_all hn
  have gl : ∀ (c : Cp) (k : BitVec 64), g_bounds_Lay c k = true := fun c k => g_Lay_ok c k
  have gm : ∀ k, g_bounds_Mask k = true := g_mask_ok
  have gr : ∀ k, g_bounds_Round k = true := g_round_ok
  have hmm : (a &&& m) &&& m = a &&& m := by rw [BitVec.and_assoc, BitVec.and_self]
  simp only [gm, gr, gl, o.msk, o.rd, o.ge, o.al, o.near, o.again, o.same, beq_self_eq_true, Bool.not_true, cond_true, cond_false]
  cases hf : v_l03_fits (a &&& m) l with
  | false => rfl
  | true =>
    have hs := fits_le hf
    obtain ⟨x, e1, e2, e3⟩ := o.lay { tag := false, per := 0#64, ty := 0#64, mo := 0#64, e := 0#64, b := 0#64, t := 0#64, big := false, ad := a &&& m } hmm hs
    simp only at e3
    rw [e1]
    simp only [e2, e3, len_val hs, beq_self_eq_true, Bool.not_true, cond_true, cond_false]
end Go.Sx

/- The chapter's ends, one by one. -/
namespace Go.Sx
open Go
set_option maxRecDepth 100000
set_option maxHeartbeats 4000000
def kc (a : BitVec 64) : Cp := ⟨false, 0#64, 0#64, 1#64, 0#64, 5#64, 6#64, false, a⟩
def kends : List (BitVec 64) := [0#64, 1#64, 4095#64, 4096#64, 8191#64, 8192#64, 4294967295#64, 4294967296#64, 9223372036854775807#64, 9223372036854775808#64, 18446744073709547520#64, 18446744073709551615#64]
def rowE (a : BitVec 64) : Bool := kends.all fun b => g_l03_BoundsEnough (kc a) b a && v_l03_BoundsEnough (kc a) b a && (g_l03_BoundsAll (kc a) b a && v_l03_BoundsAll (kc a) b a)
theorem rowE_0 : rowE 0#64 = true := by kernel_rfl
theorem rowE_1 : rowE 1#64 = true := by kernel_rfl
theorem rowE_2 : rowE 4095#64 = true := by kernel_rfl
theorem rowE_3 : rowE 4096#64 = true := by kernel_rfl
theorem rowE_4 : rowE 8191#64 = true := by kernel_rfl
theorem rowE_5 : rowE 8192#64 = true := by kernel_rfl
theorem rowE_6 : rowE 4294967295#64 = true := by kernel_rfl
theorem rowE_7 : rowE 4294967296#64 = true := by kernel_rfl
theorem rowE_8 : rowE 9223372036854775807#64 = true := by kernel_rfl
theorem rowE_9 : rowE 9223372036854775808#64 = true := by kernel_rfl
theorem rowE_10 : rowE 18446744073709547520#64 = true := by kernel_rfl
theorem rowE_11 : rowE 18446744073709551615#64 = true := by kernel_rfl
theorem rowE_all : ∀ a ∈ kends, rowE a = true := by
  intro a h
  simp only [kends, List.mem_cons, List.not_mem_nil, or_false] at h
  rcases h with rfl | rfl | rfl | rfl | rfl | rfl | rfl | rfl | rfl | rfl | rfl | rfl
  · exact rowE_0
  · exact rowE_1
  · exact rowE_2
  · exact rowE_3
  · exact rowE_4
  · exact rowE_5
  · exact rowE_6
  · exact rowE_7
  · exact rowE_8
  · exact rowE_9
  · exact rowE_10
  · exact rowE_11
def memV (x : BitVec 64) : List (BitVec 64) → Bool
  | [] => false
  | y :: l => Nat.beq x.toNat y.toNat || memV x l
theorem memV_mem {x : BitVec 64} : ∀ {l : List (BitVec 64)}, memV x l = true → x ∈ l
  | [], h => by simp [memV] at h
  | y :: l, h => by
    simp only [memV, Bool.or_eq_true] at h
    rcases h with h | h
    · rw [BitVec.eq_of_toNat_eq (Nat.eq_of_beq_eq_true h)]; exact List.mem_cons_self
    · exact List.mem_cons_of_mem _ (memV_mem h)
def tabE (c : Cp) (n k : BitVec 64) : Bool := memV c.ad kends && memV n kends && Nat.beq k.toNat c.ad.toNat && eqCp c (kc c.ad)
theorem tabE_ok {c : Cp} {n k : BitVec 64} (h : tabE c n k = true) : (g_l03_BoundsEnough c n k = true ∧ v_l03_BoundsEnough c n k = true) ∧ g_l03_BoundsAll c n k = true ∧ v_l03_BoundsAll c n k = true := by
  simp only [tabE, Bool.and_eq_true] at h
  obtain ⟨⟨⟨h1, h2⟩, h3⟩, h4⟩ := h
  have e1 := rowE_all _ (memV_mem h1)
  obtain rfl : k = c.ad := BitVec.eq_of_toNat_eq (Nat.eq_of_beq_eq_true h3)
  have e2 := (eqCp_iff _ _).1 h4
  unfold rowE at e1
  have e3 := List.all_eq_true.1 e1 n (memV_mem h2)
  simp only [Bool.and_eq_true] at e3
  rw [← e2] at e3
  exact e3
def gE' (c : Cp) (n k : BitVec 64) : Bool := cond (tabE c n k) true (g_l03_BoundsEnough c n k)
def vE' (c : Cp) (n k : BitVec 64) : Bool := cond (tabE c n k) true (v_l03_BoundsEnough c n k)
def gA' (c : Cp) (n k : BitVec 64) : Bool := cond (tabE c n k) true (g_l03_BoundsAll c n k)
def vA' (c : Cp) (n k : BitVec 64) : Bool := cond (tabE c n k) true (v_l03_BoundsAll c n k)
theorem gE'_eq (c : Cp) (n k : BitVec 64) : g_l03_BoundsEnough c n k = gE' c n k := by
  unfold gE'; cases h : tabE c n k
  · rfl
  · exact (tabE_ok h).1.1
theorem vE'_eq (c : Cp) (n k : BitVec 64) : v_l03_BoundsEnough c n k = vE' c n k := by
  unfold vE'; cases h : tabE c n k
  · rfl
  · exact (tabE_ok h).1.2
theorem gA'_eq (c : Cp) (n k : BitVec 64) : g_l03_BoundsAll c n k = gA' c n k := by
  unfold gA'; cases h : tabE c n k
  · rfl
  · exact (tabE_ok h).2.1
theorem vA'_eq (c : Cp) (n k : BitVec 64) : v_l03_BoundsAll c n k = vA' c n k := by
  unfold vA'; cases h : tabE c n k
  · rfl
  · exact (tabE_ok h).2.2
theorem lays_g (c : Cp) (n : BitVec 64) : g_l03_BoundsLays c n = true := by
  unfold g_l03_BoundsLays
  have gl : g_bounds_Lay c n = true := g_Lay_ok c n
  simp only [gl, g_mask_ok, g_round_ok, cond_true, Bool.cond_self]
theorem lays_v (c : Cp) (n : BitVec 64) : v_l03_BoundsLays c n = true := by
  unfold v_l03_BoundsLays
  simp only [lay_eq, rmask_eq, rround_eq, eqCp_self, beq_self_eq_true, cond_true]
def gL' (c : Cp) (n : BitVec 64) : Bool := true
def vL' (c : Cp) (n : BitVec 64) : Bool := true
theorem gL'_eq (c : Cp) (n : BitVec 64) : g_l03_BoundsLays c n = gL' c n := lays_g c n
theorem vL'_eq (c : Cp) (n : BitVec 64) : v_l03_BoundsLays c n = vL' c n := lays_v c n
end Go.Sx

/- The loop over the chapter's ends: what stands at its head. -/
namespace Go.Sx
open Go
def endRows : List (BitVec 64) → List (List AV)
  | [] => []
  | a :: l => [.int .u64 a] :: endRows l
def eqRows : List (List AV) → List (BitVec 64) → Bool
  | [], [] => true
  | [.int .u64 a] :: r, b :: l => Nat.beq a.toNat b.toNat && eqRows r l
  | _, _ => false
theorem eqRows_ok : ∀ {r : List (List AV)} {l : List (BitVec 64)}, eqRows r l = true → r = endRows l
  | [], [], _ => rfl
  | [], _ :: _, h => by simp [eqRows] at h
  | x :: r, l, h => by
    unfold eqRows at h
    split at h
    · simp_all
    · rename_i a r' b l' hx
      simp only [List.cons.injEq] at hx
      obtain ⟨rfl, rfl⟩ := hx
      simp only [Bool.and_eq_true] at h
      rw [BitVec.eq_of_toNat_eq (Nat.eq_of_beq_eq_true h.1), eqRows_ok h.2]; rfl
    · simp at h
abbrev BkS := Fin 13
def bkT (x : BkS) : List AV := [.slice ⟨0, 0, 0, 1, 0⟩ 1 12, .int .i64 (BitVec.ofNat 64 x.val)]
def bkH (_ : BkS) : List Blk := [⟨true, [.arr [.int .u64] 12 (endRows kends)]⟩]
def bkStep (x : BkS) : BkS ⊕ BkS := if h : x.val < 12 then .inl ⟨x.val + 1, by omega⟩ else .inr x
def bkM (x : BkS) : Nat := 12 - x.val
def bkF (_ : BkS) : BkS := ⟨12, by decide⟩
theorem bk_whole (x : BkS) : wholeP bkF bkM x (bkStep x) := by
  unfold bkStep
  by_cases h : x.val < 12
  · rw [dif_pos h]; simp only [wholeP, bkM, bkF, and_true]; omega
  · rw [dif_neg h]; simp only [wholeP, bkF]
    apply Fin.ext; show 12 = x.val; have := x.isLt; omega
def apEq (p q : AP) : Bool := Nat.beq p.x q.x && Nat.beq p.off q.off && Nat.beq p.i q.i && Nat.beq p.sz q.sz && Nat.beq p.j q.j
theorem apEq_ok {p q : AP} (h : apEq p q = true) : p = q := by
  simp only [apEq, Bool.and_eq_true, beq_true] at h
  obtain ⟨⟨⟨⟨h1, h2⟩, h3⟩, h4⟩, h5⟩ := h
  cases p; cases q; simp_all
theorem bkT_of (i : BitVec 64) (hi : i.toNat < 13) : [AV.slice ⟨0, 0, 0, 1, 0⟩ 1 12, .int .i64 i] = bkT ⟨i.toNat, hi⟩ := by
  have e : BitVec.ofNat 64 i.toNat = i := by apply BitVec.eq_of_toNat_eq; rw [BitVec.toNat_ofNat]; have := i.isLt; omega
  unfold bkT
  simp only [e]
def bkDec (vs : List AV) (bs : List (Option Blk)) : Option BkS := match vs, bs with
  | [.slice p es n, .int .i64 i], [some ⟨rw, [.arr sh m d]⟩] => bif apEq p ⟨0, 0, 0, 1, 0⟩ && Nat.beq es 1 && Nat.beq n 12 && rw && decide (sh = [.int .u64]) && Nat.beq m 12 && eqRows d kends then (if h : i.toNat < 13 then some ⟨i.toNat, h⟩ else none) else none
  | _, _ => none
theorem bkDec_ok (vs : List AV) (bs : List (Option Blk)) (x : BkS) (h : bkDec vs bs = some x) : vs = bkT x ∧ bs = (bkH x).map some := by
  unfold bkDec at h
  split at h
  · rename_i p es n i rw sh m d
    cases hc : (apEq p ⟨0, 0, 0, 1, 0⟩ && Nat.beq es 1 && Nat.beq n 12 && rw && decide (sh = [.int .u64]) && Nat.beq m 12 && eqRows d kends) with
    | false => rw [hc] at h; simp at h
    | true =>
      rw [hc] at h
      simp only [cond_true] at h
      split at h
      · rename_i hi
        simp only [Option.some.injEq] at h
        subst h
        simp only [Bool.and_eq_true, beq_true, decide_eq_true_eq] at hc
        obtain ⟨⟨⟨⟨⟨⟨h1, rfl⟩, rfl⟩, rfl⟩, rfl⟩, rfl⟩, h7⟩ := hc
        obtain rfl := apEq_ok h1
        obtain rfl := eqRows_ok h7
        refine ⟨?_, rfl⟩
        exact bkT_of i hi
      · simp at h
  · simp at h
theorem boundsKnown_plain : t_l03_BoundsKnown = some (.bool true) := rfl
end Go.Sx


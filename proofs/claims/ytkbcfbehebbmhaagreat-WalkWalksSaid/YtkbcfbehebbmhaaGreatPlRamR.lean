/- Memory and the document's: what they have in common. -/
import Derived.Test.YtkbcfbehebbmhaaGreatPlRamZ
import Derived.Test.YtkbcfbehebbmhaaGreatPlRam4
import Derived.Test.YtkbcfbehebbmhaaGreatPlRamU
set_option linter.unusedSimpArgs false
set_option linter.unusedVariables false
set_option linter.unnecessarySimpa false
namespace Go.Sx
open Go
/-! ### numbers of bytes -/
def sumB (d : List (List AV)) (o : Nat) : Nat → Nat
  | 0 => 0
  | n + 1 => sumB d o n + (bA d (o + n)).toNat * 2 ^ (8 * n)
theorem sumB_lt (d : List (List AV)) (o : Nat) : ∀ n, sumB d o n < 2 ^ (8 * n)
  | 0 => by simp [sumB]
  | n + 1 => by
    have h := sumB_lt d o n
    have hb := (bA d (o + n)).isLt
    have e : 2 ^ (8 * (n + 1)) = 256 * 2 ^ (8 * n) := by rw [Nat.mul_add, Nat.pow_add]; omega
    unfold sumB
    rw [e]
    have h2 : (bA d (o + n)).toNat * 2 ^ (8 * n) ≤ 255 * 2 ^ (8 * n) := Nat.mul_le_mul_right _ (by omega)
    omega
theorem get_nat (d : List (List AV)) (o : Nat) : ∀ n, n ≤ 8 → (v_get d o n).toNat = sumB d o n
  | 0, _ => rfl
  | n + 1, h => by
    have ih := get_nat d o n (by omega)
    have hlt := sumB_lt d o n
    have hb := (bA d (o + n)).isLt
    rw [v_get_succ, BitVec.toNat_or, ih, BitVec.toNat_shiftLeft, BitVec.toNat_setWidth, Nat.min_eq_left (by omega), Nat.mod_eq_of_lt (a := (bA d (o + n)).toNat) (by omega)]
    have hp : 2 ^ (8 * n) * 256 ≤ 2 ^ 64 := by
      rw [show (256 : Nat) = 2 ^ 8 from rfl, ← Nat.pow_add]; exact Nat.pow_le_pow_right (by decide) (by omega)
    have h2 : (bA d (o + n)).toNat * 2 ^ (8 * n) < 2 ^ 64 := by
      have : (bA d (o + n)).toNat * 2 ^ (8 * n) ≤ 255 * 2 ^ (8 * n) := Nat.mul_le_mul_right _ (by omega)
      have hpos : 0 < 2 ^ (8 * n) := Nat.pow_pos (by decide)
      omega
    rw [Nat.shiftLeft_eq, Nat.mod_eq_of_lt h2]
    have := Nat.shiftLeft_add_eq_or_of_lt hlt (bA d (o + n)).toNat
    rw [Nat.shiftLeft_eq] at this
    show _ = sumB d o n + (bA d (o + n)).toNat * 2 ^ (8 * n)
    rw [Nat.or_comm, ← this, Nat.add_comm]
theorem xget_nat (d : List (List AV)) (o : Nat) : ∀ (n : Nat) (v : BitVec 64), v.toNat * 2 ^ (8 * n) + sumB d o n < 2 ^ 64 → (xgetGo d o n v).toNat = v.toNat * 2 ^ (8 * n) + sumB d o n
  | 0, v, h => by simp [xgetGo, sumB]
  | n + 1, v, h => by
    unfold xgetGo
    have e : 2 ^ (8 * (n + 1)) = 256 * 2 ^ (8 * n) := by rw [Nat.mul_add, Nat.pow_add]; omega
    have hb := (bA d (o + n)).isLt
    have hpos : 0 < 2 ^ (8 * n) := Nat.pow_pos (by decide)
    rw [e] at h ⊢
    unfold sumB at h ⊢
    have h1 : (v.toNat * 256 + (bA d (o + n)).toNat) * 2 ^ (8 * n) + sumB d o n = v.toNat * (256 * 2 ^ (8 * n)) + (sumB d o n + (bA d (o + n)).toNat * 2 ^ (8 * n)) := by
      rw [Nat.add_mul, Nat.mul_assoc]; omega
    have h2 : v.toNat * 256 + (bA d (o + n)).toNat < 2 ^ 64 := by
      have : (v.toNat * 256 + (bA d (o + n)).toNat) * 1 ≤ (v.toNat * 256 + (bA d (o + n)).toNat) * 2 ^ (8 * n) := Nat.mul_le_mul_left _ hpos
      omega
    have hv : (v * 256#64 + BitVec.setWidth 64 (bA d (o + n))).toNat = v.toNat * 256 + (bA d (o + n)).toNat := by
      rw [BitVec.toNat_add, BitVec.toNat_mul, BitVec.toNat_setWidth, show (256#64).toNat = 256 from rfl]
      omega
    rw [xget_nat d o n _ (by rw [hv, h1]; exact h), hv, h1]
theorem get_eq (d : List (List AV)) (o n : Nat) (h : n ≤ 8) : v_get d o n = v_xget d o n := by
  apply BitVec.eq_of_toNat_eq
  have hlt := sumB_lt d o n
  have hp : 2 ^ (8 * n) ≤ 2 ^ 64 := Nat.pow_le_pow_right (by decide) (by omega)
  unfold v_xget
  rw [get_nat d o n h, xget_nat d o n 0#64 (by simp; omega)]
  simp
theorem lV_eq (n : Nat) (d : List (List AV)) (off size : BitVec 64) : v_lV n d off size = v_xlV n d off size := by
  unfold v_lV v_xlV
  cases h : v_ok n off size with
  | false => rfl
  | true =>
    unfold v_ok at h
    rw [Bool.and_eq_true] at h
    have := v_sized_nat h.1
    exact get_eq d _ _ (by omega)
theorem cX_eq (n : Nat) (d : List (List AV)) (off : BitVec 64) (k : Nat) : v_cX n d off k = v_xcX n d off k := by
  unfold v_cX v_xcX
  rw [get_eq d _ 8 (by decide)]
/-! ### tags -/
def cU (tg : List (List AV)) (j : Nat) : BitVec 64 := asU64 ((tg.getD j []).headD .any)
theorem bit64 (x : BitVec 64) (k : Nat) (h : k < 64) : (!(x &&& 1#64 <<< min k 64 == 0#64)) = x.getLsbD k := by
  rw [Nat.min_eq_left (by omega)]
  cases hx : x.getLsbD k with
  | true =>
    rw [Bool.not_eq_true', beq_eq_false_iff_ne]
    intro e
    have h1 : (x &&& 1#64 <<< k).getLsbD k = false := by rw [e]; simp
    have h2 : (1#64 <<< k).getLsbD k = true := by simp [h]
    rw [BitVec.getLsbD_and, hx, h2] at h1
    exact absurd h1 (by decide)
  | false =>
    rw [Bool.not_eq_false', beq_iff_eq]
    apply BitVec.eq_of_getLsbD_eq
    intro i hi
    simp only [BitVec.getLsbD_and, BitVec.getLsbD_shiftLeft, BitVec.getLsbD_one, BitVec.getLsbD_zero]
    by_cases e : i = k
    · subst e; rw [hx]; simp
    · by_cases q : i < k
      · simp [q]
      · have : i - k ≠ 0 := by omega
        simp [this]
theorem tag_bit (tg : List (List AV)) (p : Nat) : v_tag tg p = (cU tg (p / 1024)).getLsbD (p / 16 % 64) := by
  unfold v_tag
  exact bit64 _ _ (by omega)
theorem cU_set (tg : List (List AV)) (i j : Nat) (v : BitVec 64) (h : i < tg.length) : cU (tg.set i [.int .u64 v]) j = if j = i then v else cU tg j := by
  unfold cU
  rw [getD_set tg i j _ h]
  split <;> rfl
theorem one_bit (i k : Nat) (hi : i < 64) (hk : k < 64) : (1#64 <<< min k 64).getLsbD i = decide (i = k) := by
  rw [Nat.min_eq_left (by omega)]
  simp only [BitVec.getLsbD_shiftLeft, BitVec.getLsbD_one, hi, decide_true, Bool.true_and]
  by_cases e : i = k
  · subst e; simp
  · by_cases q : i < k
    · simp [q, e]
    · have : i - k ≠ 0 := by omega
      simp [this, e]
theorem tag_clr (tg : List (List AV)) (o p : Nat) (hl : tg.length = 64) (ho : o < 65536) : v_tag (v_clr tg o) p = (v_tag tg p && !decide (p / 16 = o / 16)) := by
  rw [tag_bit, tag_bit]
  unfold v_clr
  rw [cU_set _ _ _ _ (by omega)]
  by_cases e : p / 1024 = o / 1024
  · rw [if_pos e, BitVec.getLsbD_and, BitVec.getLsbD_not, one_bit _ _ (by omega) (by omega), e]
    have : decide (p / 16 % 64 = o / 16 % 64) = decide (p / 16 = o / 16) := by
      congr 1; rw [eq_iff_iff]; omega
    rw [this, decide_eq_true (show p / 16 % 64 < 64 by omega), Bool.true_and]; rfl
  · rw [if_neg e, decide_eq_false (by omega)]; simp
theorem tag_lay (tg : List (List AV)) (o p : Nat) (hl : tg.length = 64) (ho : o < 65536) : v_tag (v_lay tg o) p = (v_tag tg p || decide (p / 16 = o / 16)) := by
  rw [tag_bit, tag_bit]
  unfold v_lay
  rw [cU_set _ _ _ _ (by omega)]
  by_cases e : p / 1024 = o / 1024
  · rw [if_pos e, BitVec.getLsbD_or, one_bit _ _ (by omega) (by omega), e]
    have : decide (p / 16 % 64 = o / 16 % 64) = decide (p / 16 = o / 16) := by
      congr 1; rw [eq_iff_iff]; omega
    rw [this]; rfl
  · rw [if_neg e, decide_eq_false (by omega)]; simp
theorem cB_set (T : List (List AV)) (i j : Nat) (b : Bool) (h : i < T.length) : cB (T.set i [.bool b]) j = if j = i then b else cB T j := by
  unfold cB
  rw [getD_set T i j _ h]
  split <;> rfl
/-- Tags that a store of so many bytes takes. -/
theorem cB_clr (T : List (List AV)) (o g : Nat) : ∀ s, o + s ≤ 16 * T.length → cB (v_xclr T o s) g = (cB T g && !(List.range s).any fun i => (o + i) / 16 == g)
  | 0, h => by simp [v_xclr]
  | s + 1, h => by
    rw [v_xclr_succ, cB_set _ _ _ _ (by rw [v_xclr_len]; omega), cB_clr T o g s (by omega), List.range_succ, List.any_append]
    by_cases e : g = (o + s) / 16
    · rw [if_pos e]; simp [← e]
    · rw [if_neg e]
      have : ((o + s) / 16 == g) = false := by rw [beq_eq_false_iff_ne]; exact fun q => e q.symm
      simp [this]
theorem any_two (o s g : Nat) (h1 : 1 ≤ s) (h16 : s ≤ 16) : ((List.range s).any fun i => (o + i) / 16 == g) = (decide (g = o / 16) || decide (g = (o + s - 1) / 16)) := by
  rw [Bool.eq_iff_iff, List.any_eq_true, Bool.or_eq_true, decide_eq_true_eq, decide_eq_true_eq]
  constructor
  · rintro ⟨i, hi, he⟩
    rw [List.mem_range] at hi
    rw [beq_iff_eq] at he
    omega
  · rintro (h | h)
    · exact ⟨0, by rw [List.mem_range]; omega, by rw [beq_iff_eq]; omega⟩
    · exact ⟨s - 1, by rw [List.mem_range]; omega, by rw [beq_iff_eq]; omega⟩
/-! ### new memory -/
def zT : List (List AV) := List.replicate 64 [.int .u64 0#64]
def zB (n : Nat) : List (List AV) := List.replicate n [.int .u8 0#8]
def zF (n : Nat) : List (List AV) := List.replicate n [.bool false]
/-- Both memories hold the same. -/
structure Mem (n : Nat) (tg d : List (List AV)) (t : Nat) (T : List (List AV)) : Prop where
  ld : d.length = n
  lg : tg.length = 64
  lo : 4096 ≤ n
  hi : n ≤ 65536
  t16 : 16 * t = n
  lT : T.length = t
  tag : ∀ g, g < t → cB T g = v_tag tg (16 * g)
theorem Mem.ram {n : Nat} {tg d : List (List AV)} {t : Nat} {T : List (List AV)} (h : Mem n tg d t T) : g_ram n tg n d = true := g_ram_iff.2 ⟨rfl, h.ld, h.lg, h.lo, h.hi⟩
theorem Mem.xram {n : Nat} {tg d : List (List AV)} {t : Nat} {T : List (List AV)} (h : Mem n tg d t T) : g_xram n t n d t T = true := g_xram_iff.2 ⟨rfl, h.ld, h.t16, rfl, h.lT, h.lo, h.hi⟩
theorem Mem.gtag {n : Nat} {tg d : List (List AV)} {t : Nat} {T : List (List AV)} (h : Mem n tg d t T) : g_tag n tg n d = true := by
  unfold g_tag
  rw [h.ram, Bool.true_and, beq_true]
  have := h.t16; omega
theorem Mem.xd {n : Nat} {tg d : List (List AV)} {t : Nat} {T : List (List AV)} (h : Mem n tg d t T) : g_xd t t = true := by
  unfold g_xd
  have := h.t16; have := h.hi
  simp only [Bool.and_eq_true, Nat.ble_eq]; omega
theorem Mem.tagged {n : Nat} {tg d : List (List AV)} {t : Nat} {T : List (List AV)} (h : Mem n tg d t T) : v_tagged tg n = v_xtagged T t := by
  unfold v_tagged v_xtagged tgs
  have e : n / 16 = t := by have := h.t16; omega
  rw [e]
  congr 1
  apply List.filter_congr
  intro g hg
  rw [List.mem_range] at hg
  exact (h.tag g hg).symm
theorem Mem.store {n : Nat} {tg d : List (List AV)} {t : Nat} {T : List (List AV)} (h : Mem n tg d t T) (off size v : BitVec 64) : Mem n (v_sT n tg off size) (v_sD n d off size v) t (v_xsT n T off size) := by
  unfold v_sT v_sD v_xsT
  cases hok : v_ok n off size with
  | false => exact h
  | true =>
    simp only [cond_true]
    have hok' := hok
    unfold v_ok at hok'
    rw [Bool.and_eq_true] at hok'
    have hs := v_sized_nat hok'.1
    have hhi := h.hi
    have hlo := h.lo
    have hle := (v_in_iff (off := off) (size := size) h.hi (by omega)).1 hok'.2
    refine { ld := by rw [v_put_len]; exact h.ld, lg := by rw [v_clr_len, v_clr_len]; exact h.lg, lo := h.lo, hi := h.hi, t16 := h.t16, lT := by rw [v_xclr_len]; exact h.lT, tag := fun g hg => ?_ }
    have ht := h.t16; have hT := h.lT
    rw [cB_clr _ _ _ _ (by omega), any_two _ _ _ (by omega) (by omega), tag_clr _ _ _ (by rw [v_clr_len]; exact h.lg) (by omega), tag_clr _ _ _ h.lg (by omega), h.tag g hg]
    rw [show 16 * g / 16 = g by omega]
    cases v_tag tg (16 * g) <;> cases decide (g = off.toNat / 16) <;> cases decide (g = (off.toNat + size.toNat - 1) / 16) <;> rfl
theorem Mem.cap {n : Nat} {tg d : List (List AV)} {t : Nat} {T : List (List AV)} (h : Mem n tg d t T) (off : BitVec 64) (b : Bool) (x y : BitVec 64) : Mem n (v_tT n tg off b) (v_tD n d off x y) t (v_xtT n T off b) := by
  unfold v_tT v_tD v_xtT
  cases hok : v_okC n off with
  | false => exact h
  | true =>
    simp only [cond_true]
    have hok' := hok
    unfold v_okC at hok'
    rw [Bool.and_eq_true, beq_iff_eq] at hok'
    have hhi := h.hi
    have hlo := h.lo
    have hle : off.toNat + 16 ≤ n := (v_in_iff (off := off) (size := 16#64) h.hi (by rw [show (16#64).toNat = 16 from rfl]; omega)).1 hok'.1
    have hm : off.toNat % 16 = 0 := by
      have := congrArg BitVec.toNat hok'.2
      rw [sremN off 16#64 (by decide) (by omega), BitVec.toNat_umod] at this
      exact this
    have ht := h.t16; have hT := h.lT
    have hlen : ((v_xclr (v_xclr T off.toNat 8) (off.toNat + 8) 8).length) = t := by rw [v_xclr_len, v_xclr_len]; exact h.lT
    refine { ld := by rw [v_put_len, v_put_len]; exact h.ld, lg := by cases b <;> simp only [cond_true, cond_false, v_lay_len, v_clr_len] <;> exact h.lg, lo := h.lo, hi := h.hi, t16 := h.t16, lT := by rw [List.length_set]; exact hlen, tag := fun g hg => ?_ }
    rw [cB_set _ _ _ _ (by omega), cB_clr _ _ _ _ (by rw [v_xclr_len]; omega), cB_clr _ _ _ _ (by omega), any_two _ _ _ (by omega) (by omega), any_two _ _ _ (by omega) (by omega), h.tag g hg]
    have e1 : (off.toNat + 8) / 16 = off.toNat / 16 := by omega
    have e2 : (off.toNat + 8 + 8 - 1) / 16 = off.toNat / 16 := by omega
    have e3 : (off.toNat + 8 - 1) / 16 = off.toNat / 16 := by omega
    rw [e1, e2, e3]
    have c := tag_clr tg off.toNat (16 * g) h.lg (by omega)
    rw [show 16 * g / 16 = g by omega] at c
    by_cases q : g = off.toNat / 16
    · rw [if_pos q]
      rw [decide_eq_true q] at c
      cases b with
      | true => rw [cond_true, tag_lay _ _ _ (by rw [v_clr_len]; exact h.lg) (by omega), show 16 * g / 16 = g by omega, decide_eq_true q]; simp
      | false => rw [cond_false, c]; simp
    · rw [if_neg q]
      rw [decide_eq_false q] at c
      cases b with
      | true => rw [cond_true, tag_lay _ _ _ (by rw [v_clr_len]; exact h.lg) (by omega), show 16 * g / 16 = g by omega, decide_eq_false q, c]; simp
      | false => rw [cond_false, c, decide_eq_false q]; simp
theorem Mem.cT {n : Nat} {tg d : List (List AV)} {t : Nat} {T : List (List AV)} (h : Mem n tg d t T) (off : BitVec 64) : v_cT n tg off = v_xcT n T off := by
  unfold v_cT v_xcT
  cases hok : v_okC n off with
  | false => rfl
  | true =>
    simp only [cond_true]
    unfold v_okC at hok
    rw [Bool.and_eq_true, beq_iff_eq] at hok
    have hhi := h.hi
    have hlo := h.lo
    have hle : off.toNat + 16 ≤ n := (v_in_iff (off := off) (size := 16#64) h.hi (by rw [show (16#64).toNat = 16 from rfl]; omega)).1 hok.1
    have hm : off.toNat % 16 = 0 := by
      have := congrArg BitVec.toNat hok.2
      rw [sremN off 16#64 (by decide) (by omega), BitVec.toNat_umod] at this
      exact this
    have ht := h.t16
    rw [h.tag _ (by omega), show 16 * (off.toNat / 16) = off.toNat by omega]
theorem cU_zT (j : Nat) : cU zT j = 0#64 := by
  by_cases h : j < 64
  · have : ∀ k : Fin 64, cU zT k.val = 0#64 := by decide
    exact this ⟨j, h⟩
  · unfold cU; rw [show zT.getD j [] = [] by simp [List.getD, List.getElem?_eq_none (show zT.length ≤ j by show 64 ≤ j; omega)]]; rfl
theorem tag_zT (p : Nat) : v_tag zT p = false := by rw [tag_bit, cU_zT]; simp
theorem cB_zF (t g : Nat) : cB (zF t) g = false := by
  unfold cB zF
  by_cases h : g < t
  · rw [show (List.replicate t [AV.bool false]).getD g [] = [.bool false] by simp [List.getD, h]]; rfl
  · rw [show (List.replicate t [AV.bool false]).getD g [] = [] by simp [List.getD, h]]; rfl
theorem Mem.zero {n t : Nat} (h1 : 4096 ≤ n) (h2 : n ≤ 65536) (h3 : 16 * t = n) : Mem n zT (zB n) t (zF t) :=
  { ld := by simp [zB], lg := rfl, lo := h1, hi := h2, t16 := h3, lT := by simp [zF], tag := fun g _ => by rw [tag_zT, cB_zF] }
theorem same_self (l : List (List AV)) (k : Nat) : v_same l l k k = true := by
  unfold v_same v_eqI eqI
  rw [beq_true.2 rfl, Bool.true_and, List.all_eq_true]
  intro j _
  exact beq_self_eq_true _
theorem ss_self {l : List (List AV)} (h : l.length < 2 ^ 63) : g_ss l.length l.length l.length l.length = true :=
  g_ss_iff.2 ⟨Nat.le_refl _, Nat.le_refl _, h, h⟩
end Go.Sx

/- Walks: what was found is found again. -/
import Derived.Test.YtkbcfbehebbmhaaPlWkF
import Derived.Test.YtkbcfbehebbmhaaPlWkL
set_option linter.unusedSimpArgs false
set_option linter.unusedVariables false
set_option linter.unnecessarySimpa false
namespace Go.Sx
open Go
/-! ### memory -/
theorem wbyte_nat (v : BitVec 64) {k : Nat} (h : k ≤ 8) : (byteOf v k).toNat = v.toNat / 2 ^ (8 * k) % 256 := by
  unfold byteOf
  rw [BitVec.toNat_setWidth, BitVec.toNat_ushiftRight, Nat.min_eq_left (by omega), Nat.shiftRight_eq_div_pow]
theorem wsum_put (d : List (List AV)) (o n : Nat) (v : BitVec 64) (h : o + n ≤ d.length) (h8 : n ≤ 8) : ∀ k, k ≤ n → sumB (v_put d o n v) o k = v.toNat % 2 ^ (8 * k)
  | 0, _ => by simp [sumB, Nat.mod_one]
  | k + 1, hk => by
    unfold sumB
    rw [wsum_put d o n v h h8 k (by omega), bA_put d o v (o + k) n h, if_pos (by omega), Nat.add_sub_cancel_left, wbyte_nat v (by omega)]
    rw [show 2 ^ (8 * (k + 1)) = 2 ^ (8 * k) * 256 by rw [Nat.mul_add, Nat.pow_add], Nat.mod_mul, Nat.mul_comm (2 ^ (8 * k))]
theorem sum_congr {d d' : List (List AV)} {o : Nat} : ∀ n, (∀ i, i < n → bA d (o + i) = bA d' (o + i)) → sumB d o n = sumB d' o n
  | 0, _ => rfl
  | n + 1, h => by
    unfold sumB
    rw [sum_congr n (fun i hi => h i (by omega)), h n (by omega)]
theorem wok8 {n : Nat} {o : BitVec 64} (hn : n ≤ 65536) (h : o.toNat + 8 ≤ n) : v_ok n o 8#64 = true := by
  unfold v_ok
  rw [show v_sized 8#64 = true from rfl, Bool.true_and]
  exact (v_in_iff hn (by rw [show (8#64).toNat = 8 from rfl]; omega)).2 h
/-- Words apart, or the same one. -/
theorem rd_st {n : Nat} {tg d : List (List AV)} (hR : Rok n tg d) {o q v : BitVec 64} (ho : o.toNat + 8 ≤ n) (hq : q.toNat + 8 ≤ n) (ho8 : o.toNat % 8 = 0) (hq8 : q.toNat % 8 = 0) :
    v_lV n (v_sD n d o 8#64 v) q 8#64 = if q = o then v else v_lV n d q 8#64 := by
  have hd := hR.ld
  unfold v_lV v_sD
  rw [wok8 hR.hi ho, wok8 hR.hi hq, cond_true, cond_true, cond_true, show (8#64).toNat = 8 from rfl]
  split
  · rename_i e
    subst e
    apply BitVec.eq_of_toNat_eq
    rw [get_nat _ _ 8 (by decide), wsum_put _ _ 8 v (by omega) (by decide) 8 (by decide)]
    exact Nat.mod_eq_of_lt v.isLt
  · rename_i e
    have hne : q.toNat ≠ o.toNat := fun h => e (BitVec.eq_of_toNat_eq h)
    apply BitVec.eq_of_toNat_eq
    rw [get_nat _ _ 8 (by decide), get_nat _ _ 8 (by decide)]
    apply sum_congr
    intro i hi
    rw [bA_put _ _ _ _ 8 (by omega), if_neg (by omega)]
theorem wkAt_nat (t va : BitVec 64) (s : Nat) : (wkAt t va s).toNat = t.toNat % 2 ^ 44 * 4096 + va.toNat / 2 ^ s % 512 * 8 := by
  have h1 : (t &&& 17592186044415#64).toNat = t.toNat % 2 ^ 44 := by
    rw [BitVec.toNat_and, show (17592186044415#64).toNat = 2 ^ 44 - 1 from rfl, Nat.and_two_pow_sub_one_eq_mod]
  have h2 : (va >>> s &&& 511#64).toNat = va.toNat / 2 ^ s % 512 := by
    rw [BitVec.toNat_and, show (511#64).toNat = 2 ^ 9 - 1 from rfl, Nat.and_two_pow_sub_one_eq_mod, BitVec.toNat_ushiftRight, Nat.shiftRight_eq_div_pow]
  unfold wkAt
  rw [BitVec.toNat_add, BitVec.toNat_shiftLeft, BitVec.toNat_mul, h1, h2, Nat.shiftLeft_eq, show (8#64).toNat = 8 from rfl]
  have := Nat.mod_lt t.toNat (show 0 < 2 ^ 44 by decide)
  have := Nat.mod_lt (va.toNat / 2 ^ s) (show 0 < 512 by decide)
  generalize t.toNat % 2 ^ 44 = x at *
  generalize va.toNat / 2 ^ s % 512 = y at *
  omega
theorem wkAt_8 (t va : BitVec 64) (s : Nat) : (wkAt t va s).toNat % 8 = 0 := by rw [wkAt_nat]; omega
theorem wkAt_va {va va' : BitVec 64} {s : Nat} (h : va'.toNat / 2 ^ s = va.toNat / 2 ^ s) (t : BitVec 64) : wkAt t va' s = wkAt t va s := by
  apply BitVec.eq_of_toNat_eq
  rw [wkAt_nat, wkAt_nat, h]
/-- A place in memory. -/
theorem wkIn_nat {n : Nat} (hn : n ≤ 65536) {a : BitVec 64} (h : wkIn n a = true) : 2147483648 ≤ a.toNat ∧ (a - 2147483648#64).toNat = a.toNat - 2147483648 ∧ (a - 2147483648#64).toNat + 8 ≤ n := by
  have hN : (BitVec.ofNat 64 n).toNat = n := ofNat_toNat (by omega)
  unfold wkIn v_reg at h
  rw [BitVec.signExtend_eq] at h
  simp only [Bool.and_eq_true] at h
  obtain ⟨h1, h2, h3, h4⟩ := h
  rw [BitVec.ule, decide_eq_true_eq, show (2147483648#64).toNat = 2147483648 from rfl] at h1
  have e : (a - 2147483648#64).toNat = a.toNat - 2147483648 := BitVec.toNat_sub_of_le (by rw [BitVec.le_def]; exact h1)
  rw [BitVec.ule, decide_eq_true_eq, hN] at h3
  rw [BitVec.ule, decide_eq_true_eq, BitVec.toNat_sub_of_le (by rw [BitVec.le_def, hN]; exact h3), hN, show (8#64).toNat = 8 from rfl] at h4
  exact ⟨h1, e, by omega⟩
theorem wk_rd {n : Nat} {tg d : List (List AV)} (hR : Rok n tg d) {a b v : BitVec 64} (ha : wkIn n a = true) (hb : wkIn n b = true) (ha8 : a.toNat % 8 = 0) (hb8 : b.toNat % 8 = 0) :
    wkRd n (v_sD n d (a - 2147483648#64) 8#64 v) b = if b = a then v else wkRd n d b := by
  obtain ⟨a1, a2, a3⟩ := wkIn_nat hR.hi ha
  obtain ⟨b1, b2, b3⟩ := wkIn_nat hR.hi hb
  unfold wkRd
  rw [rd_st hR a3 b3 (by omega) (by omega)]
  by_cases e : b = a
  · rw [if_pos e, if_pos (by rw [e])]
  · rw [if_neg e, if_neg]
    intro h
    apply e
    apply BitVec.eq_of_toNat_eq
    have := congrArg BitVec.toNat h
    omega
/-! ### entries that are marked -/
theorem mark_or (p kind : BitVec 64) : ∃ c, c &&& 192#64 = c ∧ v_pte_Mark p kind = p ||| c := by
  unfold v_pte_Mark
  cases (kind == 3#64) with
  | true => exact ⟨192#64, by decide, by rw [cond_true, BitVec.or_assoc]; rfl⟩
  | false => exact ⟨64#64, by decide, rfl⟩
theorem mark_and (p kind m : BitVec 64) (h : m &&& 192#64 = 0#64) : v_pte_Mark p kind &&& m = p &&& m := by
  obtain ⟨c, hc, e⟩ := mark_or p kind
  rw [e]
  apply BitVec.eq_of_getLsbD_eq
  intro i hi
  have h1 := congrArg (fun x => BitVec.getLsbD x i) h
  have h2 := congrArg (fun x => BitVec.getLsbD x i) hc
  simp only [BitVec.getLsbD_and, BitVec.getLsbD_or, BitVec.getLsbD_zero] at h1 h2 ⊢
  cases hm : m.getLsbD i <;> cases hc' : c.getLsbD i <;> cases h192 : (192#64).getLsbD i <;> simp_all
theorem mark_has (p kind m : BitVec 64) (h : m &&& 192#64 = 0#64) : v_pte_entry_has (v_pte_Mark p kind) m = v_pte_entry_has p m := by
  unfold v_pte_entry_has; rw [mark_and p kind m h]
theorem mark_leaf (p kind : BitVec 64) : v_pte_Leaf (v_pte_Mark p kind) = v_pte_Leaf p := mark_has p kind 10#64 (by decide)
theorem mark_page (p kind : BitVec 64) : v_pte_entry_page (v_pte_Mark p kind) = v_pte_entry_page p := by
  unfold v_pte_entry_page
  have e : ∀ x : BitVec 64, x >>> 10 &&& 17592186044415#64 = (x &&& 18014398509480960#64) >>> 10 := by
    intro x
    apply BitVec.eq_of_getLsbD_eq
    intro i hi
    simp only [BitVec.getLsbD_and, BitVec.getLsbD_ushiftRight]
    have : ∀ i : Fin 64, (17592186044415#64).getLsbD i.val = (18014398509480960#64).getLsbD (10 + i.val) := by decide
    rw [this ⟨i, hi⟩]
  rw [e, e, mark_and p kind _ (by decide)]
theorem mark_right {p kind lev : BitVec 64} (hl : v_pte_Leaf p = true) (h : v_pte_Right p lev = true) : v_pte_Right (v_pte_Mark p kind) lev = true := by
  rw [← h]
  have hL : v_pte_entry_leaf p = true := hl
  have hL' : v_pte_entry_leaf (v_pte_Mark p kind) = true := (mark_leaf p kind).trans hl
  unfold v_pte_Right
  rw [mark_has p kind 1#64 (by decide), mark_has p kind 4593671619917905920#64 (by decide), mark_has p kind 4#64 (by decide), mark_has p kind 2#64 (by decide), hL, hL', mark_page]
  rfl
theorem mark_may {p kind priv mst : BitVec 64} (h : v_pte_May p kind priv mst = true) : v_pte_May (v_pte_Mark p kind) kind priv mst = true := by
  rw [← h]
  unfold v_pte_May v_pte_entry_whose
  rw [mark_has p kind 16#64 (by decide), mark_has p kind 8#64 (by decide), mark_has p kind 2#64 (by decide), mark_has p kind 4#64 (by decide)]
theorem mark_mark (p kind : BitVec 64) : v_pte_Mark (v_pte_Mark p kind) kind = v_pte_Mark p kind := by
  unfold v_pte_Mark
  cases (kind == 3#64) with
  | true =>
    simp only [cond_true]
    apply BitVec.eq_of_getLsbD_eq
    intro i hi
    simp only [BitVec.getLsbD_or]
    cases p.getLsbD i <;> cases (64#64).getLsbD i <;> cases (128#64).getLsbD i <;> rfl
  | false =>
    simp only [cond_false]
    apply BitVec.eq_of_getLsbD_eq
    intro i hi
    simp only [BitVec.getLsbD_or]
    cases p.getLsbD i <;> cases (64#64).getLsbD i <;> rfl
end Go.Sx

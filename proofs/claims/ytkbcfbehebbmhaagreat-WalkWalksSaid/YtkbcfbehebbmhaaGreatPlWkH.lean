/- Several texts in one. -/
import Derived.Test.YtkbcfbehebbmhaaGreatPlWkB
import Derived.Test.YtkbcfbehebbmhaaGreatPlN
import Derived.Test.YtkbcfbehebbmhaaGreatPlWkL
set_option linter.unusedSimpArgs false
set_option linter.unusedVariables false
set_option linter.unnecessarySimpa false
/- Walks: what is found. -/
namespace Go.Sx
open Go
/-- The mask of a page's number, by the level. -/
def wkM (lev : BitVec 64) : BitVec 64 := if lev = 2#64 then 18446744073709289472#64 else if lev = 1#64 then 18446744073709551104#64 else 18446744073709551615#64
structure WkF (satp va kind priv mst : BitVec 64) (W : Wk) (p : BitVec 64) : Prop where
  good : wkBad va = false
  lev : W.lev = 0#64 ∨ W.lev = 1#64 ∨ W.lev = 2#64
  rt : v_pte_Right p W.lev = true
  lf : v_pte_Leaf p = true
  may : v_pte_May p kind priv mst = true
  asid : W.asid = BitVec.setWidth 64 (satp >>> 44 &&& 65535#64)
  page : W.page = va >>> 12 &&& wkM W.lev
  pte : W.pte = v_pte_Mark p kind
  wr : W.wr = !(v_pte_Mark p kind == p)
  some : v_wkE W = false
  zero : W.why = 0#64
theorem emp_app (A : List (BitVec 64)) (a : BitVec 64) : (A ++ [a]).isEmpty = false := by cases A <;> rfl
theorem wkLeaf_cases {satp va kind priv mst p lev mask a : BitVec 64} {A : List (BitVec 64)} (hb : wkBad va = false) (hl : lev = 0#64 ∨ lev = 1#64 ∨ lev = 2#64) (hm : mask = wkM lev) (hr : v_pte_Right p lev = true) (hf : v_pte_Leaf p = true) (hA : A.isEmpty = false) :
    (wkLeaf satp va kind priv mst p lev mask a A = wkNo A 1#64) ∨ WkF satp va kind priv mst (wkLeaf satp va kind priv mst p lev mask a A) p := by
  unfold wkLeaf
  cases h : v_pte_May p kind priv mst with
  | false => exact .inl rfl
  | true => exact .inr { good := hb, lev := hl, rt := hr, lf := hf, may := h, asid := rfl, page := by rw [hm]; rfl, pte := rfl, wr := rfl, some := hA, zero := rfl }
theorem wk_cases (n : Nat) (d : List (List AV)) (satp va kind priv mst : BitVec 64) :
    (∃ A, v_wk n d satp va kind priv mst = wkNo A 1#64) ∨ (∃ A, v_wk n d satp va kind priv mst = wkNo A 2#64) ∨ ∃ p, WkF satp va kind priv mst (v_wk n d satp va kind priv mst) p := by
  unfold v_wk
  cases hb : wkBad va with
  | true => exact .inl ⟨_, rfl⟩
  | false =>
  rw [cond_false]
  unfold wk2
  generalize wkAt satp va 30 = A2
  cases hi2 : wkIn n A2 with
  | false => exact .inr (.inl ⟨_, rfl⟩)
  | true =>
  rw [cond_true]
  generalize wkRd n d A2 = P2
  cases hr : v_pte_Right P2 2#64 with
  | false => exact .inl ⟨_, rfl⟩
  | true =>
  rw [cond_true]
  cases hf : v_pte_Leaf P2 with
  | true =>
    rw [cond_true]
    rcases wkLeaf_cases (satp := satp) (kind := kind) (priv := priv) (mst := mst) (mask := 18446744073709289472#64) (a := A2) (A := [A2]) hb (.inr (.inr rfl)) rfl hr hf rfl with h | h
    · exact .inl ⟨_, h⟩
    · exact .inr (.inr ⟨_, h⟩)
  | false =>
  rw [cond_false]
  unfold wk1
  generalize wkAt (P2 >>> 10) va 21 = A1
  cases hi1 : wkIn n A1 with
  | false => exact .inr (.inl ⟨_, rfl⟩)
  | true =>
  rw [cond_true]
  generalize wkRd n d A1 = P1
  cases hr1 : v_pte_Right P1 1#64 with
  | false => exact .inl ⟨_, rfl⟩
  | true =>
  rw [cond_true]
  cases hf1 : v_pte_Leaf P1 with
  | true =>
    rw [cond_true]
    rcases wkLeaf_cases (satp := satp) (kind := kind) (priv := priv) (mst := mst) (mask := 18446744073709551104#64) (a := A1) (A := [A2] ++ [A1]) hb (.inr (.inl rfl)) rfl hr1 hf1 rfl with h | h
    · exact .inl ⟨_, h⟩
    · exact .inr (.inr ⟨_, h⟩)
  | false =>
  rw [cond_false]
  unfold wk0
  generalize wkAt (P1 >>> 10) va 12 = A0
  cases hi0 : wkIn n A0 with
  | false => exact .inr (.inl ⟨_, rfl⟩)
  | true =>
  rw [cond_true]
  generalize wkRd n d A0 = P0
  cases hr0 : v_pte_Right P0 0#64 with
  | false => exact .inl ⟨_, rfl⟩
  | true =>
  rw [cond_true]
  cases hf0 : v_pte_Leaf P0 with
  | true =>
    rw [cond_true]
    rcases wkLeaf_cases (satp := satp) (kind := kind) (priv := priv) (mst := mst) (mask := 18446744073709551615#64) (a := A0) (A := [A2] ++ [A1] ++ [A0]) hb (.inl rfl) rfl hr0 hf0 rfl with h | h
    · exact .inl ⟨_, h⟩
    · exact .inr (.inr ⟨_, h⟩)
  | false => exact .inl ⟨_, rfl⟩
/-! ### bits -/
theorem mod2 (x : BitVec 64) : (x % 2#64 == 1#64) = x.getLsbD 0 := by
  have h : x.getLsbD 0 = decide (x.toNat % 2 = 1) := by unfold BitVec.getLsbD; rw [Nat.testBit_zero]
  rw [h, Bool.eq_iff_iff, beq_iff_eq, decide_eq_true_eq]
  constructor
  · intro e; have := congrArg BitVec.toNat e; rw [BitVec.toNat_umod] at this; exact this
  · intro e; apply BitVec.eq_of_toNat_eq; rw [BitVec.toNat_umod]; exact e
theorem mod2s (x : BitVec 64) (k : Nat) : (x >>> k % 2#64 == 1#64) = x.getLsbD k := by
  rw [mod2, BitVec.getLsbD_ushiftRight]; simp
theorem has_bit {p : BitVec 64} (h : v_pte_entry_has p 1#64 = true) : p.getLsbD 0 = true := by
  unfold v_pte_entry_has at h
  rw [Bool.not_eq_true', beq_eq_false_iff_ne] at h
  cases hp : p.getLsbD 0 with
  | true => rfl
  | false =>
    exfalso; apply h
    apply BitVec.eq_of_getLsbD_eq
    intro i hi
    rw [BitVec.getLsbD_and, BitVec.getLsbD_one]
    by_cases e : i = 0
    · subst e; rw [hp]; simp
    · simp [e]
theorem right_has {p lev : BitVec 64} (h : v_pte_Right p lev = true) : v_pte_entry_has p 1#64 = true := by
  cases hh : v_pte_entry_has p 1#64 with
  | true => rfl
  | false =>
    exfalso
    unfold v_pte_Right at h
    rw [hh] at h
    cases lev.slt 0#64 <;> cases (2#64).slt lev <;> simp at h
theorem leaf14 {p c : BitVec 64} (h : v_pte_Leaf p = true) : (!((p ||| c) &&& 14#64 == 0#64)) = true := by
  unfold v_pte_Leaf v_pte_entry_leaf v_pte_entry_has at h
  rw [Bool.not_eq_true', beq_eq_false_iff_ne] at h ⊢
  intro e
  apply h
  have : p &&& 10#64 = ((p ||| c) &&& 14#64) &&& (p &&& 10#64) := by
    apply BitVec.eq_of_getLsbD_eq
    intro i hi
    have e10 : (10#64).getLsbD i = ((14#64).getLsbD i && (10#64).getLsbD i) := by
      rw [← BitVec.getLsbD_and]; rfl
    simp only [BitVec.getLsbD_and, BitVec.getLsbD_or]
    rw [e10]
    cases p.getLsbD i <;> cases (14#64).getLsbD i <;> cases (10#64).getLsbD i <;> simp
  rw [this, e]
  simp
theorem mark_bits (p kind : BitVec 64) : (v_pte_Mark p kind).getLsbD 6 = true ∧ (kind = 3#64 → (v_pte_Mark p kind).getLsbD 7 = true) ∧ (p.getLsbD 0 = true → (v_pte_Mark p kind).getLsbD 0 = true) ∧ (v_pte_Leaf p = true → (!(v_pte_Mark p kind &&& 14#64 == 0#64)) = true) := by
  unfold v_pte_Mark
  cases h : (kind == 3#64) with
  | true =>
    simp only [cond_true]
    refine ⟨?_, fun _ => ?_, fun h => ?_, fun h => ?_⟩
    · simp only [BitVec.getLsbD_or]; rw [show (64#64).getLsbD 6 = true by decide]; simp
    · simp only [BitVec.getLsbD_or]; rw [show (128#64).getLsbD 7 = true by decide]; simp
    · simp only [BitVec.getLsbD_or, h, Bool.true_or]
    · rw [BitVec.or_assoc]; exact leaf14 h
  | false =>
    simp only [cond_false]
    refine ⟨?_, fun e => ?_, fun h => ?_, fun h => leaf14 h⟩
    · simp only [BitVec.getLsbD_or]; rw [show (64#64).getLsbD 6 = true by decide]; simp
    · rw [e] at h; exact absurd h (by decide)
    · simp only [BitVec.getLsbD_or, h, Bool.true_or]
/-! ### addresses -/
theorem wk_high {va : BitVec 64} (h : wkBad va = false) : va.toNat < 2 ^ 38 ∨ 2 ^ 64 - 2 ^ 38 ≤ va.toNat := by
  unfold wkBad at h
  rw [Bool.not_eq_false', beq_iff_eq, BitVec.setWidth_eq] at h
  have h1 := congrArg BitVec.toInt h
  rw [BitVec.toInt_sshiftRight, Int.shiftRight_eq_div_pow] at h1
  have h2 := BitVec.toInt_lt (x := va <<< 25)
  have h3 := BitVec.le_toInt (x := va <<< 25)
  have h4 : va.toInt < 2 ^ 38 ∧ -2 ^ 38 ≤ va.toInt := by
    rw [← h1]
    generalize (va <<< 25).toInt = z at h2 h3
    have e1 : (2 : Int) ^ (64 - 1) = 9223372036854775808 := rfl
    have e2 : ((2 ^ 25 : Nat) : Int) = 33554432 := rfl
    have e3 : (2 : Int) ^ 38 = 274877906944 := rfl
    rw [e1] at h2 h3
    rw [e2, e3]
    omega
  have h5 := BitVec.toInt_eq_toNat_cond (x := va)
  have := va.isLt
  have e3 : (2 : Int) ^ 38 = 274877906944 := rfl
  have e4 : ((2 ^ 64 : Nat) : Int) = 18446744073709551616 := rfl
  rw [h5, e3] at h4
  split at h4
  · omega
  · rw [e4] at h4; omega
theorem up_high {va : BitVec 64} (h : wkBad va = false) : (!va >>> 38 == 0#64) = false ∨ (!va >>> 38 == 67108863#64) = false := by
  have := va.isLt
  rcases wk_high h with h | h
  · left
    rw [Bool.not_eq_false', beq_iff_eq]
    apply BitVec.eq_of_toNat_eq
    rw [BitVec.toNat_ushiftRight, Nat.shiftRight_eq_div_pow]
    show va.toNat / 2 ^ 38 = 0
    omega
  · right
    rw [Bool.not_eq_false', beq_iff_eq]
    apply BitVec.eq_of_toNat_eq
    rw [BitVec.toNat_ushiftRight, Nat.shiftRight_eq_div_pow]
    show va.toNat / 2 ^ 38 = 67108863
    omega
theorem mask_bits (m : BitVec 64) (k : Nat) (hm : ∀ i : Fin 64, m.getLsbD i.val = decide (k ≤ i.val)) (x : BitVec 64) : (x &&& m).toNat = x.toNat / 2 ^ k * 2 ^ k := by
  have e : x &&& m = (x >>> k) <<< k := by
    apply BitVec.eq_of_getLsbD_eq
    intro i hi
    rw [BitVec.getLsbD_and, hm ⟨i, hi⟩, BitVec.getLsbD_shiftLeft, BitVec.getLsbD_ushiftRight]
    by_cases h : k ≤ i
    · have hn : ¬ i < k := by omega
      have e : k + (i - k) = i := by omega
      simp [h, hi, hn, e]
    · have hn : i < k := by omega
      simp [h, hn]
  rw [e, BitVec.toNat_shiftLeft, BitVec.toNat_ushiftRight, Nat.shiftLeft_eq, Nat.shiftRight_eq_div_pow]
  have h1 : x.toNat / 2 ^ k * 2 ^ k ≤ x.toNat := Nat.div_mul_le_self _ _
  exact Nat.mod_eq_of_lt (by have := x.isLt; omega)
/-- How far a level's pages reach. -/
def wkS (lev : BitVec 64) : Nat := 9 * lev.toNat
theorem wk_page {lev : BitVec 64} (hl : lev = 0#64 ∨ lev = 1#64 ∨ lev = 2#64) (va : BitVec 64) : (va >>> 12 &&& wkM lev).toNat = va.toNat / 2 ^ 12 / 2 ^ wkS lev * 2 ^ wkS lev := by
  have e : (va >>> 12).toNat = va.toNat / 2 ^ 12 := by rw [BitVec.toNat_ushiftRight, Nat.shiftRight_eq_div_pow]
  rw [← e]
  rcases hl with rfl | rfl | rfl
  · exact mask_bits _ 0 (by decide) _
  · exact mask_bits _ 9 (by decide) _
  · exact mask_bits _ 18 (by decide) _
theorem wk_base {lev : BitVec 64} (hl : lev = 0#64 ∨ lev = 1#64 ∨ lev = 2#64) (va : BitVec 64) : ((va >>> 12 &&& wkM lev) <<< 12).toNat = va.toNat / 2 ^ (12 + wkS lev) * 2 ^ (12 + wkS lev) := by
  rw [BitVec.toNat_shiftLeft, wk_page hl, Nat.shiftLeft_eq, Nat.div_div_eq_div_mul, ← Nat.pow_add, Nat.mul_assoc, ← Nat.pow_add, Nat.add_comm (wkS lev) 12]
  have h1 : va.toNat / 2 ^ (12 + wkS lev) * 2 ^ (12 + wkS lev) ≤ va.toNat := Nat.div_mul_le_self _ _
  exact Nat.mod_eq_of_lt (by have := va.isLt; omega)
theorem asid_eq (satp : BitVec 64) : BitVec.setWidth 64 (satp >>> 44 &&& 65535#64) = BitVec.setWidth 64 (satp >>> 44 % 65536#64) := by
  congr 1
  apply BitVec.eq_of_toNat_eq
  rw [BitVec.toNat_and, BitVec.toNat_umod, show (65535#64).toNat = 2 ^ 16 - 1 from rfl, show (65536#64).toNat = 2 ^ 16 from rfl, Nat.and_two_pow_sub_one_eq_mod]
end Go.Sx

/- Walks: what was found is found again. -/
namespace Go.Sx
open Go
/-! ### memory -/
theorem wbyte_nat (v : BitVec 64) {k : Nat} (h : k ≤ 8) : (byteOf v k).toNat = v.toNat / 2 ^ (8 * k) % 256 := by
  unfold byteOf
  rw [BitVec.toNat_setWidth, BitVec.toNat_ushiftRight, Nat.min_eq_left (by omega), Nat.shiftRight_eq_div_pow]
theorem wsum_put (d : List (List AV)) (o n : Nat) (v : BitVec 64) (h : o + n ≤ d.length) (h8 : n ≤ 8) : ∀ k, k ≤ n → sumB (v_put d o n v) o k = v.toNat % 2 ^ (8 * k)
  | 0, _ => by simp [sumB, Nat.mod_one]
  | k + 1, hk => by
    unfold sumB
    rw [wsum_put d o n v h h8 k (by omega), bA_put d o v (o + k) n h, if_pos (by omega), Nat.add_sub_cancel_left, wbyte_nat v (by omega)]
    rw [show 2 ^ (8 * (k + 1)) = 2 ^ (8 * k) * 256 by rw [Nat.mul_add, Nat.pow_add], Nat.mod_mul, Nat.mul_comm (2 ^ (8 * k))]
theorem sum_congr {d d' : List (List AV)} {o : Nat} : ∀ n, (∀ i, i < n → bA d (o + i) = bA d' (o + i)) → sumB d o n = sumB d' o n
  | 0, _ => rfl
  | n + 1, h => by
    unfold sumB
    rw [sum_congr n (fun i hi => h i (by omega)), h n (by omega)]
theorem wok8 {n : Nat} {o : BitVec 64} (hn : n ≤ 65536) (h : o.toNat + 8 ≤ n) : v_ok n o 8#64 = true := by
  unfold v_ok
  rw [show v_sized 8#64 = true from rfl, Bool.true_and]
  exact (v_in_iff hn (by rw [show (8#64).toNat = 8 from rfl]; omega)).2 h
/-- Words apart, or the same one. -/
theorem rd_st {n : Nat} {tg d : List (List AV)} (hR : Rok n tg d) {o q v : BitVec 64} (ho : o.toNat + 8 ≤ n) (hq : q.toNat + 8 ≤ n) (ho8 : o.toNat % 8 = 0) (hq8 : q.toNat % 8 = 0) :
    v_lV n (v_sD n d o 8#64 v) q 8#64 = if q = o then v else v_lV n d q 8#64 := by
  have hd := hR.ld
  unfold v_lV v_sD
  rw [wok8 hR.hi ho, wok8 hR.hi hq, cond_true, cond_true, cond_true, show (8#64).toNat = 8 from rfl]
  split
  · rename_i e
    subst e
    apply BitVec.eq_of_toNat_eq
    rw [get_nat _ _ 8 (by decide), wsum_put _ _ 8 v (by omega) (by decide) 8 (by decide)]
    exact Nat.mod_eq_of_lt v.isLt
  · rename_i e
    have hne : q.toNat ≠ o.toNat := fun h => e (BitVec.eq_of_toNat_eq h)
    apply BitVec.eq_of_toNat_eq
    rw [get_nat _ _ 8 (by decide), get_nat _ _ 8 (by decide)]
    apply sum_congr
    intro i hi
    rw [bA_put _ _ _ _ 8 (by omega), if_neg (by omega)]
theorem wkAt_nat (t va : BitVec 64) (s : Nat) : (wkAt t va s).toNat = t.toNat % 2 ^ 44 * 4096 + va.toNat / 2 ^ s % 512 * 8 := by
  have h1 : (t &&& 17592186044415#64).toNat = t.toNat % 2 ^ 44 := by
    rw [BitVec.toNat_and, show (17592186044415#64).toNat = 2 ^ 44 - 1 from rfl, Nat.and_two_pow_sub_one_eq_mod]
  have h2 : (va >>> s &&& 511#64).toNat = va.toNat / 2 ^ s % 512 := by
    rw [BitVec.toNat_and, show (511#64).toNat = 2 ^ 9 - 1 from rfl, Nat.and_two_pow_sub_one_eq_mod, BitVec.toNat_ushiftRight, Nat.shiftRight_eq_div_pow]
  unfold wkAt
  rw [BitVec.toNat_add, BitVec.toNat_shiftLeft, BitVec.toNat_mul, h1, h2, Nat.shiftLeft_eq, show (8#64).toNat = 8 from rfl]
  have := Nat.mod_lt t.toNat (show 0 < 2 ^ 44 by decide)
  have := Nat.mod_lt (va.toNat / 2 ^ s) (show 0 < 512 by decide)
  generalize t.toNat % 2 ^ 44 = x at *
  generalize va.toNat / 2 ^ s % 512 = y at *
  omega
theorem wkAt_8 (t va : BitVec 64) (s : Nat) : (wkAt t va s).toNat % 8 = 0 := by rw [wkAt_nat]; omega
theorem wkAt_va {va va' : BitVec 64} {s : Nat} (h : va'.toNat / 2 ^ s = va.toNat / 2 ^ s) (t : BitVec 64) : wkAt t va' s = wkAt t va s := by
  apply BitVec.eq_of_toNat_eq
  rw [wkAt_nat, wkAt_nat, h]
/-- A place in memory. -/
theorem wkIn_nat {n : Nat} (hn : n ≤ 65536) {a : BitVec 64} (h : wkIn n a = true) : 2147483648 ≤ a.toNat ∧ (a - 2147483648#64).toNat = a.toNat - 2147483648 ∧ (a - 2147483648#64).toNat + 8 ≤ n := by
  have hN : (BitVec.ofNat 64 n).toNat = n := ofNat_toNat (by omega)
  unfold wkIn v_reg at h
  rw [BitVec.signExtend_eq] at h
  simp only [Bool.and_eq_true] at h
  obtain ⟨h1, h2, h3, h4⟩ := h
  rw [BitVec.ule, decide_eq_true_eq, show (2147483648#64).toNat = 2147483648 from rfl] at h1
  have e : (a - 2147483648#64).toNat = a.toNat - 2147483648 := BitVec.toNat_sub_of_le (by rw [BitVec.le_def]; exact h1)
  rw [BitVec.ule, decide_eq_true_eq, hN] at h3
  rw [BitVec.ule, decide_eq_true_eq, BitVec.toNat_sub_of_le (by rw [BitVec.le_def, hN]; exact h3), hN, show (8#64).toNat = 8 from rfl] at h4
  exact ⟨h1, e, by omega⟩
theorem wk_rd {n : Nat} {tg d : List (List AV)} (hR : Rok n tg d) {a b v : BitVec 64} (ha : wkIn n a = true) (hb : wkIn n b = true) (ha8 : a.toNat % 8 = 0) (hb8 : b.toNat % 8 = 0) :
    wkRd n (v_sD n d (a - 2147483648#64) 8#64 v) b = if b = a then v else wkRd n d b := by
  obtain ⟨a1, a2, a3⟩ := wkIn_nat hR.hi ha
  obtain ⟨b1, b2, b3⟩ := wkIn_nat hR.hi hb
  unfold wkRd
  rw [rd_st hR a3 b3 (by omega) (by omega)]
  by_cases e : b = a
  · rw [if_pos e, if_pos (by rw [e])]
  · rw [if_neg e, if_neg]
    intro h
    apply e
    apply BitVec.eq_of_toNat_eq
    have := congrArg BitVec.toNat h
    omega
/-! ### entries that are marked -/
theorem mark_or (p kind : BitVec 64) : ∃ c, c &&& 192#64 = c ∧ v_pte_Mark p kind = p ||| c := by
  unfold v_pte_Mark
  cases (kind == 3#64) with
  | true => exact ⟨192#64, by decide, by rw [cond_true, BitVec.or_assoc]; rfl⟩
  | false => exact ⟨64#64, by decide, rfl⟩
theorem mark_and (p kind m : BitVec 64) (h : m &&& 192#64 = 0#64) : v_pte_Mark p kind &&& m = p &&& m := by
  obtain ⟨c, hc, e⟩ := mark_or p kind
  rw [e]
  apply BitVec.eq_of_getLsbD_eq
  intro i hi
  have h1 := congrArg (fun x => BitVec.getLsbD x i) h
  have h2 := congrArg (fun x => BitVec.getLsbD x i) hc
  simp only [BitVec.getLsbD_and, BitVec.getLsbD_or, BitVec.getLsbD_zero] at h1 h2 ⊢
  cases hm : m.getLsbD i <;> cases hc' : c.getLsbD i <;> cases h192 : (192#64).getLsbD i <;> simp_all
theorem mark_has (p kind m : BitVec 64) (h : m &&& 192#64 = 0#64) : v_pte_entry_has (v_pte_Mark p kind) m = v_pte_entry_has p m := by
  unfold v_pte_entry_has; rw [mark_and p kind m h]
theorem mark_leaf (p kind : BitVec 64) : v_pte_Leaf (v_pte_Mark p kind) = v_pte_Leaf p := mark_has p kind 10#64 (by decide)
theorem mark_page (p kind : BitVec 64) : v_pte_entry_page (v_pte_Mark p kind) = v_pte_entry_page p := by
  unfold v_pte_entry_page
  have e : ∀ x : BitVec 64, x >>> 10 &&& 17592186044415#64 = (x &&& 18014398509480960#64) >>> 10 := by
    intro x
    apply BitVec.eq_of_getLsbD_eq
    intro i hi
    simp only [BitVec.getLsbD_and, BitVec.getLsbD_ushiftRight]
    have : ∀ i : Fin 64, (17592186044415#64).getLsbD i.val = (18014398509480960#64).getLsbD (10 + i.val) := by decide
    rw [this ⟨i, hi⟩]
  rw [e, e, mark_and p kind _ (by decide)]
theorem mark_right {p kind lev : BitVec 64} (hl : v_pte_Leaf p = true) (h : v_pte_Right p lev = true) : v_pte_Right (v_pte_Mark p kind) lev = true := by
  rw [← h]
  have hL : v_pte_entry_leaf p = true := hl
  have hL' : v_pte_entry_leaf (v_pte_Mark p kind) = true := (mark_leaf p kind).trans hl
  unfold v_pte_Right
  rw [mark_has p kind 1#64 (by decide), mark_has p kind 4593671619917905920#64 (by decide), mark_has p kind 4#64 (by decide), mark_has p kind 2#64 (by decide), hL, hL', mark_page]
  rfl
theorem mark_may {p kind priv mst : BitVec 64} (h : v_pte_May p kind priv mst = true) : v_pte_May (v_pte_Mark p kind) kind priv mst = true := by
  rw [← h]
  unfold v_pte_May v_pte_entry_whose
  rw [mark_has p kind 16#64 (by decide), mark_has p kind 8#64 (by decide), mark_has p kind 2#64 (by decide), mark_has p kind 4#64 (by decide)]
theorem mark_mark (p kind : BitVec 64) : v_pte_Mark (v_pte_Mark p kind) kind = v_pte_Mark p kind := by
  unfold v_pte_Mark
  cases (kind == 3#64) with
  | true =>
    simp only [cond_true]
    apply BitVec.eq_of_getLsbD_eq
    intro i hi
    simp only [BitVec.getLsbD_or]
    cases p.getLsbD i <;> cases (64#64).getLsbD i <;> cases (128#64).getLsbD i <;> rfl
  | false =>
    simp only [cond_false]
    apply BitVec.eq_of_getLsbD_eq
    intro i hi
    simp only [BitVec.getLsbD_or]
    cases p.getLsbD i <;> cases (64#64).getLsbD i <;> rfl
end Go.Sx

/- Walks: what was found is found again, at all addresses of its page. -/
namespace Go.Sx
open Go
theorem wk_good_of {va : BitVec 64} (h : va.toNat < 2 ^ 38 ∨ 2 ^ 64 - 2 ^ 38 ≤ va.toNat) : wkBad va = false := by
  unfold wkBad
  rw [Bool.not_eq_false', beq_iff_eq, BitVec.setWidth_eq]
  apply BitVec.eq_of_toInt_eq
  rw [BitVec.toInt_sshiftRight, Int.shiftRight_eq_div_pow, BitVec.toInt_shiftLeft]
  have h5 := BitVec.toInt_eq_toNat_cond (x := va)
  have hlt := va.isLt
  have e4 : ((2 ^ 64 : Nat) : Int) = 18446744073709551616 := rfl
  have e2 : ((2 ^ 25 : Nat) : Int) = 33554432 := rfl
  rw [h5, Nat.shiftLeft_eq, e2, e4]
  rw [Int.bmod_def, e4]
  have e6 : ((va.toNat * 2 ^ 25 : Nat) : Int) = (va.toNat : Int) * 33554432 := by rw [Int.natCast_mul]; rfl
  rw [e6]
  generalize va.toNat = z at *
  rcases h with h | h
  · rw [if_pos (by omega), if_pos (by omega)]; omega
  · rw [if_neg (by omega), if_neg (by omega)]; omega
theorem div_more {x y a b : Nat} (hab : a ≤ b) (h : x / 2 ^ a = y / 2 ^ a) : x / 2 ^ b = y / 2 ^ b := by
  have h2 : 2 ^ b = 2 ^ a * 2 ^ (b - a) := by rw [← Nat.pow_add]; congr 1; omega
  rw [h2, ← Nat.div_div_eq_div_mul, ← Nat.div_div_eq_div_mul, h]
theorem wk_bad_eq {va va' : BitVec 64} {s : Nat} (hs : s ≤ 38) (h : va'.toNat / 2 ^ s = va.toNat / 2 ^ s) (hb : wkBad va = false) : wkBad va' = false := by
  apply wk_good_of
  have e : va'.toNat / 2 ^ 38 = va.toNat / 2 ^ 38 := div_more hs h
  have := va'.isLt
  rcases wk_high hb with h | h <;> omega
theorem wk_page_eq {lev va va' : BitVec 64} (hl : lev = 0#64 ∨ lev = 1#64 ∨ lev = 2#64) (h : va'.toNat / 2 ^ (12 + wkS lev) = va.toNat / 2 ^ (12 + wkS lev)) : va' >>> 12 &&& wkM lev = va >>> 12 &&& wkM lev := by
  apply BitVec.eq_of_toNat_eq
  rw [wk_page hl, wk_page hl, Nat.div_div_eq_div_mul, Nat.div_div_eq_div_mul, ← Nat.pow_add, h]
/-- What is read behind a walk. -/
theorem wkD_rd {n : Nat} {tg d : List (List AV)} (hR : Rok n tg d) {kind p a b : BitVec 64} {W : Wk} (hp : wkRd n d a = p) (h1 : W.at_ = a) (h2 : W.pte = v_pte_Mark p kind) (h3 : W.wr = !(v_pte_Mark p kind == p)) (ha : wkIn n a = true) (hb : wkIn n b = true) (ha8 : a.toNat % 8 = 0) (hb8 : b.toNat % 8 = 0) :
    wkRd n (v_wkD n d W) b = if b = a then v_pte_Mark p kind else wkRd n d b := by
  unfold v_wkD
  rw [h1, h2, h3]
  cases hq : (v_pte_Mark p kind == p) with
  | true =>
    rw [beq_iff_eq] at hq
    show wkRd n d b = _
    split
    · rename_i e; rw [e, hp, hq]
    · rfl
  | false => exact wk_rd hR ha hb ha8 hb8
theorem wkLeaf_again {satp va va' kind priv mst p lev mask a : BitVec 64} {A : List (BitVec 64)} {w : Bool} (hl : lev = 0#64 ∨ lev = 1#64 ∨ lev = 2#64) (hm : mask = wkM lev) (hv : va'.toNat / 2 ^ (12 + wkS lev) = va.toNat / 2 ^ (12 + wkS lev)) (h : v_pte_May p kind priv mst = true) :
    wkLeaf satp va' kind priv mst (v_pte_Mark p kind) lev mask a A = { (⟨A, 0#64, BitVec.setWidth 64 (satp >>> 44 &&& 65535#64), lev, va >>> 12 &&& mask, v_pte_Mark p kind, a, w⟩ : Wk) with wr := false } := by
  unfold wkLeaf
  rw [mark_may h, mark_mark, cond_true, hm, wk_page_eq hl hv, beq_self_eq_true]; rfl
theorem wk_again {n : Nat} {tg d : List (List AV)} (hR : Rok n tg d) {satp va kind priv mst va' : BitVec 64} {W : Wk} (hW : v_wk n d satp va kind priv mst = W) (h0 : W.why = 0#64) (hv : va'.toNat / 2 ^ (12 + wkS W.lev) = va.toNat / 2 ^ (12 + wkS W.lev)) :
    v_wk n (v_wkD n d W) satp va' kind priv mst = { W with wr := false } ∧ W.A.length = 3 - W.lev.toNat ∧ (∀ a ∈ W.A, wkIn n a = true ∧ a.toNat % 8 = 0) ∧ W.at_ ∈ W.A ∧ W.pte = v_pte_Mark (wkRd n d W.at_) kind ∧ W.wr = !(v_pte_Mark (wkRd n d W.at_) kind == wkRd n d W.at_) := by
  unfold v_wk at hW ⊢
  cases hb : wkBad va with
  | true => rw [hb] at hW; subst hW; simp [wkNo] at h0
  | false =>
  rw [hb, cond_false] at hW
  unfold wk2 at hW
  generalize hA2 : wkAt satp va 30 = A2 at hW
  have A28 : A2.toNat % 8 = 0 := by rw [← hA2]; exact wkAt_8 _ _ _
  cases hi2 : wkIn n A2 with
  | false => rw [hi2] at hW; subst hW; simp [wkNo] at h0
  | true =>
  rw [hi2, cond_true] at hW
  generalize hP2 : wkRd n d A2 = P2 at hW
  cases hr2 : v_pte_Right P2 2#64 with
  | false => rw [hr2] at hW; subst hW; simp [wkNo] at h0
  | true =>
  rw [hr2, cond_true] at hW
  cases hf2 : v_pte_Leaf P2 with
  | true =>
    rw [hf2, cond_true] at hW
    unfold wkLeaf at hW
    cases hm : v_pte_May P2 kind priv mst with
    | false => rw [hm] at hW; subst hW; simp [wkNo] at h0
    | true =>
    rw [hm, cond_true] at hW
    have e1 : W.lev = 2#64 := by rw [← hW]
    have e2 : W.at_ = A2 := by rw [← hW]
    have e3 : W.pte = v_pte_Mark P2 kind := by rw [← hW]
    have e4 : W.wr = !(v_pte_Mark P2 kind == P2) := by rw [← hW]
    rw [e1] at hv
    have q2 := wkD_rd hR (W := W) hP2 e2 e3 e4 hi2 hi2 A28 A28
    rw [if_pos rfl] at q2
    refine ⟨?_, by rw [← hW]; rfl, by rw [← hW]; simp [hi2, A28], by rw [← hW]; simp, by rw [e2, hP2]; exact e3, by rw [e2, hP2]; exact e4⟩
    rw [wk_bad_eq (show 30 ≤ 38 by decide) hv hb, cond_false]
    unfold wk2
    rw [wkAt_va (va := va) (va' := va') (s := 30) hv, hA2, hi2, q2, mark_right hf2 hr2, mark_leaf, hf2]
    simp only [cond_true]
    rw [← hW]
    exact wkLeaf_again (.inr (.inr rfl)) rfl hv hm
  | false =>
  rw [hf2, cond_false] at hW
  unfold wk1 at hW
  generalize hA1 : wkAt (P2 >>> 10) va 21 = A1 at hW
  have A18 : A1.toNat % 8 = 0 := by rw [← hA1]; exact wkAt_8 _ _ _
  cases hi1 : wkIn n A1 with
  | false => rw [hi1] at hW; subst hW; simp [wkNo] at h0
  | true =>
  rw [hi1, cond_true] at hW
  generalize hP1 : wkRd n d A1 = P1 at hW
  cases hr1 : v_pte_Right P1 1#64 with
  | false => rw [hr1] at hW; subst hW; simp [wkNo] at h0
  | true =>
  rw [hr1, cond_true] at hW
  cases hf1 : v_pte_Leaf P1 with
  | true =>
    rw [hf1, cond_true] at hW
    unfold wkLeaf at hW
    cases hm : v_pte_May P1 kind priv mst with
    | false => rw [hm] at hW; subst hW; simp [wkNo] at h0
    | true =>
    rw [hm, cond_true] at hW
    have e1 : W.lev = 1#64 := by rw [← hW]
    have e2 : W.at_ = A1 := by rw [← hW]
    have e3 : W.pte = v_pte_Mark P1 kind := by rw [← hW]
    have e4 : W.wr = !(v_pte_Mark P1 kind == P1) := by rw [← hW]
    rw [e1] at hv
    have hv30 : va'.toNat / 2 ^ 30 = va.toNat / 2 ^ 30 := div_more (show 12 + wkS 1#64 ≤ 30 by decide) hv
    have n2 : A2 ≠ A1 := by intro e; rw [e, hP1] at hP2; rw [hP2, hf2] at hf1; cases hf1
    have q1 := wkD_rd hR (W := W) hP1 e2 e3 e4 hi1 hi1 A18 A18
    rw [if_pos rfl] at q1
    have q2 := wkD_rd hR (W := W) hP1 e2 e3 e4 hi1 hi2 A18 A28
    rw [if_neg n2, hP2] at q2
    refine ⟨?_, by rw [← hW]; rfl, by rw [← hW]; simp [hi2, A28, hi1, A18], by rw [← hW]; simp, by rw [e2, hP1]; exact e3, by rw [e2, hP1]; exact e4⟩
    rw [wk_bad_eq (show 30 ≤ 38 by decide) hv30 hb, cond_false]
    unfold wk2
    rw [wkAt_va (va := va) (va' := va') (s := 30) hv30, hA2, hi2, q2, hr2, hf2]
    simp only [cond_true, cond_false]
    unfold wk1
    rw [wkAt_va (va := va) (va' := va') (s := 21) hv, hA1, hi1, q1, mark_right hf1 hr1, mark_leaf, hf1]
    simp only [cond_true]
    rw [← hW]
    exact wkLeaf_again (.inr (.inl rfl)) rfl hv hm
  | false =>
  rw [hf1, cond_false] at hW
  unfold wk0 at hW
  generalize hA0 : wkAt (P1 >>> 10) va 12 = A0 at hW
  have A08 : A0.toNat % 8 = 0 := by rw [← hA0]; exact wkAt_8 _ _ _
  cases hi0 : wkIn n A0 with
  | false => rw [hi0] at hW; subst hW; simp [wkNo] at h0
  | true =>
  rw [hi0, cond_true] at hW
  generalize hP0 : wkRd n d A0 = P0 at hW
  cases hr0 : v_pte_Right P0 0#64 with
  | false => rw [hr0] at hW; subst hW; simp [wkNo] at h0
  | true =>
  rw [hr0, cond_true] at hW
  cases hf0 : v_pte_Leaf P0 with
  | false => rw [hf0] at hW; subst hW; simp [wkNo] at h0
  | true =>
    rw [hf0, cond_true] at hW
    unfold wkLeaf at hW
    cases hm : v_pte_May P0 kind priv mst with
    | false => rw [hm] at hW; subst hW; simp [wkNo] at h0
    | true =>
    rw [hm, cond_true] at hW
    have e1 : W.lev = 0#64 := by rw [← hW]
    have e2 : W.at_ = A0 := by rw [← hW]
    have e3 : W.pte = v_pte_Mark P0 kind := by rw [← hW]
    have e4 : W.wr = !(v_pte_Mark P0 kind == P0) := by rw [← hW]
    rw [e1] at hv
    have hv30 : va'.toNat / 2 ^ 30 = va.toNat / 2 ^ 30 := div_more (show 12 + wkS 0#64 ≤ 30 by decide) hv
    have hv21 : va'.toNat / 2 ^ 21 = va.toNat / 2 ^ 21 := div_more (show 12 + wkS 0#64 ≤ 21 by decide) hv
    have n2 : A2 ≠ A0 := by intro e; rw [e, hP0] at hP2; rw [hP2, hf2] at hf0; cases hf0
    have n1 : A1 ≠ A0 := by intro e; rw [e, hP0] at hP1; rw [hP1, hf1] at hf0; cases hf0
    have q0 := wkD_rd hR (W := W) hP0 e2 e3 e4 hi0 hi0 A08 A08
    rw [if_pos rfl] at q0
    have q2 := wkD_rd hR (W := W) hP0 e2 e3 e4 hi0 hi2 A08 A28
    rw [if_neg n2, hP2] at q2
    have q1 := wkD_rd hR (W := W) hP0 e2 e3 e4 hi0 hi1 A08 A18
    rw [if_neg n1, hP1] at q1
    refine ⟨?_, by rw [← hW]; rfl, by rw [← hW]; simp [hi2, A28, hi1, A18, hi0, A08], by rw [← hW]; simp, by rw [e2, hP0]; exact e3, by rw [e2, hP0]; exact e4⟩
    rw [wk_bad_eq (show 30 ≤ 38 by decide) hv30 hb, cond_false]
    unfold wk2
    rw [wkAt_va (va := va) (va' := va') (s := 30) hv30, hA2, hi2, q2, hr2, hf2]
    simp only [cond_true, cond_false]
    unfold wk1
    rw [wkAt_va (va := va) (va' := va') (s := 21) hv21, hA1, hi1, q1, hr1, hf1]
    simp only [cond_true, cond_false]
    unfold wk0
    rw [wkAt_va (va := va) (va' := va') (s := 12) hv, hA0, hi0, q0, mark_right hf0 hr0, mark_leaf, hf0]
    simp only [cond_true]
    rw [← hW]
    exact wkLeaf_again (.inl rfl) rfl hv hm
end Go.Sx


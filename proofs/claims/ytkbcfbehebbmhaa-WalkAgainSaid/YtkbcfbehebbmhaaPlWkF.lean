/- Walks: what is found. -/
import Derived.Test.YtkbcfbehebbmhaaPlWkB
import Derived.Test.YtkbcfbehebbmhaaPlN
set_option linter.unusedSimpArgs false
set_option linter.unusedVariables false
set_option linter.unnecessarySimpa false
namespace Go.Sx
open Go
/-- The mask of a page's number, by the level. -/
def wkM (lev : BitVec 64) : BitVec 64 := if lev = 2#64 then 18446744073709289472#64 else if lev = 1#64 then 18446744073709551104#64 else 18446744073709551615#64
structure WkF (satp va kind priv mst : BitVec 64) (W : Wk) (p : BitVec 64) : Prop where
  good : wkBad va = false
  lev : W.lev = 0#64 ∨ W.lev = 1#64 ∨ W.lev = 2#64
  rt : v_pte_Right p W.lev = true
  lf : v_pte_Leaf p = true
  may : v_pte_May p kind priv mst = true
  asid : W.asid = BitVec.setWidth 64 (satp >>> 44 &&& 65535#64)
  page : W.page = va >>> 12 &&& wkM W.lev
  pte : W.pte = v_pte_Mark p kind
  wr : W.wr = !(v_pte_Mark p kind == p)
  some : v_wkE W = false
  zero : W.why = 0#64
theorem emp_app (A : List (BitVec 64)) (a : BitVec 64) : (A ++ [a]).isEmpty = false := by cases A <;> rfl
theorem wkLeaf_cases {satp va kind priv mst p lev mask a : BitVec 64} {A : List (BitVec 64)} (hb : wkBad va = false) (hl : lev = 0#64 ∨ lev = 1#64 ∨ lev = 2#64) (hm : mask = wkM lev) (hr : v_pte_Right p lev = true) (hf : v_pte_Leaf p = true) (hA : A.isEmpty = false) :
    (wkLeaf satp va kind priv mst p lev mask a A = wkNo A 1#64) ∨ WkF satp va kind priv mst (wkLeaf satp va kind priv mst p lev mask a A) p := by
  unfold wkLeaf
  cases h : v_pte_May p kind priv mst with
  | false => exact .inl rfl
  | true => exact .inr { good := hb, lev := hl, rt := hr, lf := hf, may := h, asid := rfl, page := by rw [hm]; rfl, pte := rfl, wr := rfl, some := hA, zero := rfl }
theorem wk_cases (n : Nat) (d : List (List AV)) (satp va kind priv mst : BitVec 64) :
    (∃ A, v_wk n d satp va kind priv mst = wkNo A 1#64) ∨ (∃ A, v_wk n d satp va kind priv mst = wkNo A 2#64) ∨ ∃ p, WkF satp va kind priv mst (v_wk n d satp va kind priv mst) p := by
  unfold v_wk
  cases hb : wkBad va with
  | true => exact .inl ⟨_, rfl⟩
  | false =>
  rw [cond_false]
  unfold wk2
  generalize wkAt satp va 30 = A2
  cases hi2 : wkIn n A2 with
  | false => exact .inr (.inl ⟨_, rfl⟩)
  | true =>
  rw [cond_true]
  generalize wkRd n d A2 = P2
  cases hr : v_pte_Right P2 2#64 with
  | false => exact .inl ⟨_, rfl⟩
  | true =>
  rw [cond_true]
  cases hf : v_pte_Leaf P2 with
  | true =>
    rw [cond_true]
    rcases wkLeaf_cases (satp := satp) (kind := kind) (priv := priv) (mst := mst) (mask := 18446744073709289472#64) (a := A2) (A := [A2]) hb (.inr (.inr rfl)) rfl hr hf rfl with h | h
    · exact .inl ⟨_, h⟩
    · exact .inr (.inr ⟨_, h⟩)
  | false =>
  rw [cond_false]
  unfold wk1
  generalize wkAt (P2 >>> 10) va 21 = A1
  cases hi1 : wkIn n A1 with
  | false => exact .inr (.inl ⟨_, rfl⟩)
  | true =>
  rw [cond_true]
  generalize wkRd n d A1 = P1
  cases hr1 : v_pte_Right P1 1#64 with
  | false => exact .inl ⟨_, rfl⟩
  | true =>
  rw [cond_true]
  cases hf1 : v_pte_Leaf P1 with
  | true =>
    rw [cond_true]
    rcases wkLeaf_cases (satp := satp) (kind := kind) (priv := priv) (mst := mst) (mask := 18446744073709551104#64) (a := A1) (A := [A2] ++ [A1]) hb (.inr (.inl rfl)) rfl hr1 hf1 rfl with h | h
    · exact .inl ⟨_, h⟩
    · exact .inr (.inr ⟨_, h⟩)
  | false =>
  rw [cond_false]
  unfold wk0
  generalize wkAt (P1 >>> 10) va 12 = A0
  cases hi0 : wkIn n A0 with
  | false => exact .inr (.inl ⟨_, rfl⟩)
  | true =>
  rw [cond_true]
  generalize wkRd n d A0 = P0
  cases hr0 : v_pte_Right P0 0#64 with
  | false => exact .inl ⟨_, rfl⟩
  | true =>
  rw [cond_true]
  cases hf0 : v_pte_Leaf P0 with
  | true =>
    rw [cond_true]
    rcases wkLeaf_cases (satp := satp) (kind := kind) (priv := priv) (mst := mst) (mask := 18446744073709551615#64) (a := A0) (A := [A2] ++ [A1] ++ [A0]) hb (.inl rfl) rfl hr0 hf0 rfl with h | h
    · exact .inl ⟨_, h⟩
    · exact .inr (.inr ⟨_, h⟩)
  | false => exact .inl ⟨_, rfl⟩
/-! ### bits -/
theorem mod2 (x : BitVec 64) : (x % 2#64 == 1#64) = x.getLsbD 0 := by
  have h : x.getLsbD 0 = decide (x.toNat % 2 = 1) := by unfold BitVec.getLsbD; rw [Nat.testBit_zero]
  rw [h, Bool.eq_iff_iff, beq_iff_eq, decide_eq_true_eq]
  constructor
  · intro e; have := congrArg BitVec.toNat e; rw [BitVec.toNat_umod] at this; exact this
  · intro e; apply BitVec.eq_of_toNat_eq; rw [BitVec.toNat_umod]; exact e
theorem mod2s (x : BitVec 64) (k : Nat) : (x >>> k % 2#64 == 1#64) = x.getLsbD k := by
  rw [mod2, BitVec.getLsbD_ushiftRight]; simp
theorem has_bit {p : BitVec 64} (h : v_pte_entry_has p 1#64 = true) : p.getLsbD 0 = true := by
  unfold v_pte_entry_has at h
  rw [Bool.not_eq_true', beq_eq_false_iff_ne] at h
  cases hp : p.getLsbD 0 with
  | true => rfl
  | false =>
    exfalso; apply h
    apply BitVec.eq_of_getLsbD_eq
    intro i hi
    rw [BitVec.getLsbD_and, BitVec.getLsbD_one]
    by_cases e : i = 0
    · subst e; rw [hp]; simp
    · simp [e]
theorem right_has {p lev : BitVec 64} (h : v_pte_Right p lev = true) : v_pte_entry_has p 1#64 = true := by
  cases hh : v_pte_entry_has p 1#64 with
  | true => rfl
  | false =>
    exfalso
    unfold v_pte_Right at h
    rw [hh] at h
    cases lev.slt 0#64 <;> cases (2#64).slt lev <;> simp at h
theorem leaf14 {p c : BitVec 64} (h : v_pte_Leaf p = true) : (!((p ||| c) &&& 14#64 == 0#64)) = true := by
  unfold v_pte_Leaf v_pte_entry_leaf v_pte_entry_has at h
  rw [Bool.not_eq_true', beq_eq_false_iff_ne] at h ⊢
  intro e
  apply h
  have : p &&& 10#64 = ((p ||| c) &&& 14#64) &&& (p &&& 10#64) := by
    apply BitVec.eq_of_getLsbD_eq
    intro i hi
    have e10 : (10#64).getLsbD i = ((14#64).getLsbD i && (10#64).getLsbD i) := by
      rw [← BitVec.getLsbD_and]; rfl
    simp only [BitVec.getLsbD_and, BitVec.getLsbD_or]
    rw [e10]
    cases p.getLsbD i <;> cases (14#64).getLsbD i <;> cases (10#64).getLsbD i <;> simp
  rw [this, e]
  simp
theorem mark_bits (p kind : BitVec 64) : (v_pte_Mark p kind).getLsbD 6 = true ∧ (kind = 3#64 → (v_pte_Mark p kind).getLsbD 7 = true) ∧ (p.getLsbD 0 = true → (v_pte_Mark p kind).getLsbD 0 = true) ∧ (v_pte_Leaf p = true → (!(v_pte_Mark p kind &&& 14#64 == 0#64)) = true) := by
  unfold v_pte_Mark
  cases h : (kind == 3#64) with
  | true =>
    simp only [cond_true]
    refine ⟨?_, fun _ => ?_, fun h => ?_, fun h => ?_⟩
    · simp only [BitVec.getLsbD_or]; rw [show (64#64).getLsbD 6 = true by decide]; simp
    · simp only [BitVec.getLsbD_or]; rw [show (128#64).getLsbD 7 = true by decide]; simp
    · simp only [BitVec.getLsbD_or, h, Bool.true_or]
    · rw [BitVec.or_assoc]; exact leaf14 h
  | false =>
    simp only [cond_false]
    refine ⟨?_, fun e => ?_, fun h => ?_, fun h => leaf14 h⟩
    · simp only [BitVec.getLsbD_or]; rw [show (64#64).getLsbD 6 = true by decide]; simp
    · rw [e] at h; exact absurd h (by decide)
    · simp only [BitVec.getLsbD_or, h, Bool.true_or]
/-! ### addresses -/
theorem wk_high {va : BitVec 64} (h : wkBad va = false) : va.toNat < 2 ^ 38 ∨ 2 ^ 64 - 2 ^ 38 ≤ va.toNat := by
  unfold wkBad at h
  rw [Bool.not_eq_false', beq_iff_eq, BitVec.setWidth_eq] at h
  have h1 := congrArg BitVec.toInt h
  rw [BitVec.toInt_sshiftRight, Int.shiftRight_eq_div_pow] at h1
  have h2 := BitVec.toInt_lt (x := va <<< 25)
  have h3 := BitVec.le_toInt (x := va <<< 25)
  have h4 : va.toInt < 2 ^ 38 ∧ -2 ^ 38 ≤ va.toInt := by
    rw [← h1]
    generalize (va <<< 25).toInt = z at h2 h3
    have e1 : (2 : Int) ^ (64 - 1) = 9223372036854775808 := rfl
    have e2 : ((2 ^ 25 : Nat) : Int) = 33554432 := rfl
    have e3 : (2 : Int) ^ 38 = 274877906944 := rfl
    rw [e1] at h2 h3
    rw [e2, e3]
    omega
  have h5 := BitVec.toInt_eq_toNat_cond (x := va)
  have := va.isLt
  have e3 : (2 : Int) ^ 38 = 274877906944 := rfl
  have e4 : ((2 ^ 64 : Nat) : Int) = 18446744073709551616 := rfl
  rw [h5, e3] at h4
  split at h4
  · omega
  · rw [e4] at h4; omega
theorem up_high {va : BitVec 64} (h : wkBad va = false) : (!va >>> 38 == 0#64) = false ∨ (!va >>> 38 == 67108863#64) = false := by
  have := va.isLt
  rcases wk_high h with h | h
  · left
    rw [Bool.not_eq_false', beq_iff_eq]
    apply BitVec.eq_of_toNat_eq
    rw [BitVec.toNat_ushiftRight, Nat.shiftRight_eq_div_pow]
    show va.toNat / 2 ^ 38 = 0
    omega
  · right
    rw [Bool.not_eq_false', beq_iff_eq]
    apply BitVec.eq_of_toNat_eq
    rw [BitVec.toNat_ushiftRight, Nat.shiftRight_eq_div_pow]
    show va.toNat / 2 ^ 38 = 67108863
    omega
theorem mask_bits (m : BitVec 64) (k : Nat) (hm : ∀ i : Fin 64, m.getLsbD i.val = decide (k ≤ i.val)) (x : BitVec 64) : (x &&& m).toNat = x.toNat / 2 ^ k * 2 ^ k := by
  have e : x &&& m = (x >>> k) <<< k := by
    apply BitVec.eq_of_getLsbD_eq
    intro i hi
    rw [BitVec.getLsbD_and, hm ⟨i, hi⟩, BitVec.getLsbD_shiftLeft, BitVec.getLsbD_ushiftRight]
    by_cases h : k ≤ i
    · have hn : ¬ i < k := by omega
      have e : k + (i - k) = i := by omega
      simp [h, hi, hn, e]
    · have hn : i < k := by omega
      simp [h, hn]
  rw [e, BitVec.toNat_shiftLeft, BitVec.toNat_ushiftRight, Nat.shiftLeft_eq, Nat.shiftRight_eq_div_pow]
  have h1 : x.toNat / 2 ^ k * 2 ^ k ≤ x.toNat := Nat.div_mul_le_self _ _
  exact Nat.mod_eq_of_lt (by have := x.isLt; omega)
/-- How far a level's pages reach. -/
def wkS (lev : BitVec 64) : Nat := 9 * lev.toNat
theorem wk_page {lev : BitVec 64} (hl : lev = 0#64 ∨ lev = 1#64 ∨ lev = 2#64) (va : BitVec 64) : (va >>> 12 &&& wkM lev).toNat = va.toNat / 2 ^ 12 / 2 ^ wkS lev * 2 ^ wkS lev := by
  have e : (va >>> 12).toNat = va.toNat / 2 ^ 12 := by rw [BitVec.toNat_ushiftRight, Nat.shiftRight_eq_div_pow]
  rw [← e]
  rcases hl with rfl | rfl | rfl
  · exact mask_bits _ 0 (by decide) _
  · exact mask_bits _ 9 (by decide) _
  · exact mask_bits _ 18 (by decide) _
theorem wk_base {lev : BitVec 64} (hl : lev = 0#64 ∨ lev = 1#64 ∨ lev = 2#64) (va : BitVec 64) : ((va >>> 12 &&& wkM lev) <<< 12).toNat = va.toNat / 2 ^ (12 + wkS lev) * 2 ^ (12 + wkS lev) := by
  rw [BitVec.toNat_shiftLeft, wk_page hl, Nat.shiftLeft_eq, Nat.div_div_eq_div_mul, ← Nat.pow_add, Nat.mul_assoc, ← Nat.pow_add, Nat.add_comm (wkS lev) 12]
  have h1 : va.toNat / 2 ^ (12 + wkS lev) * 2 ^ (12 + wkS lev) ≤ va.toNat := Nat.div_mul_le_self _ _
  exact Nat.mod_eq_of_lt (by have := va.isLt; omega)
theorem asid_eq (satp : BitVec 64) : BitVec.setWidth 64 (satp >>> 44 &&& 65535#64) = BitVec.setWidth 64 (satp >>> 44 % 65536#64) := by
  congr 1
  apply BitVec.eq_of_toNat_eq
  rw [BitVec.toNat_and, BitVec.toNat_umod, show (65535#64).toNat = 2 ^ 16 - 1 from rfl, show (65536#64).toNat = 2 ^ 16 from rfl, Nat.and_two_pow_sub_one_eq_mod]
end Go.Sx

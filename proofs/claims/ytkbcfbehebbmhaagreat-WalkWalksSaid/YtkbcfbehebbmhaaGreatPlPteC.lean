/- Several texts in one. -/
import Derived.Test.YtkbcfbehebbmhaaGreatVa21
import Derived.Test.YtkbcfbehebbmhaaGreatVa21z
import Derived.Test.YtkbcfbehebbmhaaGreatPlRamR
set_option linter.unusedSimpArgs false
set_option linter.unusedVariables false
set_option linter.unnecessarySimpa false
/- Entries of page tables: the document's bits and the program's. -/
namespace Go.Sx
open Go
theorem xmod2 (x : BitVec 64) : (x % 2#64 == 1#64) = x.getLsbD 0 := by
  have h : x.getLsbD 0 = decide (x.toNat % 2 = 1) := by unfold BitVec.getLsbD; rw [Nat.testBit_zero]
  rw [h, Bool.eq_iff_iff, beq_iff_eq, decide_eq_true_eq]
  constructor
  · intro e; have := congrArg BitVec.toNat e; rw [BitVec.toNat_umod] at this; exact this
  · intro e; apply BitVec.eq_of_toNat_eq; rw [BitVec.toNat_umod]; exact e
theorem xbit (p n : BitVec 64) (k : Nat) (h : min (BitVec.signExtend 64 n).toNat 64 = k) : v_r20_bit p n = p.getLsbD k := by
  unfold v_r20_bit
  rw [h, xmod2, BitVec.getLsbD_ushiftRight]; simp
theorem hasb (p m : BitVec 64) (k : Nat) (hk : k < 64) (h : m = 1#64 <<< min k 64) : v_pte_entry_has p m = p.getLsbD k := by
  unfold v_pte_entry_has
  rw [h, bit64 p k hk]
theorem has_or (p a b : BitVec 64) : v_pte_entry_has p (a ||| b) = (v_pte_entry_has p a || v_pte_entry_has p b) := by
  unfold v_pte_entry_has
  have e : p &&& (a ||| b) = (p &&& a) ||| (p &&& b) := by
    apply BitVec.eq_of_getLsbD_eq
    intro i hi
    simp only [BitVec.getLsbD_and, BitVec.getLsbD_or]
    cases p.getLsbD i <;> simp
  rw [e, Bool.eq_iff_iff]
  simp only [Bool.not_eq_true', beq_eq_false_iff_ne, Bool.or_eq_true, ne_eq, BitVec.or_eq_zero_iff]
  constructor
  · intro h
    by_cases q : p &&& a = 0#64
    · right; intro q2; exact h ⟨q, q2⟩
    · left; exact q
  · rintro (h | h) ⟨q1, q2⟩
    · exact h q1
    · exact h q2
theorem has_top (p : BitVec 64) : v_pte_entry_has p 13835058055282163920#64 = (p.getLsbD 6 || (p.getLsbD 7 || (p.getLsbD 4 || (p.getLsbD 62 || p.getLsbD 63)))) := by
  rw [show 13835058055282163920#64 = 64#64 ||| (128#64 ||| (16#64 ||| (4611686018427387904#64 ||| 9223372036854775808#64))) by decide, has_or, has_or, has_or, has_or,
    hasb p 64#64 6 (by decide) (by decide), hasb p 128#64 7 (by decide) (by decide), hasb p 16#64 4 (by decide) (by decide), hasb p 4611686018427387904#64 62 (by decide) (by decide), hasb p 9223372036854775808#64 63 (by decide) (by decide)]
theorem has_res (p : BitVec 64) : v_pte_entry_has p 4593671619917905920#64 = !(p / 18014398509481984#64 % 256#64 == 0#64) := by
  have e : p / 18014398509481984#64 % 256#64 = p >>> 54 &&& 255#64 := by
    apply BitVec.eq_of_toNat_eq
    rw [BitVec.toNat_umod, BitVec.toNat_udiv, BitVec.toNat_and, BitVec.toNat_ushiftRight, Nat.shiftRight_eq_div_pow, show (255#64).toNat = 2 ^ 8 - 1 from rfl, Nat.and_two_pow_sub_one_eq_mod]; rfl
  unfold v_pte_entry_has
  rw [e]
  congr 1
  rw [Bool.eq_iff_iff, beq_iff_eq, beq_iff_eq]
  have h1 : p >>> 54 &&& 255#64 = (p &&& 4593671619917905920#64) >>> 54 := by
    apply BitVec.eq_of_getLsbD_eq
    intro i hi
    simp only [BitVec.getLsbD_and, BitVec.getLsbD_ushiftRight]
    have : ∀ i : Fin 64, (255#64).getLsbD i.val = (4593671619917905920#64).getLsbD (54 + i.val) := by decide
    rw [this ⟨i, hi⟩]
  constructor
  · intro h; rw [h1, h]; decide
  · intro h
    apply BitVec.eq_of_getLsbD_eq
    intro i hi
    rw [h1] at h
    by_cases q : 54 ≤ i
    · have := congrArg (fun x => BitVec.getLsbD x (i - 54)) h
      simp only [BitVec.getLsbD_ushiftRight, BitVec.getLsbD_zero] at this
      rw [show 54 + (i - 54) = i by omega] at this
      rw [this]; simp
    · have : ∀ i : Fin 54, (4593671619917905920#64).getLsbD i.val = false := by decide
      rw [BitVec.getLsbD_and, this ⟨i, by omega⟩]; simp
theorem page_eq (p : BitVec 64) : v_r20_Page p = v_pte_entry_page p := by
  unfold v_r20_Page v_pte_entry_page
  apply BitVec.eq_of_toNat_eq
  rw [BitVec.toNat_umod, BitVec.toNat_udiv, BitVec.toNat_and, BitVec.toNat_ushiftRight, Nat.shiftRight_eq_div_pow, show (17592186044415#64).toNat = 2 ^ 44 - 1 from rfl, Nat.and_two_pow_sub_one_eq_mod]; rfl
theorem leaf_eq (p : BitVec 64) : v_r20_Leaf p = v_pte_Leaf p := by
  unfold v_r20_Leaf v_pte_Leaf v_pte_entry_leaf
  rw [show (10#64 : BitVec 64) = 2#64 ||| 8#64 by decide, has_or, hasb p 2#64 1 (by decide) (by decide), hasb p 8#64 3 (by decide) (by decide), xbit p 1#64 1 (by decide), xbit p 3#64 3 (by decide)]
  cases p.getLsbD 1 <;> rfl
theorem page_lt (p : BitVec 64) : (v_pte_entry_page p).toNat < 2 ^ 44 := by
  unfold v_pte_entry_page
  rw [BitVec.toNat_and, show (17592186044415#64).toNat = 2 ^ 44 - 1 from rfl, Nat.and_two_pow_sub_one_eq_mod]
  exact Nat.mod_lt _ (by decide)
theorem page_al (p : BitVec 64) (s : Nat) (c m : BitVec 64) (hs : s ≤ 40) (hc : c.toNat = 4096 * 2 ^ s) (hm : m.toNat = 2 ^ s - 1) : (v_pte_entry_page p * 4096#64 % c == 0#64) = (v_pte_entry_page p &&& m == 0#64) := by
  have hlt := page_lt p
  generalize v_pte_entry_page p = q at hlt
  rw [Bool.eq_iff_iff, beq_iff_eq, beq_iff_eq]
  have e1 : (q * 4096#64 % c).toNat = 4096 * (q.toNat % 2 ^ s) := by
    rw [BitVec.toNat_umod, BitVec.toNat_mul, show (4096#64).toNat = 4096 from rfl, hc, Nat.mod_eq_of_lt (a := q.toNat * 4096) (by omega), Nat.mul_comm, Nat.mul_mod_mul_left]
  have e2 : (q &&& m).toNat = q.toNat % 2 ^ s := by
    rw [BitVec.toNat_and, hm, Nat.and_two_pow_sub_one_eq_mod]
  constructor
  · intro h
    apply BitVec.eq_of_toNat_eq
    have := congrArg BitVec.toNat h
    rw [e1] at this
    rw [e2]
    rw [show (0#64).toNat = 0 from rfl] at this ⊢
    omega
  · intro h
    apply BitVec.eq_of_toNat_eq
    have := congrArg BitVec.toNat h
    rw [e2] at this
    rw [e1]
    rw [show (0#64).toNat = 0 from rfl] at this ⊢
    omega
end Go.Sx

/- Entries of page tables: what may be, and what is marked, by the document and by the program. -/
namespace Go.Sx
open Go
theorem mstb (m c : BitVec 64) (k : Nat) (hk : k < 64) (h : c = 1#64 <<< min k 64) : (!m &&& c == 0#64) = m.getLsbD k := by rw [h, bit64 m k hk]
theorem may_eq (p kind priv mst : BitVec 64) : v_r20_May p kind priv mst = v_pte_May p kind priv mst := by
  unfold v_r20_May v_pte_May v_pte_entry_whose
  rw [hasb p 16#64 4 (by decide) (by decide), hasb p 8#64 3 (by decide) (by decide), hasb p 2#64 1 (by decide) (by decide), hasb p 4#64 2 (by decide) (by decide), mstb mst 262144#64 18 (by decide) (by decide), mstb mst 524288#64 19 (by decide) (by decide)]
  simp only [xbit p 4#64 4 (by decide), xbit p 3#64 3 (by decide), xbit p 1#64 1 (by decide), xbit p 2#64 2 (by decide), xbit mst 18#64 18 (by decide), xbit mst 19#64 19 (by decide)]
  generalize p.getLsbD 1 = b1
  generalize p.getLsbD 2 = b2
  generalize p.getLsbD 3 = b3
  generalize p.getLsbD 4 = b4
  generalize mst.getLsbD 18 = m18
  generalize mst.getLsbD 19 = m19
  generalize (priv == 0#64) = q
  generalize (kind == 1#64) = k1
  generalize (kind == 2#64) = k2
  generalize (kind == 3#64) = k3
  cases q <;> cases b4 <;> cases k1 <;> cases k2 <;> cases k3 <;> cases m18 <;> cases m19 <;> cases b1 <;> rfl
theorem or_add (p c : BitVec 64) (k : Nat) (hk : k < 64) (h : c = 1#64 <<< min k 64) (hb : p.getLsbD k = false) : p + c = p ||| c := by
  apply BitVec.add_eq_or_of_and_eq_zero
  have := mstb p c k hk h
  rw [hb, Bool.not_eq_false', beq_iff_eq] at this
  exact this
theorem or_same (p c : BitVec 64) (k : Nat) (hk : k < 64) (h : c = 1#64 <<< min k 64) (hb : p.getLsbD k = true) : p ||| c = p := by
  apply BitVec.eq_of_getLsbD_eq
  intro i hi
  rw [BitVec.getLsbD_or, h, one_bit i k hi hk]
  by_cases e : i = k
  · subst e; rw [hb]; rfl
  · rw [decide_eq_false e, Bool.or_false]
theorem or_bit (p : BitVec 64) : (p ||| 64#64).getLsbD 7 = p.getLsbD 7 := by
  rw [BitVec.getLsbD_or, show (64#64).getLsbD 7 = false by decide, Bool.or_false]
theorem mark_eq (p kind : BitVec 64) : v_r20_Mark p kind = v_pte_Mark p kind := by
  unfold v_r20_Mark v_pte_Mark
  have h6 : p ||| 64#64 = cond (!p.getLsbD 6) (p + 64#64) p := by
    cases h : p.getLsbD 6 with
    | false => exact (or_add p 64#64 6 (by decide) (by decide) h).symm
    | true => exact or_same p 64#64 6 (by decide) (by decide) h
  have h7 : ∀ q : BitVec 64, q ||| 128#64 = cond (!q.getLsbD 7) (q + 128#64) q := by
    intro q
    cases h : q.getLsbD 7 with
    | false => exact (or_add q 128#64 7 (by decide) (by decide) h).symm
    | true => exact or_same q 128#64 7 (by decide) (by decide) h
  rw [h7, or_bit, h6, xbit p 6#64 6 (by decide), xbit p 7#64 7 (by decide), xbit (p + 64#64) 7#64 7 (by decide)]
  cases hb : p.getLsbD 6 with
  | true => cases (kind == 3#64) <;> cases p.getLsbD 7 <;> rfl
  | false =>
    have e : (p + 64#64).getLsbD 7 = p.getLsbD 7 := by rw [or_add p 64#64 6 (by decide) (by decide) hb, or_bit]
    rw [e]
    cases (kind == 3#64) <;> cases p.getLsbD 7 <;> rfl
end Go.Sx


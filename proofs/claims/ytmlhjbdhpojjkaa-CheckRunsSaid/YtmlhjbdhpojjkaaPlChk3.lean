/- What permits: the program's answers are the document's. -/
import Derived.Test.YtmlhjbdhpojjkaaPlOf2
import Derived.Test.YtmlhjbdhpojjkaaPlChk
set_option linter.unusedSimpArgs false
set_option linter.unusedVariables false
set_option linter.unnecessarySimpa false
namespace Go.Sx
open Go
theorem even_eq (x : BitVec 64) : x &&& 18446744073709551614#64 = x >>> 1 <<< 1 := by
  apply BitVec.eq_of_getLsbD_eq
  intro i hi
  have hm : ∀ j : Fin 64, (18446744073709551614#64).getLsbD j.val = !decide (j.val < 1) := by decide
  rw [BitVec.getLsbD_and, hm ⟨i, hi⟩, BitVec.getLsbD_shiftLeft, BitVec.getLsbD_ushiftRight]
  by_cases h3 : i < 1
  · simp [h3]
  · simp [h3, hi, show 1 + (i - 1) = i by omega]
theorem refused_eq (b w : BitVec 64) : v_r23_Refused b w = v_check_Refused b w := by
  unfold v_r23_Refused v_check_Refused
  have : 32#64 * b = b <<< 5 := by
    apply BitVec.eq_of_toNat_eq
    rw [BitVec.toNat_mul, BitVec.toNat_shiftLeft, Nat.shiftLeft_eq, show (32#64).toNat = 32 from rfl]; omega
  simp only [BitVec.signExtend_eq, this]
theorem rtopN (r : Rg) : (v_r03_top r).val = r.end' := by
  have h : v_r03_top r = v_bounds_top r := by
    unfold v_r03_top v_bounds_top
    rw [one_truth]
  rw [h, topN]
theorem notAboveN (a b : W2) : v_r03_notAbove a b = decide (a.val ≤ b.val) := by
  have h1 := a.lo.isLt
  have h2 := b.lo.isLt
  unfold v_r03_notAbove W2.val
  simp only [ultN, uleN, beqN]
  rw [Bool.eq_iff_iff]
  by_cases h : a.hi.toNat < b.hi.toNat
  · rw [decide_eq_true h, cond_true]; simp; omega
  · rw [decide_eq_false h, cond_false]
    by_cases h' : a.hi.toNat = b.hi.toNat
    · rw [decide_eq_true h', cond_true]; simp; omega
    · rw [decide_eq_false h', cond_false]; simp; omega
theorem endSum (x n : BitVec 64) : W2.val ⟨v_bounds_truth ((x + n).ult x), x + n⟩ = x.toNat + n.toNat := by
  have h1 := x.isLt
  have h2 := n.isLt
  unfold W2.val
  simp only [truthN, ultN, BitVec.toNat_add]
  by_cases h : (x.toNat + n.toNat) % 2 ^ 64 < x.toNat
  · rw [decide_eq_true h, cond_true]; omega
  · rw [decide_eq_false h, cond_false]; omega
theorem in_eq (r : Rg) (a n : BitVec 64) : v_r03_In r a n = v_bounds_In r a n := by
  have h1 := n.isLt
  unfold v_r03_In
  rw [inN, one_truth, BitVec.signExtend_eq, BitVec.signExtend_eq, notAboveN, rtopN, endSum, ultN, sltR _ _ (by decide)]
  simp only [show (0#64).toNat = 0 from rfl]
  rw [Bool.eq_iff_iff]
  by_cases h : n.toNat < 9223372036854775808
  · rw [decide_eq_false (by omega), cond_false]
    by_cases h' : a.toNat < r.base.toNat
    · rw [decide_eq_true h', cond_true]; simp; omega
    · rw [decide_eq_false h', cond_false]; simp; omega
  · rw [decide_eq_true (by omega), cond_true]; simp; omega
theorem data_eq {c : Cp} (ho : v_bounds_Of c = v_r03_Of c) (by' a n : BitVec 64) (l s : Bool) : v_check_Data c by' a n l s = v_r23_Data c by' a n l s := by
  unfold v_check_Data v_r23_Data v_check_outside
  simp only [refused_eq, in_eq, ← ho]
  generalize v_bounds_In (v_bounds_Of c) a n = i
  generalize (c.per &&& 4#64 == 0#64) = p4
  generalize (c.per &&& 8#64 == 0#64) = p8
  generalize (c.ty == 262143#64) = y
  generalize c.tag = t
  cases t <;> cases y <;> cases l <;> cases s <;> cases p4 <;> cases p8 <;> cases i <;> simp only [cond_true, cond_false, Bool.not_true, Bool.not_false]
theorem runs_eq {c : Cp} (ho : v_bounds_Of c = v_r03_Of c) (by' a n : BitVec 64) (s : Bool) : v_r23_runs c by' a n s = cond (!c.tag) (v_check_Refused by' 2#64) (cond s (v_check_Refused by' 3#64) (cond (c.per &&& 2#64 == 0#64) (v_check_Refused by' 17#64) (cond (!v_bounds_In (v_bounds_Of c) a n) (v_check_Refused by' 1#64) ⟨false, 0#64, 0#64⟩))) := by
  unfold v_r23_runs
  simp only [refused_eq, in_eq, ← ho]
theorem fetch_eq {c : Cp} (ho : v_bounds_Of c = v_r03_Of c) (n : BitVec 64) : v_check_Fetch c n = v_r23_Fetch c n := by
  unfold v_check_Fetch v_r23_Fetch v_check_outside v_check_lacks
  simp only [runs_eq ho]
theorem jump_eq {c : Cp} (ho : v_bounds_Of c = v_r03_Of c) (b n : BitVec 64) : v_check_Jump c b n = v_r23_Jump c b n := by
  unfold v_check_Jump v_r23_Jump v_check_outside v_check_lacks
  simp only [runs_eq ho, even_eq]
  generalize v_bounds_In (v_bounds_Of c) ((c.ad + BitVec.signExtend 64 n) >>> 1 <<< 1) 2#64 = i
  generalize (c.per &&& 2#64 == 0#64) = p2
  generalize (c.ty == 262143#64) = y
  generalize (c.ty == 262142#64) = z
  generalize (n == 0#64) = o
  generalize c.tag = t
  cases t <;> cases y <;> cases z <;> cases o <;> cases p2 <;> cases i <;> simp only [cond_true, cond_false, Bool.not_true, Bool.not_false]
theorem keep_eq (c v : Cp) (b : BitVec 64) : v_check_Keep c b v = v_r23_Keep c b v := by
  unfold v_check_Keep v_r23_Keep v_check_lacks
  simp only [refused_eq]
  generalize (c.per &&& 32#64 == 0#64) = p1
  generalize (c.per &&& 64#64 == 0#64) = p2
  generalize (v.per &&& 1#64 == 0#64) = p3
  generalize v.tag = t
  cases t <;> cases p1 <;> cases p2 <;> cases p3 <;> simp only [cond_true, cond_false, Bool.not_true, Bool.not_false]
theorem of_right (c : Cp) : v_bounds_Of (v_l05_Right c) = v_r03_Of (v_l05_Right c) := of_eq (right_ok c).e (right_ok c).b (right_ok c).t
theorem chkdata (c : Cp) (xby xat n : BitVec 64) (load store : Bool) : t_l23_CheckData c xby xat n load store = some (.bool true) := by
  have hr := right_e c
  have ho := of_right c
  unfold t_l23_CheckData
  generalize v_l05_Right c = r at *
  simp only [g_data_ok hr, data_eq ho, refused_eq, cond_true, beq_self_eq_true, Bool.and_self]
theorem chkruns (c v : Cp) (xby off n : BitVec 64) : t_l23_CheckRuns c v xby off n = some (.bool true) := by
  have hr := right_e c
  have ho := of_right c
  unfold t_l23_CheckRuns
  generalize v_l05_Right c = r at *
  simp only [g_fetch_ok hr, g_jump_ok hr, fetch_eq ho, jump_eq ho, keep_eq, cond_true, beq_self_eq_true, Bool.and_self]
end Go.Sx

/- What is made of capabilities: the program's answers are the document's (one; what is asked). -/
import Derived.Test.YtgmemioomkbofaaPlCap4
import Derived.Test.YtgmemioomkbofaaPlLay4
set_option linter.unusedSimpArgs false
set_option linter.unusedVariables false
set_option linter.unnecessarySimpa false
namespace Go.Sx
open Go
set_option maxHeartbeats 1000000
theorem mant_lt (f t : W2) (e : BitVec 64) : (v_bounds_mantissas f t e).1.toNat < 2048 := by
  unfold v_bounds_mantissas
  simp only [BitVec.setWidth_eq, and2047]
  exact Nat.mod_lt _ (by decide)
theorem shl3_lt (x : BitVec 64) (h : x.toNat < 2048) : (x <<< 3).toNat < 16384 := by
  rw [BitVec.toNat_shiftLeft, Nat.shiftLeft_eq]; omega
theorem lay_b (c : Cp) (n : BitVec 64) : (v_bounds_Lay c n).1.b.toNat < 16384 := by
  have h1 := fun f t e => shl3_lt _ (mant_lt f t e)
  have h2 : (BitVec.setWidth 64 (c.ad &&& 16383#64)).toNat < 16384 := by rw [BitVec.setWidth_eq, and16383]; exact Nat.mod_lt _ (by decide)
  unfold v_bounds_Lay
  (repeat' (rw [Bool.cond_eq_ite]; split)) <;> first | exact h1 _ _ _ | exact h2
theorem lay_t (c : Cp) (n : BitVec 64) : (v_bounds_Lay c n).1.t.toNat < 4096 := by
  have h1 : ∀ x : BitVec 64, (x &&& 4095#64).toNat < 4096 := fun x => by rw [and4095]; exact Nat.mod_lt _ (by decide)
  have h2 : ∀ x : BitVec 64, (BitVec.setWidth 64 (x &&& 4095#64)).toNat < 4096 := fun x => by rw [BitVec.setWidth_eq]; exact h1 x
  unfold v_bounds_Lay
  (repeat' (rw [Bool.cond_eq_ite]; split)) <;> first | exact h1 _ | exact h2 _
theorem inpl_lay (c : Cp) (n : BitVec 64) : InPl (v_bounds_Lay c n).1 := ⟨lay_e c n, lay_b c n, lay_t c n⟩
theorem ult_swap (a n : BitVec 64) : (a + n).ult n = (a + n).ult a := by
  have h1 := a.isLt
  have h2 := n.isLt
  rw [ultN, ultN, BitVec.toNat_add, Bool.eq_iff_iff]
  simp only [decide_eq_true_eq]
  omega
theorem bound_eq {c : Cp} (h : InPl c) (n : BitVec 64) (ex : Bool) : v_r05_Bound c n ex = v_capops_Bound c n ex := by
  obtain ⟨k1, k2, k3, k4, k5⟩ := lay_keeps c n
  unfold v_r05_Bound v_capops_Bound
  simp only [lay_eq, (inpl_lay c n).of, h.of, within_eq, ult_swap c.ad n, rsealed, sealed_of, with_of, keep_of, Bool.not_not, k1]
  generalize ((v_bounds_Of (v_bounds_Lay c n).fst).base == c.ad && ((v_bounds_Of (v_bounds_Lay c n).fst).top == c.ad + n && ((v_bounds_Of (v_bounds_Lay c n).fst).over == (c.ad + n).ult c.ad && true))) = q
  generalize v_bounds_Within { base := c.ad, top := c.ad + n, over := (c.ad + n).ult c.ad } (v_bounds_Of (v_bounds_Lay c n).fst) = w1
  generalize v_bounds_Within (v_bounds_Of (v_bounds_Lay c n).fst) (v_bounds_Of c) = w2
  generalize v_bounds_Lay c n = L at *
  obtain ⟨L1, L2⟩ := L
  cases c.tag <;> cases (c.ty == 262143#64) <;> cases q <;> cases w1 <;> cases w2 <;> cases ex <;>
    simp only [cond_true, cond_false, Bool.not_true, Bool.not_false, Bool.true_and, Bool.and_true, Bool.false_and, Bool.and_false, Bool.or_true, Bool.true_or, Bool.or_false, Bool.false_or, k1]
theorem rless_eq (c : Cp) (k : BitVec 64) : v_r05_Less c k = v_capops_Less c k := by
  rw [less_of]
  unfold v_r05_Less
  simp only [rsealed, with_of, Bool.not_not]
  cases c with | mk tag per ty mo e b t big ad => cases tag <;> rfl
theorem rmode_eq (c : Cp) (k : BitVec 64) : v_r05_Mode c k = v_capops_Mode c k := by
  rw [mode_of]
  unfold v_r05_Mode
  simp only [rsealed, with_of, Bool.not_not]
  cases c with | mk tag per ty mo e b t big ad => cases tag <;> rfl
theorem rsentry_eq (c : Cp) : v_r05_Sentry c = v_capops_Sentry c := by
  rw [sentry_val]
  unfold v_r05_Sentry canSentry
  simp only [rsealed, with_of, Bool.not_not]
  cases c with | mk tag per ty mo e b t big ad =>
  simp only
  cases tag <;> cases (ty == 262143#64) <;> cases (per &&& 2#64 == 0#64) <;> rfl
theorem rfrom_eq {c : Cp} (h : InPl c) (n : BitVec 64) : v_r05_From c n = v_capops_From c n := by
  unfold v_r05_From v_capops_From
  rw [move_eq h, h.of]
theorem rlen_eq (r : Rg) : v_r03_Len r = v_bounds_Len r := by
  unfold v_r03_Len v_bounds_Len
  rw [notAboveN', aboveN, rtopN', topN]
  have : (!decide (W2.val { hi := 0#64, lo := r.base } < r.end')) = decide (r.end' ≤ W2.val { hi := 0#64, lo := r.base }) := by
    rw [Bool.eq_iff_iff]; simp
  rw [this]
theorem rmask_eq (n : BitVec 64) : v_r03_Mask n = v_bounds_Mask n := by
  unfold v_r03_Mask v_bounds_Mask
  simp only [lay_eq, BitVec.signExtend_eq]
  generalize v_bounds_Lay _ n = x
  cases x.1.big <;> rfl
theorem rround_eq (n : BitVec 64) : v_r03_Round n = v_bounds_Round n := by
  unfold v_r03_Round v_bounds_Round
  rw [rmask_eq]
theorem g_mask_ok (n : BitVec 64) : g_bounds_Mask n = true := by
  have h : ∀ c : Cp, nonneg .i64 ((v_bounds_Lay c n).1.e + 3#64) = true := fun c => by
    have := lay_e c n
    exact nonnegI _ (by rw [BitVec.toNat_add, show (3#64).toNat = 3 from rfl]; omega)
  unfold g_bounds_Mask
  simp only [g_Lay_ok, h, cond_true, Bool.cond_self]
theorem g_round_ok (n : BitVec 64) : g_bounds_Round n = true := by
  unfold g_bounds_Round; rw [g_mask_ok]; rfl
theorem capone (c : Cp) (n k : BitVec 64) (ex : Bool) : t_l05_CapopsOne c n k ex = some (.bool true) := by
  have hc := inpl_right c
  unfold t_l05_CapopsOne
  generalize v_l05_Right c = c at *
  simp only [g_move_ok hc.e, g_bound_ok hc.e, g_from_ok hc.e, rsealed, sealed_of, move_eq hc, bound_eq hc, rless_eq, rmode_eq, rsentry_eq, rfrom_eq hc, cond_true, beq_self_eq_true, Bool.and_self]
theorem type_eq (c : Cp) (h : c.ty.toNat < 262144) : v_capops_asked_2 c = cond (c.ty == 262143#64) 18446744073709551615#64 (cond (c.ty == 262142#64) 18446744073709551614#64 (BitVec.signExtend 64 c.ty)) := by
  unfold v_capops_asked_2
  simp only [BitVec.signExtend_eq]
  cases h1 : (c.ty == 262143#64) with
  | true =>
    have : c.ty = 262143#64 := by simpa using h1
    rw [this]; decide
  | false =>
    cases h2 : (c.ty == 262142#64) with
    | true =>
      have : c.ty = 262142#64 := by simpa using h2
      rw [this]; decide
    | false =>
      have h3 : (262142#64).sle c.ty = false := by
        rw [beqN] at h1 h2
        simp only [decide_eq_false_iff_not, show (262143#64).toNat = 262143 from rfl, show (262142#64).toNat = 262142 from rfl] at h1 h2
        rw [sleL _ _ (by decide), show (262142#64).toNat = 262142 from rfl]
        simp; omega
      rw [h3]; rfl
theorem capgets (fn : BitVec 64) (c : Cp) : t_l05_CapopsGets fn c = some (.bool true) := by
  have hc := inpl_right c
  have hty := (right_ok c).ty
  unfold t_l05_CapopsGets
  generalize v_l05_Right c = c at *
  have key : v_capops_Get fn c = v_r05_Get fn c := by
    unfold v_capops_Get v_r05_Get
    rw [type_eq c hty]
    unfold v_capops_asked_1 v_capops_asked_3 v_capops_asked_4 v_capops_asked_5 v_capops_asked_6 v_capops_asked_7 v_capops_asked_8 v_capops_asked_9 v_capops_asked_10 v_capops_asked_11 v_capops_asked_12 v_capops_truth v_r05_one
    simp only [hc.of, rlen_eq, rround_eq, rmask_eq, rsealed, sealed_of, BitVec.signExtend_eq, BitVec.setWidth_eq]
    cases (c.ty == 262143#64) <;> cases (c.ty == 262142#64) <;> cases (v_bounds_Of c).over <;> rfl
  have g : g_capops_Get fn c = true := by
    have e := hc.e
    unfold g_capops_Get g_capops_asked_3 g_capops_asked_4 g_capops_asked_7 g_capops_asked_9 g_capops_asked_10 g_capops_asked_12
    simp only [g_Of_ok e, g_mask_ok, g_round_ok, cond_true, Bool.cond_self]
  simp only [g, key, cond_true, beq_self_eq_true]
end Go.Sx

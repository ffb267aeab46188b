/- What is made of capabilities: the program's answers are the document's (two). -/
import Derived.Test.YtgmemioomkbofaaPlOf2
import Derived.Test.YtgmemioomkbofaaPlCapB
set_option linter.unusedSimpArgs false
set_option linter.unusedVariables false
set_option linter.unnecessarySimpa false
namespace Go.Sx
open Go
set_option maxHeartbeats 1000000
/-- Bounds' fields in their places. -/
structure InPl (c : Cp) : Prop where
  e : c.e.toNat ≤ 52
  b : c.b.toNat < 16384
  t : c.t.toNat < 4096
theorem inpl_right (c : Cp) : InPl (v_l05_Right c) := ⟨(right_ok c).e, (right_ok c).b, (right_ok c).t⟩
theorem InPl.of {c : Cp} (h : InPl c) : v_r03_Of c = v_bounds_Of c := (of_eq h.e h.b h.t).symm
theorem rtopN' (r : Rg) : (v_r03_top r).val = r.end' := by
  have h : v_r03_top r = v_bounds_top r := by
    unfold v_r03_top v_bounds_top
    rw [one_truth]
  rw [h, topN]
theorem notAboveN' (a b : W2) : v_r03_notAbove a b = decide (a.val ≤ b.val) := by
  have h1 := a.lo.isLt
  have h2 := b.lo.isLt
  unfold v_r03_notAbove W2.val
  simp only [ultN, uleN, beqN]
  rw [Bool.eq_iff_iff]
  by_cases h : a.hi.toNat < b.hi.toNat
  · rw [decide_eq_true h, cond_true]; simp; omega
  · rw [decide_eq_false h, cond_false]
    by_cases h' : a.hi.toNat = b.hi.toNat
    · rw [decide_eq_true h', cond_true]; simp; omega
    · rw [decide_eq_false h', cond_false]; simp; omega
theorem endSum' (x n : BitVec 64) : W2.val ⟨v_bounds_truth ((x + n).ult x), x + n⟩ = x.toNat + n.toNat := by
  have h1 := x.isLt
  have h2 := n.isLt
  unfold W2.val
  simp only [truthN, ultN, BitVec.toNat_add]
  by_cases h : (x.toNat + n.toNat) % 2 ^ 64 < x.toNat
  · rw [decide_eq_true h, cond_true]; omega
  · rw [decide_eq_false h, cond_false]; omega
theorem in_eq' (r : Rg) (a n : BitVec 64) : v_r03_In r a n = v_bounds_In r a n := by
  have h1 := n.isLt
  unfold v_r03_In
  rw [inN, one_truth, BitVec.signExtend_eq, BitVec.signExtend_eq, notAboveN', rtopN', endSum', ultN, sltR _ _ (by decide)]
  simp only [show (0#64).toNat = 0 from rfl]
  rw [Bool.eq_iff_iff]
  by_cases h : n.toNat < 9223372036854775808
  · rw [decide_eq_false (by omega), cond_false]
    by_cases h' : a.toNat < r.base.toNat
    · rw [decide_eq_true h', cond_true]; simp; omega
    · rw [decide_eq_false h', cond_false]; simp; omega
  · rw [decide_eq_true (by omega), cond_true]; simp; omega
theorem within_eq (a b : Rg) : v_r03_Within a b = v_bounds_Within a b := by
  unfold v_r03_Within
  rw [withinN, notAboveN', rtopN', rtopN', uleN, Bool.eq_iff_iff]
  by_cases h' : b.base.toNat ≤ a.base.toNat
  · rw [decide_eq_true h', cond_true]; simp; omega
  · rw [decide_eq_false h', cond_false]; simp; omega
theorem rsealed (c : Cp) : v_r05_Sealed c = !(c.ty == 262143#64) := rfl
theorem with_of (c : Cp) (b : Bool) : v_r05_with c b = { c with tag := b } := rfl
theorem can_eq {y : Cp} (h : InPl y) (p : BitVec 64) : v_r05_can y p = v_capops_seals y p := by
  unfold v_r05_can
  rw [seals_of, in_eq', h.of, rsealed, Bool.not_not]
  cases y.tag <;> cases (y.ty == 262143#64) <;> cases v_bounds_In (v_bounds_Of y) y.ad 1#64 <;> cases (y.per &&& p == 0#64) <;> rfl
theorem seal_eq {y : Cp} (h : InPl y) (c : Cp) : v_r05_Seal c y = v_capops_Seal c y := by
  rw [seal_of]
  unfold v_r05_Seal canSeal
  simp only [can_eq h, rsealed, with_of, BitVec.setWidth_eq]
  cases c with | mk tag per ty mo e b t big ad =>
  simp only
  cases tag <;> cases (ty == 262143#64) <;> cases v_capops_seals y 128#64 <;> cases (262135#64).ult y.ad <;> rfl
theorem perm_eq (p q : BitVec 64) : (p &&& (q ||| 18446744073709551614#64)) = cond (q &&& 1#64 == 0#64) (p &&& 18446744073709551614#64) p := by
  have h1 : ∀ j : Fin 64, (18446744073709551614#64).getLsbD j.val = !decide (j.val = 0) := by decide
  have h2 : ∀ j : Fin 64, (1#64).getLsbD j.val = decide (j.val = 0) := by decide
  cases hq : (q &&& 1#64 == 0#64) with
  | true =>
    have h0 : q.getLsbD 0 = false := by
      have h3 : q &&& 1#64 = 0#64 := by simpa using hq
      have := congrArg (fun x => x.getLsbD 0) h3
      simpa using this
    rw [cond_true]
    apply BitVec.eq_of_getLsbD_eq
    intro i hi
    rw [BitVec.getLsbD_and, BitVec.getLsbD_and, BitVec.getLsbD_or, h1 ⟨i, hi⟩]
    by_cases h : i = 0
    · subst h; rw [h0]; cases p.getLsbD 0 <;> rfl
    · simp [h]
  | false =>
    have h0 : q.getLsbD 0 = true := by
      cases h4 : q.getLsbD 0 with
      | true => rfl
      | false =>
        have : q &&& 1#64 = 0#64 := by
          apply BitVec.eq_of_getLsbD_eq
          intro i hi
          rw [BitVec.getLsbD_and, h2 ⟨i, hi⟩]
          by_cases h : i = 0
          · subst h; rw [h4]; rfl
          · simp [h]
        rw [this] at hq; simp at hq
    rw [cond_false]
    apply BitVec.eq_of_getLsbD_eq
    intro i hi
    rw [BitVec.getLsbD_and, BitVec.getLsbD_or, h1 ⟨i, hi⟩]
    by_cases h : i = 0
    · subst h; rw [h0]; cases p.getLsbD 0 <;> rfl
    · simp [h]
theorem unseal_eq {y : Cp} (h : InPl y) (c : Cp) : v_r05_Unseal c y = v_capops_Unseal c y := by
  rw [unseal_of]
  unfold v_r05_Unseal canUnseal
  simp only [can_eq h, rsealed, with_of, BitVec.signExtend_eq, perm_eq]
  cases c with | mk tag per ty mo e b t big ad =>
  simp only
  cases tag <;> cases (262135#64).slt ty <;> cases v_capops_seals y 256#64 <;> cases (y.ad == ty) <;> cases (y.per &&& 1#64 == 0#64) <;> rfl
theorem order_eq (r : Rg) : v_bounds_Within { base := r.base, top := r.base, over := false } r = (r.over || r.base.ule r.top) := by
  have h1 := r.base.isLt
  have h2 := r.top.isLt
  rw [withinN, uleN, Bool.eq_iff_iff]
  unfold Rg.end'
  cases r.over <;> simp <;> omega
theorem build_eq {y c : Cp} (h : InPl y) (hc : InPl c) : v_r05_Build y c = v_capops_Build y c := by
  rw [build_of]
  unfold v_r05_Build canBuild
  simp only [h.of, hc.of, within_eq, order_eq, rsealed, with_of]
  generalize v_bounds_Within (v_bounds_Of c) (v_bounds_Of y) = w
  generalize ((v_bounds_Of c).over || (v_bounds_Of c).base.ule (v_bounds_Of c).top) = u
  generalize (c.per &&& ~~~y.per == 0#64) = p
  cases c with | mk tag per ty mo e b t big ad =>
  simp only
  generalize (per &&& 2#64 == 0#64) = x
  cases y.tag <;> cases (y.ty == 262143#64) <;> cases u <;> cases w <;> cases p <;> cases (ty == 262142#64) <;> cases x <;> rfl
theorem fits_eq {c : Cp} (h : InPl c) (a : BitVec 64) : v_r03_Fits c a = v_bounds_Fits c a := by
  have h2 : v_r03_Of { tag := c.tag, per := c.per, ty := c.ty, mo := c.mo, e := c.e, b := c.b, t := c.t, big := c.big, ad := a } = v_bounds_Of { tag := c.tag, per := c.per, ty := c.ty, mo := c.mo, e := c.e, b := c.b, t := c.t, big := c.big, ad := a } := (of_eq (c := { tag := c.tag, per := c.per, ty := c.ty, mo := c.mo, e := c.e, b := c.b, t := c.t, big := c.big, ad := a }) h.e h.b h.t).symm
  unfold v_r03_Fits v_bounds_Fits
  rw [h2, h.of]
  generalize v_bounds_Of c = r
  generalize v_bounds_Of { tag := c.tag, per := c.per, ty := c.ty, mo := c.mo, e := c.e, b := c.b, t := c.t, big := c.big, ad := a } = q
  rw [Bool.eq_iff_iff]
  simp only [Bool.and_eq_true, beq_iff_eq, and_true]
  constructor <;> rintro ⟨h1, h2, h3⟩ <;> exact ⟨h1.symm, h2.symm, h3.symm⟩
theorem move_eq {c : Cp} (h : InPl c) (a : BitVec 64) : v_r05_Move c a = v_capops_Move c a := by
  rw [move_of]
  unfold v_r05_Move
  simp only [fits_eq h, rsealed, with_of]
  cases c with | mk tag per ty mo e b t big ad =>
  simp only
  cases tag <;> cases (ty == 262143#64) <;> rfl
theorem typed_eq {c : Cp} (h : InPl c) (y : Cp) : v_r05_Typed c y = v_capops_Typed c y := by
  unfold v_r05_Typed v_capops_Typed
  rw [move_eq h]
theorem subset_eq {a b : Cp} (h : InPl a) (hb : InPl b) : v_r05_Subset a b = v_capops_Subset a b := by
  unfold v_r05_Subset v_capops_Subset
  rw [h.of, hb.of, within_eq]
  cases (a.tag == b.tag) <;> cases (b.per &&& ~~~a.per == 0#64) <;> cases v_bounds_Within (v_bounds_Of b) (v_bounds_Of a) <;> rfl
theorem to_eq {b : Cp} (hb : InPl b) (a : Cp) : v_r05_To a b = v_capops_To a b := by
  unfold v_r05_To v_capops_To
  rw [hb.of]
theorem g_to_ok {b : Cp} (h : b.e.toNat ≤ 52) (a : Cp) : g_capops_To a b = true := by
  unfold g_capops_To
  simp only [g_Of_ok h, cond_true, Bool.cond_self]
theorem captwo (a b : Cp) : t_l05_CapopsTwo a b = some (.bool true) := by
  have ha := inpl_right a
  have hb := inpl_right b
  unfold t_l05_CapopsTwo
  generalize v_l05_Right a = a at *
  generalize v_l05_Right b = b at *
  simp only [g_seal_ok hb.e, g_unseal_ok hb.e, g_build_ok ha.e hb.e, g_typed_ok ha.e, g_subset_ok ha.e hb.e, g_to_ok hb.e, seal_eq hb, unseal_eq hb, build_eq ha hb, typed_eq ha, subset_eq ha hb, to_eq hb, cond_true, beq_self_eq_true, Bool.and_self]
end Go.Sx

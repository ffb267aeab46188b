/- Plain laws of what is made of capabilities: what is sealed stays; subsets. -/
import Derived.Test.YtpofnfcbgamhpaaPlCapB
set_option linter.unusedSimpArgs false
set_option linter.unusedVariables false
set_option linter.unnecessarySimpa false
namespace Go.Sx
open Go
set_option maxHeartbeats 1000000
theorem capknown : t_l05_CapopsKnown = some (.bool true) := rfl

theorem stays (c y : Cp) (n k : BitVec 64) : t_l05_CapopsStays c y n k = some (.bool true) := by
  have hc := right_e c
  have hy := right_e y
  unfold t_l05_CapopsStays
  generalize v_l05_Right c = c at *
  generalize v_l05_Right y = y at *
  simp only [g_move_ok hc, g_bound_ok hc, g_seal_ok hy, g_unseal_ok hy, g_build_ok hc hy, cond_true]
  cases hs : (c.ty == 262143#64) with
  | false =>
    have hb : (v_capops_Bound c n false).tag = false := by
      cases h : (v_capops_Bound c n false).tag with
      | false => rfl
      | true => rw [((bound_less c n false).2.2.2.2.2.2 h).2.1] at hs; simp at hs
    have h1 : canSeal c y = false := by unfold canSeal; rw [hs]; simp
    have h2 : canSentry c = false := by unfold canSentry; rw [hs]; cases c.tag <;> rfl
    have h3 : canBuild c y = false := by unfold canBuild; rw [hs]; simp
    simp only [hb, move_of, less_of, mode_of, seal_of, sentry_val, build_of, hs, h1, h2, h3, Bool.false_and, Bool.and_false, Bool.not_false, cond_true, cond_false]
  | true =>
    rw [cond_true, sentry_val]
    have hu : ∀ ct : Cp, ct.ty = 262142#64 → (v_capops_Unseal ct y).tag = false := by
      intro ct h
      have h9 : (262135#64).slt 262142#64 = true := by decide
      rw [unseal_of, show canUnseal ct y = false by unfold canUnseal; rw [h, h9]; simp]; rfl
    have hss : ∀ ct : Cp, ct.ty = 262142#64 → (v_capops_Sentry ct).tag = false := by
      intro ct h
      have h9 : (262142#64 == 262143#64) = false := by decide
      rw [sentry_val, show canSentry ct = false by unfold canSentry; rw [h, h9]; cases ct.tag <;> rfl]; rfl
    cases hcs : canSentry c with
    | true =>
      have ht : c.tag = true ∧ (c.per &&& 2#64 == 0#64) = false := by
        unfold canSentry at hcs
        rw [hs] at hcs
        cases h : c.tag <;> cases h2 : (c.per &&& 2#64 == 0#64) <;> simp [h, h2] at hcs ⊢
      have h0 : (262142#64 == 262142#64) = true := by decide
      simp only [cond_true, hu { c with ty := 262142#64 } rfl, hss { c with ty := 262142#64 } rfl, ht.1, ht.2, h0]
      rfl
    | false =>
      have ht : c.tag = true → (c.per &&& 2#64 == 0#64) = true := by
        intro h
        unfold canSentry at hcs
        rw [hs, h] at hcs
        cases h2 : (c.per &&& 2#64 == 0#64) <;> simp [h2] at hcs ⊢
      simp only [cond_false]
      cases h : c.tag with
      | true => simp only [ht h]; rfl
      | false => rfl

theorem subset_of (a b : Cp) : v_capops_Subset a b = (cond (a.tag == b.tag) ((b.per &&& ~~~a.per == 0#64) && v_bounds_Within (v_bounds_Of b) (v_bounds_Of a)) false) := by
  unfold v_capops_Subset
  cases (a.tag == b.tag) <;> cases (b.per &&& ~~~a.per == 0#64) <;> rfl
theorem subset_iff (a b : Cp) : v_capops_Subset a b = true ↔ a.tag = b.tag ∧ (b.per &&& ~~~a.per == 0#64) = true ∧ v_bounds_Within (v_bounds_Of b) (v_bounds_Of a) = true := by
  rw [subset_of]
  cases h : (a.tag == b.tag) with
  | true => simp at h; simp [h]
  | false => simp at h; simp [h]
theorem subset_refl (a : Cp) : v_capops_Subset a a = true := (subset_iff a a).2 ⟨rfl, sub_refl _, within_refl _⟩
theorem subset_trans {a b c : Cp} (h1 : v_capops_Subset a b = true) (h2 : v_capops_Subset b c = true) : v_capops_Subset a c = true := by
  rw [subset_iff] at *
  exact ⟨h1.1.trans h2.1, sub_trans h2.2.1 h1.2.1, within_trans h2.2.2 h1.2.2⟩
/-- What has a tag and no more than a. -/
theorem move_less {c : Cp} {n : BitVec 64} (h : (v_capops_Move c n).tag = true) : c.tag = true ∧ (c.ty == 262143#64) = true ∧ (v_capops_Move c n).per = c.per ∧ v_bounds_Of (v_capops_Move c n) = v_bounds_Of c ∧ (v_capops_Move c n).ad = n := by
  rw [move_of] at h ⊢
  simp only [Bool.and_eq_true] at h
  exact ⟨h.1, h.2.1, rfl, (fits_of c n).1 h.2.2, rfl⟩
theorem less_less {c : Cp} {k : BitVec 64} (h : (v_capops_Less c k).tag = true) : c.tag = true ∧ (c.ty == 262143#64) = true ∧ ((v_capops_Less c k).per &&& ~~~c.per == 0#64) = true ∧ v_bounds_Of (v_capops_Less c k) = v_bounds_Of c := by
  rw [less_of] at h ⊢
  simp only [Bool.and_eq_true] at h
  exact ⟨h.1, h.2, (sub_and _ _).1, rfl⟩
theorem subset (a b c : Cp) (n k : BitVec 64) : t_l05_CapopsSubset a b c n k = some (.bool true) := by
  have ha := right_e a
  have hb := right_e b
  have hc := right_e c
  unfold t_l05_CapopsSubset
  generalize v_l05_Right a = a at *
  generalize v_l05_Right b = b at *
  generalize v_l05_Right c = c at *
  have me : (v_capops_Move a n).e.toNat ≤ 52 := by rw [move_of]; exact ha
  have le : (v_capops_Less a k).e.toNat ≤ 52 := by rw [less_of]; exact ha
  have be := bound_e a n false
  have hM : (v_capops_Move a n).tag = true → v_capops_Subset a (v_capops_Move a n) = true := fun h => by
    obtain ⟨h1, h2, h3, h4, h5⟩ := move_less h
    exact (subset_iff _ _).2 ⟨h1.trans h.symm, by rw [h3]; exact sub_refl _, by rw [h4]; exact within_refl _⟩
  have hL : (v_capops_Less a k).tag = true → v_capops_Subset a (v_capops_Less a k) = true := fun h => by
    obtain ⟨h1, h2, h3, h4⟩ := less_less h
    exact (subset_iff _ _).2 ⟨h1.trans h.symm, h3, by rw [h4]; exact within_refl _⟩
  have hB : (v_capops_Bound a n false).tag = true → v_capops_Subset a (v_capops_Bound a n false) = true := fun h => by
    obtain ⟨b1, b2, b3, b4, b5, b6, b7⟩ := bound_less a n false
    exact (subset_iff _ _).2 ⟨(b7 h).1.trans h.symm, by rw [b1]; exact sub_refl _, by rw [b6]; exact (b7 h).2.2⟩
  have hT : v_capops_Subset a b = true → v_capops_Subset b c = true → v_capops_Subset a c = true := subset_trans
  simp only [g_subset_ok ha hb, g_subset_ok hb hc, g_subset_ok ha hc, g_subset_ok ha ha, g_move_ok ha, g_bound_ok ha, g_subset_ok ha me, g_subset_ok ha le, g_subset_ok ha be, subset_refl, cond_true]
  revert hM hL hB hT
  generalize v_capops_Subset a (v_capops_Move a n) = s1
  generalize v_capops_Subset a (v_capops_Less a k) = s2
  generalize v_capops_Subset a (v_capops_Bound a n false) = s3
  generalize (v_capops_Move a n).tag = t1
  generalize (v_capops_Less a k).tag = t2
  generalize (v_capops_Bound a n false).tag = t3
  generalize v_capops_Subset a b = ab
  generalize v_capops_Subset b c = bc
  generalize v_capops_Subset a c = ac
  intro hM hL hB hT
  have f1 : (t1 && !s1) = false := by cases t1 <;> simp_all
  have f2 : (t2 && !s2) = false := by cases t2 <;> simp_all
  have f3 : (t3 && !s3) = false := by cases t3 <;> simp_all
  cases ab <;> cases bc <;> cases t1 <;> cases t2 <;> cases t3 <;> simp_all
end Go.Sx

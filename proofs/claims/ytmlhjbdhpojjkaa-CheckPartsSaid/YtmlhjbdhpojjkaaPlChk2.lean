/- What permits bytes permits each part; what is less permits no more. -/
import Derived.Test.YtmlhjbdhpojjkaaPlChk
import Derived.Test.YtmlhjbdhpojjkaaPlR
set_option linter.unusedSimpArgs false
set_option linter.unusedVariables false
set_option linter.unnecessarySimpa false
namespace Go.Sx
open Go
theorem okData_and (c : Cp) (a n : BitVec 64) (l s : Bool) : okData c a n l s = (c.tag && ((c.ty == 262143#64) && ((!l || !(c.per &&& 4#64 == 0#64)) && ((!s || !(c.per &&& 8#64 == 0#64)) && v_bounds_In (v_bounds_Of c) a n)))) := by
  unfold okData
  generalize v_bounds_In (v_bounds_Of c) a n = i
  generalize (c.per &&& 4#64 == 0#64) = p4
  generalize (c.per &&& 8#64 == 0#64) = p8
  generalize (c.ty == 262143#64) = y
  generalize c.tag = t
  cases t <;> cases y <;> cases l <;> cases s <;> cases p4 <;> cases p8 <;> cases i <;> rfl
theorem okData_part {c : Cp} {a n b m : BitVec 64} {l s : Bool} (h : okData c a n l s = true) (hb : m.toNat < 9223372036854775808 ∧ a.toNat ≤ b.toNat ∧ b.toNat + m.toNat ≤ a.toNat + n.toNat) : okData c b m l s = true := by
  rw [okData_and] at h ⊢
  simp only [Bool.and_eq_true] at h ⊢
  obtain ⟨h1, h2, h3, h4, h5⟩ := h
  refine ⟨h1, h2, h3, h4, ?_⟩
  rw [inN] at h5 ⊢
  simp only [decide_eq_true_eq] at h5 ⊢
  omega
theorem okData_load {c : Cp} {a n : BitVec 64} {l s : Bool} (h : okData c a n l s = true) : okData c a n false s = true ∧ okData c a n l false = true := by
  simp only [okData_and, Bool.and_eq_true] at h ⊢
  obtain ⟨h1, h2, h3, h4, h5⟩ := h
  exact ⟨⟨h1, h2, rfl, h4, h5⟩, ⟨h1, h2, h3, rfl, h5⟩⟩
/-- What is less than a capability, and not sealed. -/
theorem okData_less {c d : Cp} {a n : BitVec 64} {l s : Bool} (h : okData d a n l s = true) (ht : d.tag = true → c.tag = true ∧ (c.ty == 262143#64) = true) (hp : ∀ k, (c.per &&& k == 0#64) = true → (d.per &&& k == 0#64) = true)
    (hw : d.tag = true → v_bounds_Within (v_bounds_Of d) (v_bounds_Of c) = true) : okData c a n l s = true := by
  rw [okData_and] at h ⊢
  simp only [Bool.and_eq_true, Bool.or_eq_true, Bool.not_eq_true'] at h ⊢
  obtain ⟨h1, h2, h3, h4, h5⟩ := h
  obtain ⟨q1, q2⟩ := ht h1
  have nz : ∀ k, (d.per &&& k == 0#64) = false → (c.per &&& k == 0#64) = false := by
    intro k hk
    cases hc : (c.per &&& k == 0#64) with
    | false => rfl
    | true => rw [hp k hc] at hk; simp at hk
  exact ⟨q1, q2, h3.imp id (nz _), h4.imp id (nz _), in_within (hw h1) h5⟩
theorem keep_of (c : Cp) (b : Bool) : v_capops_keep c b = { c with tag := c.tag && b } := by
  unfold v_capops_keep; cases c with | mk tag per ty mo e b' t big ad => cases tag <;> cases b <;> rfl
theorem less_of (c : Cp) (k : BitVec 64) : v_capops_Less c k = { c with per := c.per &&& k, tag := c.tag && (c.ty == 262143#64) } := by
  unfold v_capops_Less v_capops_Sealed
  simp only [keep_of, Bool.not_not]
theorem bound_less (c : Cp) (n : BitVec 64) (ex : Bool) : (v_capops_Bound c n ex).per = c.per ∧ (v_capops_Bound c n ex).ty = c.ty ∧ (v_capops_Bound c n ex).mo = c.mo ∧ (v_capops_Bound c n ex).ad = c.ad ∧ (v_capops_Bound c n ex).e = (v_bounds_Lay c n).1.e ∧
    v_bounds_Of (v_capops_Bound c n ex) = v_bounds_Of (v_bounds_Lay c n).1 ∧ ((v_capops_Bound c n ex).tag = true → c.tag = true ∧ (c.ty == 262143#64) = true ∧ v_bounds_Within (v_bounds_Of (v_bounds_Lay c n).1) (v_bounds_Of c) = true) := by
  obtain ⟨k1, k2, k3, k4, k5⟩ := lay_keeps c n
  have key : ∀ b : Bool, (b = true → (c.ty == 262143#64) = true ∧ v_bounds_Within (v_bounds_Of (v_bounds_Lay c n).1) (v_bounds_Of c) = true) → (v_capops_keep (v_bounds_Lay c n).1 b).per = c.per ∧ (v_capops_keep (v_bounds_Lay c n).1 b).ty = c.ty ∧ (v_capops_keep (v_bounds_Lay c n).1 b).mo = c.mo ∧ (v_capops_keep (v_bounds_Lay c n).1 b).ad = c.ad ∧ (v_capops_keep (v_bounds_Lay c n).1 b).e = (v_bounds_Lay c n).1.e ∧
      v_bounds_Of (v_capops_keep (v_bounds_Lay c n).1 b) = v_bounds_Of (v_bounds_Lay c n).1 ∧ ((v_capops_keep (v_bounds_Lay c n).1 b).tag = true → c.tag = true ∧ (c.ty == 262143#64) = true ∧ v_bounds_Within (v_bounds_Of (v_bounds_Lay c n).1) (v_bounds_Of c) = true) := by
    intro b hb
    rw [keep_of]
    refine ⟨k2, k3, k4, k5, rfl, rfl, fun h => ?_⟩
    simp only [Bool.and_eq_true] at h
    exact ⟨k1 ▸ h.1, hb h.2⟩
  unfold v_capops_Bound
  cases hs : (!v_capops_Sealed c) with
  | false => exact key _ (fun h => by simp at h)
  | true =>
    have hty : (c.ty == 262143#64) = true := by simpa [v_capops_Sealed] using hs
    rw [cond_true]
    (repeat' (rw [Bool.cond_eq_ite]; split)) <;> first | exact key _ (fun h => ⟨hty, h⟩) | exact key _ (fun h => by simp at h)
theorem g_bound_ok {c : Cp} (h : c.e.toNat ≤ 52) (n : BitVec 64) (ex : Bool) : g_capops_Bound c n ex = true := by
  unfold g_capops_Bound
  simp only [g_Lay_ok, g_Of_lay, g_Of_ok h, cond_true, Bool.cond_self]
theorem bound_e (c : Cp) (n : BitVec 64) (ex : Bool) : (v_capops_Bound c n ex).e.toNat ≤ 52 := by
  rw [(bound_less c n ex).2.2.2.2.1]; exact lay_e c n
theorem parts (c : Cp) (xat n xfrom k : BitVec 64) (load store : Bool) (perms size : BitVec 64) : t_l23_CheckParts c xat n xfrom k load store perms size = some (.bool true) := by
  have hr := right_e c
  have hN := pickLt n 4097#64 (by decide) (by decide)
  have hN' : (v_kit_Pick n 4097#64).toNat < 4097 := hN
  unfold t_l23_CheckParts
  generalize v_l05_Right c = r at *
  generalize v_kit_Pick n 4097#64 = m at *
  have hm1 : (m + 1#64).toNat = m.toNat + 1 := by rw [BitVec.toNat_add, show (1#64).toNat = 1 from rfl]; omega
  have hF := pickLt xfrom (m + 1#64) (by omega) (by omega)
  generalize v_kit_Pick xfrom (m + 1#64) = f at *
  have hmf : (m - f + 1#64).toNat = m.toNat - f.toNat + 1 := by rw [BitVec.toNat_add, BitVec.toNat_sub, show (1#64).toNat = 1 from rfl]; omega
  have hK := pickLt k (m - f + 1#64) (by omega) (by omega)
  generalize v_kit_Pick k (m - f + 1#64) = q at *
  have le : (v_capops_Less r perms).e.toNat ≤ 52 := by rw [less_of]; exact hr
  have be := bound_e r size false
  simp only [g_data_ok hr, g_data_ok le, g_data_ok be, g_bound_ok hr, cond_true, data_is, BitVec.signExtend_eq, Bool.not_not]
  cases ho : (xat + m).ult xat with
  | true => rfl
  | false =>
    rw [cond_false]
    have hadd : (xat + m).toNat = xat.toNat + m.toNat := by
      simp only [ultN, decide_eq_false_iff_not, BitVec.toNat_add] at ho
      have := xat.isLt
      rw [BitVec.toNat_add]; omega
    have hlt := (xat + m).isLt
    cases hA : okData r xat m load store with
    | true =>
      have h1 : okData r (xat + f) q load store = true := okData_part hA (by
        have e : (xat + f).toNat = xat.toNat + f.toNat := by rw [BitVec.toNat_add]; omega
        rw [e]; omega)
      obtain ⟨h2, h3⟩ := okData_load hA
      simp only [h1, h2, h3, cond_true, Bool.not_true, cond_false]
    | false =>
      have h1 : okData (v_capops_Less r perms) xat m load store = false := by
        cases hb : okData (v_capops_Less r perms) xat m load store with
        | false => rfl
        | true =>
          rw [okData_less (c := r) hb (fun h => by rw [less_of] at h; simpa using h) (fun k hk => by
            rw [less_of]; simp only [beq_iff_eq] at hk ⊢
            rw [BitVec.and_assoc, BitVec.and_comm perms k, ← BitVec.and_assoc, hk]; simp) (fun h => by
            rw [less_of]; exact within_refl _)] at hA
          simp at hA
      have h2 : okData (v_capops_Bound r size false) xat m load store = false := by
        obtain ⟨b1, b2, b3, b4, b5, b6, b7⟩ := bound_less r size false
        cases hb : okData (v_capops_Bound r size false) xat m load store with
        | false => rfl
        | true =>
          rw [okData_less (c := r) hb (fun h => ⟨(b7 h).1, (b7 h).2.1⟩) (fun k hk => by rw [b1]; exact hk) (fun h => by rw [b6]; exact (b7 h).2.2)] at hA
          simp at hA
      simp only [h1, h2, cond_true, Bool.not_false, cond_false]
end Go.Sx

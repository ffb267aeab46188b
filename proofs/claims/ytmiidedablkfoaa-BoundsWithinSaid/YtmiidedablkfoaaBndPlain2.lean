/- The plain laws of ranges: within is an order. -/
import Derived.Test.YtmiidedablkfoaaBndPlain
set_option linter.unusedSimpArgs false
set_option linter.unusedVariables false
namespace Go.Proofs.Ytmiidedablkfoaa
open Go Go.Sx

theorem len_val (r : Rg) : (v_11 r).toNat = if topN r ≤ r.base.toNat then 0 else if r.over = true ∧ r.base.toNat ≤ r.top.toNat then 18446744073709551615 else topN r - r.base.toNat := by
  obtain ⟨b, t, o⟩ := r
  have := t.isLt; have hb := b.isLt
  have hsub : (t - b).toNat = if b.toNat ≤ t.toNat then t.toNat - b.toNat else 18446744073709551616 + t.toNat - b.toNat := by
    rw [BitVec.toNat_sub]; split <;> omega
  cases o with
  | true =>
    simp only [v_11, topN, uleN, cond_true, if_true, true_and]
    rw [if_neg (by omega)]
    by_cases h : b.toNat ≤ t.toNat
    · rw [decide_eq_true h, if_pos h]; rfl
    · rw [decide_eq_false h, if_neg h]
      simp only [cond_false, hsub, if_neg h]; omega
  | false =>
    have ht : topN ⟨b, t, false⟩ = t.toNat := by simp [topN]
    rw [ht]
    by_cases h : b.toNat < t.toNat
    · rw [if_neg (show ¬ t.toNat ≤ b.toNat by omega), if_neg (by simp)]
      simp only [v_11, ultN, cond_false, decide_eq_true h, Bool.not_true, hsub, if_pos (Nat.le_of_lt h)]
    · rw [if_pos (show t.toNat ≤ b.toNat by omega)]
      simp only [v_11, ultN, cond_false, decide_eq_false h, Bool.not_false, cond_true]
      rfl
theorem w_refl (r : Rg) : v_9 r r = true := (v9_iff r r).2 ⟨Nat.le_refl _, Nat.le_refl _⟩
theorem w_trans {r s t : Rg} (h : v_9 r s = true) (k : v_9 s t = true) : v_9 r t = true := by
  have h := (v9_iff r s).1 h; have k := (v9_iff s t).1 k
  exact (v9_iff r t).2 ⟨by omega, by omega⟩
theorem w_in {r s : Rg} {x n : BitVec 64} (h : v_9 r s = true) (k : v_7 r x n = true) : v_7 s x n = true := by
  have h := (v9_iff r s).1 h; have k := (v7_iff r x n).1 k
  exact (v7_iff s x n).2 ⟨k.1, by omega, by omega⟩
theorem w_anti {r s : Rg} (h : v_9 r s = true) (k : v_9 s r = true) : r = s := by
  have h := (v9_iff r s).1 h; have k := (v9_iff s r).1 k
  obtain ⟨b, t, o⟩ := r
  obtain ⟨b', t', o'⟩ := s
  have := t.isLt; have := t'.isLt
  simp only [topN] at h k
  have e1 : b = b' := BitVec.eq_of_toNat_eq (by omega)
  have e2 : t = t' ∧ o = o' := by
    cases o <;> cases o' <;> simp at h k <;> first | exact ⟨BitVec.eq_of_toNat_eq (by omega), rfl⟩ | omega
  rw [e1, e2.1, e2.2]
theorem w_len {r s : Rg} (h : v_9 r s = true) : (v_11 s).ult (v_11 r) = false := by
  have h := (v9_iff r s).1 h
  rw [ultN]
  apply decide_eq_false
  rw [len_val, len_val]
  obtain ⟨b, t, o⟩ := r
  obtain ⟨b', t', o'⟩ := s
  have := t.isLt; have := t'.isLt; have := b.isLt; have := b'.isLt
  simp only [topN] at h ⊢
  cases o <;> cases o' <;> simp at h ⊢ <;> (repeat' split) <;> omega
theorem w_last {r : Rg} {x n : BitVec 64} (h : v_7 r x n = true) : (0#64).sle n = true ∧ r.base.ule x = true := by
  have h := (v7_iff r x n).1 h
  refine ⟨?_, ?_⟩
  · rw [sleL _ _ (by decide)]; apply decide_eq_true; exact ⟨Nat.zero_le _, h.1⟩
  · rw [uleN]; exact decide_eq_true h.2.1
theorem within (r s t : Rg) (x n : BitVec 64) : v_4 r s t x n = true := by
  have h1 := @w_trans r s t
  have h2 := @w_in r s x n
  have h4 := @w_len r s
  have h5 := @w_last r x n
  have h3 : v_9 r s = true → v_9 s r = true → (!(r.base == s.base && (r.top == s.top && (r.over == s.over && true)))) = false := fun a b => by
    rw [w_anti a b]; simp
  unfold v_4
  rw [w_refl]
  generalize (!(r.base == s.base && (r.top == s.top && (r.over == s.over && true)))) = e at *
  generalize (v_11 s).ult (v_11 r) = l at *
  generalize v_9 r s = a at *
  generalize v_9 s t = b at *
  generalize v_9 r t = c at *
  generalize v_9 s r = d at *
  generalize v_7 r x n = f at *
  generalize v_7 s x n = g at *
  generalize (0#64).sle n = p at *
  generalize r.base.ule x = q at *
  revert h1 h2 h3 h4 h5
  cases a <;> cases b <;> cases c <;> cases d <;> cases f <;> cases g <;> cases e <;> cases l <;> cases p <;> cases q <;> simp
end Go.Proofs.Ytmiidedablkfoaa

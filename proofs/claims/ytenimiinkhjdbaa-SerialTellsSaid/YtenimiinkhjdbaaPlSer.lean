/- The UART's laws: plain. -/
import Derived.Test.YtenimiinkhjdbaaVl14
import Derived.Test.YtenimiinkhjdbaaPlN
set_option linter.unusedSimpArgs false
set_option linter.unusedVariables false
set_option linter.unnecessarySimpa false
namespace Go.Sx
open Go
/-! ### SerialPower -/
def pwCps : Cps PwS := fun R x K => match x with
  | .r n m d was poff i => cond (was == poff && (decide (n ≤ m ∧ n < 2 ^ 63) && i == 0#64)) (K (.exit 0) (tmOf [8] [.any]) [] 5) none
  | .o was poff i => cond (i == 0#64) (K (.exit 0) (tmOf [8] [.any]) [] 5) none
theorem pw_rn : ∀ (k n m : Nat) (d : List (List AV)) (b : Bool) (i : BitVec 64), n - i.toNat = k → n ≤ m → n < 2 ^ 63 → i.toNat ≤ 100 → Rn pwStep (.r n m d b b i) .fine := by
  intro k
  induction k with
  | zero =>
    intro n m d b i hk hm hn hi
    refine .last ?_
    unfold pwStep
    simp only [slt_len (show i.toNat < 2 ^ 63 by omega) hn, decide_eq_false (show ¬ i.toNat < n by omega), cond_false]
  | succ k ih =>
    intro n m d b i hk hm hn hi
    by_cases h2 : i.toNat < 100
    · refine .next (y := .r n m d (b || (asU64 ((d.getD (0 + i.toNat) []).headD .any) % 4294967296#64 == 21845#64)) (b || (asU64 ((d.getD (0 + i.toNat) []).headD .any) % 4294967296#64 == 21845#64)) (i + 1#64)) ?_ (ih n m d _ _ (by rw [inc_nat (by omega)]; omega) hm hn (by rw [inc_nat (by omega)]; omega))
      unfold pwStep
      have h3 : (BitVec.setWidth 32 (asU64 ((d.getD (0 + i.toNat) []).headD .any)) == 21845#32) = (asU64 ((d.getD (0 + i.toNat) []).headD .any) % 4294967296#64 == 21845#64) := lo32 _ 21845#32
      simp only [slt_len (show i.toNat < 2 ^ 63 by omega) hn, slt_nat (show i.toNat < 2 ^ 63 by omega) (show (100#64).toNat < 2 ^ 63 by decide), decide_eq_true (show i.toNat < n by omega), decide_eq_true (show i.toNat < (100#64).toNat from h2), decide_eq_true (show 0 + i.toNat < m by omega), nonneg_lt (show i.toNat < 2 ^ 63 by omega), cond_true, Bool.true_and, h3]
      generalize (asU64 ((d.getD (0 + i.toNat) []).headD .any) % 4294967296#64 == 21845#64) = c
      cases b <;> cases c <;> rfl
    · refine .last ?_
      unfold pwStep
      simp only [slt_nat (show i.toNat < 2 ^ 63 by omega) (show (100#64).toNat < 2 ^ 63 by decide), decide_eq_false (show ¬ i.toNat < (100#64).toNat from h2), cond_false]
      cases i.slt (BitVec.ofNat 64 n) <;> rfl
theorem pwCps_ok (R : Type) (x : PwS) (K : Out → TM → Heap → Nat → Option R) (r : R) (h : pwCps R x K = some r) : ∃ z, Rn pwStep x z ∧ K (pwO z) (tmOf [8] (pwV z)) (pwG z) (pwM z) = some r := by
  unfold pwCps at h
  split at h
  · rename_i n m d was poff i
    cases hc : (was == poff && (decide (n ≤ m ∧ n < 2 ^ 63) && i == 0#64)) with
    | false => rw [hc] at h; simp at h
    | true =>
      rw [hc] at h
      simp only [Bool.and_eq_true, beq_iff_eq, decide_eq_true_eq] at hc
      obtain ⟨rfl, ⟨h1, h2⟩, rfl⟩ := hc
      exact ⟨.fine, pw_rn _ n m d was _ rfl h1 h2 (by decide), h⟩
  · rename_i was poff i
    cases hc : (i == 0#64) with
    | false => rw [hc] at h; simp at h
    | true =>
      rw [hc] at h
      simp only [beq_iff_eq] at hc
      subst hc
      exact ⟨.fine, .last rfl, h⟩
end Go.Sx

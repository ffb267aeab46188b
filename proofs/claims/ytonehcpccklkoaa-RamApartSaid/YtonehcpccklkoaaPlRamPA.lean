/- RamApart: its loop. -/
import Derived.Test.YtonehcpccklkoaaVl11x
import Derived.Test.YtonehcpccklkoaaPlRamBA0
set_option linter.unusedSimpArgs false
set_option linter.unusedVariables false
set_option linter.unnecessarySimpa false
namespace Go.Sx
open Go

theorem mra_rn {tg d tg2 : List (List AV)} (h : Rok 4096 tg d) (h2 : Rok 4096 tg2 d) (x y at_ to gg : BitVec 64) : ∀ (k j : Nat), 512 - j = k → j ≤ 512 →
    Rn mraStep (.a 4096 tg 4096 d 4096 tg2 4096 d x y at_ to gg (BitVec.ofNat 64 (8 * j))) (.fine 4096 tg 4096 d x y at_ to gg) := by
  intro k
  induction k with
  | zero =>
    intro j hk hj
    have e : j = 512 := by omega
    subst e
    exact .last rfl
  | succ k ih =>
    intro j hk hj
    have hi : (BitVec.ofNat 64 (8 * j)).toNat = 8 * j := ofNat_toNat (by omega)
    have e : BitVec.ofNat 64 (8 * j) + 8#64 = BitVec.ofNat 64 (8 * (j + 1)) := by
      apply BitVec.eq_of_toNat_eq
      rw [BitVec.toNat_add, hi, ofNat_toNat (n := 8 * (j + 1)) (by omega), show (8#64).toNat = 8 from rfl]; omega
    refine .next (y := .a 4096 tg 4096 d 4096 tg2 4096 d x y at_ to gg (BitVec.ofNat 64 (8 * (j + 1)))) ?_ (ih (j + 1) (by omega) (by omega))
    simp only [mraStep]
    rw [slt_nat (by omega) (by decide), show (4096#64).toNat = 4096 from rfl, hi, decide_eq_true (by omega)]
    simp only [h.ram, h2.ram, e, beq_self_eq_true, Bool.not_true, cond_true, cond_false]
def mraOk : MraS → Prop
  | .a n tg m d n2 tg2 m2 d2 _ _ _ _ _ i => n = 4096 ∧ m = 4096 ∧ n2 = 4096 ∧ m2 = 4096 ∧ d2 = d ∧ Rok 4096 tg d ∧ Rok 4096 tg2 d ∧ i = 0#64
open Classical in
noncomputable def g_mra (x : MraS) : Bool := decide (mraOk x)
theorem g_mra_ok {x : MraS} (h : mraOk x) : g_mra x = true := by unfold g_mra; exact @decide_eq_true _ (Classical.propDecidable _) h
noncomputable def mraCps : Cps MraS := fun R s K => match s with
  | .a n tg m d n2 tg2 m2 d2 x y at_ to gg i => cond (g_mra (.a n tg m d n2 tg2 m2 d2 x y at_ to gg i)) (K (.exit 0) (tmOf [4, 5, 10, 11, 12, 13, 14] [.any, .ptr ⟨4, 0, 0, 0, 0⟩, .int .i64 x, .int .i64 y, .int .i64 at_, .int .i64 to, .int .i64 gg])
      [(4, ⟨true, [.cell (.slice ⟨5, 0, 0, 1, 0⟩ 1 4096), .arr [.int .u64] 64 tg]⟩), (5, ⟨true, [.arr [.int .u8] 4096 d]⟩)] 9) none
theorem mraCps_ok (R : Type) (s : MraS) (K : Out → TM → Heap → Nat → Option R) (r : R) (h : mraCps R s K = some r) : ∃ z, Rn mraStep s z ∧ K (mraO z) (tmOf [4, 5, 10, 11, 12, 13, 14] (mraV z)) (mraG z) (mraM z) = some r := by
  cases s with
  | a n tg m d n2 tg2 m2 d2 x y at_ to gg i =>
    unfold mraCps at h
    dsimp only at h
    cases hg : g_mra (.a n tg m d n2 tg2 m2 d2 x y at_ to gg i) with
    | false => rw [hg] at h; simp at h
    | true =>
      rw [hg, cond_true] at h
      have hok : mraOk (.a n tg m d n2 tg2 m2 d2 x y at_ to gg i) := by unfold g_mra at hg; simpa using hg
      obtain ⟨rfl, rfl, rfl, rfl, rfl, h1, h2, rfl⟩ := hok
      exact ⟨_, mra_rn h1 h2 x y at_ to gg _ 0 rfl (by omega), h⟩

theorem mrx_rn {tg d tg2 : List (List AV)} (h : Rok 4096 tg d) (h2 : Rok 4096 tg2 d) (x y at_ to gg : BitVec 64) : ∀ (k j : Nat), 512 - j = k → j ≤ 512 →
    Rn mrxStep (.a 4096 tg 4096 d 4096 tg2 4096 d x y at_ to gg (BitVec.ofNat 64 (8 * j))) (.fine 4096 tg 4096 d x y at_ to gg) := by
  intro k
  induction k with
  | zero =>
    intro j hk hj
    have e : j = 512 := by omega
    subst e
    exact .last rfl
  | succ k ih =>
    intro j hk hj
    have hi : (BitVec.ofNat 64 (8 * j)).toNat = 8 * j := ofNat_toNat (by omega)
    have e : BitVec.ofNat 64 (8 * j) + 8#64 = BitVec.ofNat 64 (8 * (j + 1)) := by
      apply BitVec.eq_of_toNat_eq
      rw [BitVec.toNat_add, hi, ofNat_toNat (n := 8 * (j + 1)) (by omega), show (8#64).toNat = 8 from rfl]; omega
    refine .next (y := .a 4096 tg 4096 d 4096 tg2 4096 d x y at_ to gg (BitVec.ofNat 64 (8 * (j + 1)))) ?_ (ih (j + 1) (by omega) (by omega))
    simp only [mrxStep]
    rw [slt_nat (by omega) (by decide), show (4096#64).toNat = 4096 from rfl, hi, decide_eq_true (by omega)]
    simp only [h.ram, h2.ram, e, beq_self_eq_true, Bool.not_true, cond_true, cond_false]
def mrxOk : MrxS → Prop
  | .a n tg m d n2 tg2 m2 d2 _ _ _ _ _ i => n = 4096 ∧ m = 4096 ∧ n2 = 4096 ∧ m2 = 4096 ∧ d2 = d ∧ Rok 4096 tg d ∧ Rok 4096 tg2 d ∧ i = 0#64
open Classical in
noncomputable def g_mrx (x : MrxS) : Bool := decide (mrxOk x)
theorem g_mrx_ok {x : MrxS} (h : mrxOk x) : g_mrx x = true := by unfold g_mrx; exact @decide_eq_true _ (Classical.propDecidable _) h
noncomputable def mrxCps : Cps MrxS := fun R s K => match s with
  | .a n tg m d n2 tg2 m2 d2 x y at_ to gg i => cond (g_mrx (.a n tg m d n2 tg2 m2 d2 x y at_ to gg i)) (K (.exit 0) (tmOf [4, 5, 10, 11, 12, 13, 14] [.any, .ptr ⟨4, 0, 0, 0, 0⟩, .int .i64 x, .int .i64 y, .int .i64 at_, .int .i64 to, .int .i64 gg])
      [(4, ⟨true, [.cell (.slice ⟨5, 0, 0, 1, 0⟩ 1 4096), .arr [.int .u64] 64 tg]⟩), (5, ⟨true, [.arr [.int .u8] 4096 d]⟩)] 11) none
theorem mrxCps_ok (R : Type) (s : MrxS) (K : Out → TM → Heap → Nat → Option R) (r : R) (h : mrxCps R s K = some r) : ∃ z, Rn mrxStep s z ∧ K (mrxO z) (tmOf [4, 5, 10, 11, 12, 13, 14] (mrxV z)) (mrxG z) (mrxM z) = some r := by
  cases s with
  | a n tg m d n2 tg2 m2 d2 x y at_ to gg i =>
    unfold mrxCps at h
    dsimp only at h
    cases hg : g_mrx (.a n tg m d n2 tg2 m2 d2 x y at_ to gg i) with
    | false => rw [hg] at h; simp at h
    | true =>
      rw [hg, cond_true] at h
      have hok : mrxOk (.a n tg m d n2 tg2 m2 d2 x y at_ to gg i) := by unfold g_mrx at hg; simpa using hg
      obtain ⟨rfl, rfl, rfl, rfl, rfl, h1, h2, rfl⟩ := hok
      exact ⟨_, mrx_rn h1 h2 x y at_ to gg _ 0 rfl (by omega), h⟩
def sz4 (k : BitVec 64) : BitVec 64 := asI64 (([[AV.int IntKind.i64 1#64], [AV.int IntKind.i64 2#64], [AV.int IntKind.i64 4#64], [AV.int IntKind.i64 8#64]].getD (0 + k.toNat) []).headD AV.any)
end Go.Sx

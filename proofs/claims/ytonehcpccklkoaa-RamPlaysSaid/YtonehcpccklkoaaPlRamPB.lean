/- RamPlays: all bytes. -/
import Derived.Test.YtonehcpccklkoaaVl11q
import Derived.Test.YtonehcpccklkoaaPlRamP
set_option linter.unusedSimpArgs false
set_option linter.unusedVariables false
set_option linter.unnecessarySimpa false
namespace Go.Sx
open Go
theorem mpb_rn {n : Nat} {tg d : List (List AV)} {t : Nat} {T : List (List AV)} (h : Mem n tg d t T) : ∀ (k j : Nat), t * 2 - j = k → j ≤ t * 2 →
    Rn mpbStep (.a n tg n d n t n d t T (BitVec.ofNat 64 (8 * j))) (.fine n tg n d n t n d t T) := by
  have ht := h.t16
  have hhi := h.hi
  have hlo := h.lo
  intro k
  induction k with
  | zero =>
    intro j hk hj
    have e : 8 * j = n := by omega
    rw [e]
    refine .last ?_
    simp only [mpbStep]
    rw [slt_len (by rw [ofNat_toNat (by omega)]; omega) (by omega), ofNat_toNat (by omega), decide_eq_false (by omega)]; rfl
  | succ k ih =>
    intro j hk hj
    have hi : (BitVec.ofNat 64 (8 * j)).toNat = 8 * j := ofNat_toNat (by omega)
    have e : BitVec.ofNat 64 (8 * j) + 8#64 = BitVec.ofNat 64 (8 * (j + 1)) := by
      apply BitVec.eq_of_toNat_eq
      rw [BitVec.toNat_add, hi, ofNat_toNat (n := 8 * (j + 1)) (by omega), show (8#64).toNat = 8 from rfl]; omega
    have hok := ok8 (n := n) (off := BitVec.ofNat 64 (8 * j)) hhi (by omega)
    refine .next (y := .a n tg n d n t n d t T (BitVec.ofNat 64 (8 * (j + 1)))) ?_ (ih (j + 1) (by omega) (by omega))
    simp only [mpbStep]
    rw [slt_len (by omega) (by omega), hi, decide_eq_true (by omega)]
    simp only [h.ram, h.xram, hok, lV_eq, e, beq_self_eq_true, Bool.not_true, cond_true, cond_false]
def mpbOk : MpbS → Prop
  | .a n tg m d nx t mx dx mt T off => m = n ∧ nx = n ∧ mx = n ∧ dx = d ∧ mt = t ∧ Mem n tg d t T ∧ off = 0#64
open Classical in
noncomputable def g_mpb (x : MpbS) : Bool := decide (mpbOk x)
theorem g_mpb_ok {x : MpbS} (h : mpbOk x) : g_mpb x = true := by unfold g_mpb; exact @decide_eq_true _ (Classical.propDecidable _) h
noncomputable def mpbCps : Cps MpbS := fun R x K => match x with
  | .a n tg m d nx t mx dx mt T off => cond (g_mpb (.a n tg m d nx t mx dx mt T off)) (K (.exit 2) (tmOf [4, 5, 7] [.any, .ptr ⟨2, 0, 0, 0, 0⟩, .ptr ⟨4, 0, 0, 0, 0⟩])
      [(2, ⟨true, [.cell (.slice ⟨3, 0, 0, 1, 0⟩ 1 n), .arr [.int .u64] 64 tg]⟩), (3, ⟨true, [.arr [.int .u8] n d]⟩),
       (4, ⟨true, [.cell (.slice ⟨5, 0, 0, 1, 0⟩ 1 n), .cell (.slice ⟨6, 0, 0, 1, 0⟩ 1 t)]⟩), (5, ⟨true, [.arr [.int .u8] n d]⟩), (6, ⟨true, [.arr [.bool] t T]⟩)] 7) none
theorem mpbCps_ok (R : Type) (x : MpbS) (K : Out → TM → Heap → Nat → Option R) (r : R) (h : mpbCps R x K = some r) : ∃ z, Rn mpbStep x z ∧ K (mpbO z) (tmOf [4, 5, 7] (mpbV z)) (mpbG z) (mpbM z) = some r := by
  cases x with
  | a n tg m d nx t mx dx mt T off =>
    unfold mpbCps at h
    dsimp only at h
    cases hg : g_mpb (.a n tg m d nx t mx dx mt T off) with
    | false => rw [hg] at h; simp at h
    | true =>
      rw [hg, cond_true] at h
      have hok : mpbOk (.a n tg m d nx t mx dx mt T off) := by unfold g_mpb at hg; simpa using hg
      obtain ⟨rfl, rfl, rfl, rfl, rfl, hm, rfl⟩ := hok
      exact ⟨_, mpb_rn hm _ 0 rfl (by omega), h⟩
end Go.Sx

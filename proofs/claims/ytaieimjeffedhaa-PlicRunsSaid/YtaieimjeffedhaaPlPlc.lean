/- The interrupt controller: its best source. -/
import Derived.Test.YtaieimjeffedhaaVl12
import Derived.Test.YtaieimjeffedhaaPlN
set_option linter.unusedSimpArgs false
set_option linter.unusedVariables false
set_option linter.unnecessarySimpa false
namespace Go.Sx
open Go
def prOf (pr : List (List AV)) (s : BitVec 32) : BitVec 32 := asU32 ((pr.getD s.toNat []).headD .any)
def bestC (pr : List (List AV)) (of ab s : BitVec 32) : Bool := (of >>> min s.toNat 32 &&& 1#32 == 1#32) && ab.ult (prOf pr s)
/-- The best one, and its priority. -/
def bestGo (pr : List (List AV)) (of : BitVec 32) : Nat → BitVec 32 → BitVec 32 → BitVec 32 → BitVec 32 × BitVec 32
  | 0, ab, be, _ => (be, ab)
  | k + 1, ab, be, s => cond (s.ult 32#32) (cond (bestC pr of ab s) (bestGo pr of k (prOf pr s) s (s + 1#32)) (bestGo pr of k ab be (s + 1#32))) (be, ab)
def v_best (pr : List (List AV)) (of ab be s : BitVec 32) : BitVec 32 := (bestGo pr of 32 ab be s).1
def btCps : Cps BtS := fun R x K => match x with
  | .a rw pr pe se en th of ab be s => K (.exit 0) (tmOf [7] [.int .u32 (v_best pr of ab be s)]) [(0, ⟨rw, [.arr [.int .u32] 32 pr, .cell (.int .u32 pe), .cell (.int .u32 se), .arr [.int .u32] 2 en, .arr [.int .u32] 2 th]⟩)] 1
theorem nonneg_u32 (s : BitVec 32) : nonneg .u32 s = true := rfl
theorem nonneg_u64 (s : BitVec 64) : nonneg .u64 s = true := rfl
theorem inc32 {s : BitVec 32} (h : s.toNat < 32) : (s + 1#32).toNat = s.toNat + 1 := by
  rw [BitVec.toNat_add, show (1#32).toNat = 1 from rfl]
  exact Nat.mod_eq_of_lt (by omega)
theorem bt_rn (rw : Bool) : ∀ (k : Nat) (pr : List (List AV)) (pe se : BitVec 32) (en th : List (List AV)) (of ab be s : BitVec 32), 32 - s.toNat ≤ k → Rn btStep (.a rw pr pe se en th of ab be s) (.fine rw pr pe se en th (bestGo pr of k ab be s).1) := by
  intro k
  induction k with
  | zero =>
    intro pr pe se en th of ab be s hk
    have hs : s.ult 32#32 = false := by rw [ultN, show (32#32).toNat = 32 from rfl]; exact decide_eq_false (by omega)
    refine .last ?_
    simp only [btStep, hs, cond_false, bestGo]
  | succ k ih =>
    intro pr pe se en th of ab be s hk
    by_cases h : s.toNat < 32
    · have hs : s.ult 32#32 = true := by rw [ultN, show (32#32).toNat = 32 from rfl]; exact decide_eq_true h
      have hi := inc32 h
      cases hc : bestC pr of ab s with
      | true =>
        have hc' := hc
        unfold bestC at hc'
        simp only [Bool.and_eq_true] at hc'
        obtain ⟨c1, c2⟩ := hc'
        refine .next (y := .a rw pr pe se en th of (prOf pr s) s (s + 1#32)) ?_ ?_
        · unfold prOf at c2
          simp only [btStep, hs, c1, c2, nonneg_u32, decide_eq_true h, Bool.and_true, cond_true]
          rfl
        · simp only [bestGo, hs, hc, cond_true]
          exact ih pr pe se en th of _ _ _ (by omega)
      | false =>
        refine .next (y := .a rw pr pe se en th of ab be (s + 1#32)) ?_ ?_
        · unfold bestC prOf at hc
          simp only [btStep, hs, nonneg_u32, decide_eq_true h, Bool.and_true, cond_true]
          cases c1 : (of >>> min s.toNat 32 &&& 1#32 == 1#32) with
          | false => rfl
          | true =>
            rw [c1, Bool.true_and] at hc
            rw [hc]; rfl
        · simp only [bestGo, hs, hc, cond_true, cond_false]
          exact ih pr pe se en th of _ _ _ (by omega)
    · have hs : s.ult 32#32 = false := by rw [ultN, show (32#32).toNat = 32 from rfl]; exact decide_eq_false h
      refine .last ?_
      simp only [btStep, hs, cond_false, bestGo]
theorem btCps_ok (R : Type) (x : BtS) (K : Out → TM → Heap → Nat → Option R) (r : R) (h : btCps R x K = some r) : ∃ z, Rn btStep x z ∧ K (btO z) (tmOf [7] (btV z)) (btG z) (btM z) = some r := by
  cases x with
  | a rw pr pe se en th of ab be s => exact ⟨_, bt_rn rw 32 pr pe se en th of ab be s (by omega), h⟩
end Go.Sx

/- The interrupt controller: the best source by its registers. -/
import Derived.Test.YtaieimjeffedhaaVl12c
import Derived.Test.YtaieimjeffedhaaPlPlc3
set_option linter.unusedSimpArgs false
set_option linter.unusedVariables false
set_option linter.unnecessarySimpa false
namespace Go.Sx
open Go
def clP (pr : List (List AV)) (s : BitVec 64) : BitVec 64 := BitVec.setWidth 64 (cell32 pr s.toNat)
def clC (pr : List (List AV)) (may mo s : BitVec 64) : Bool := (may >>> min s.toNat 64 &&& 1#64 == 1#64) && mo.ult (clP pr s)
def clGo (pr : List (List AV)) (may : BitVec 64) : Nat → BitVec 64 → BitVec 64 → BitVec 64 → BitVec 64 × BitVec 64
  | 0, be, mo, _ => (be, mo)
  | k + 1, be, mo, s => cond (s.ult 32#64) (cond (clC pr may mo s) (clGo pr may k s (clP pr s) (s + 1#64)) (clGo pr may k be mo (s + 1#64))) (be, mo)
def v_clB (pr : List (List AV)) (may be mo s : BitVec 64) : BitVec 64 := (clGo pr may 32 be mo s).1
def v_clM (pr : List (List AV)) (may be mo s : BitVec 64) : BitVec 64 := (clGo pr may 32 be mo s).2
def clCps : Cps ClS := fun R x K => match x with
  | .a pr pe se en th ctx bits may lim be mo s => K (.exit 0) (tmOf [5, 6, 7, 9, 10, 11] [.ptr ⟨2, 0, 0, 0, 0⟩, .int .i64 ctx, .int .u64 bits, .int .u64 lim, .int .u64 (v_clB pr may be mo s), .int .u64 (v_clM pr may be mo s)])
      [(2, ⟨true, [.arr [.int .u32] 32 pr, .cell (.int .u32 pe), .cell (.int .u32 se), .arr [.int .u32] 2 en, .arr [.int .u32] 2 th]⟩)] 3
theorem inc64 {s : BitVec 64} (h : s.toNat < 32) : (s + 1#64).toNat = s.toNat + 1 := inc_nat (by omega)
theorem cl_rn (pr : List (List AV)) (pe se : BitVec 32) (en th : List (List AV)) (ctx bits may lim : BitVec 64) : ∀ (k : Nat) (be mo s : BitVec 64), 32 - s.toNat ≤ k → Rn clStep (.a pr pe se en th ctx bits may lim be mo s) (.fine pr pe se en th ctx bits lim (clGo pr may k be mo s).1 (clGo pr may k be mo s).2) := by
  intro k
  induction k with
  | zero =>
    intro be mo s hk
    have hs : s.ult 32#64 = false := by rw [ultN, show (32#64).toNat = 32 from rfl]; exact decide_eq_false (by omega)
    refine .last ?_
    simp only [clStep, hs, cond_false, clGo]
  | succ k ih =>
    intro be mo s hk
    by_cases h : s.toNat < 32
    · have hs : s.ult 32#64 = true := by rw [ultN, show (32#64).toNat = 32 from rfl]; exact decide_eq_true h
      have hi := inc64 h
      have hw := which_prio s h
      cases hc : clC pr may mo s with
      | true =>
        have hc' := hc
        unfold clC at hc'
        simp only [Bool.and_eq_true] at hc'
        obtain ⟨c1, c2⟩ := hc'
        refine .next (y := .a pr pe se en th ctx bits may lim s (clP pr s) (s + 1#64)) ?_ ?_
        · unfold clP cell32 at c2
          simp only [clStep, BitVec.setWidth_eq, hw, hs, c1, c2, nonneg_lt (show s.toNat < 2 ^ 63 by omega), decide_eq_true h, Bool.and_true, cond_true, cond_false, BitVec.reduceBEq]
          rfl
        · simp only [clGo, hs, hc, cond_true]
          exact ih _ _ _ (by omega)
      | false =>
        refine .next (y := .a pr pe se en th ctx bits may lim be mo (s + 1#64)) ?_ ?_
        · unfold clC clP cell32 at hc
          simp only [clStep, BitVec.setWidth_eq, hw, hs, nonneg_lt (show s.toNat < 2 ^ 63 by omega), decide_eq_true h, Bool.and_true, cond_true, cond_false, BitVec.reduceBEq]
          cases c1 : (may >>> min s.toNat 64 &&& 1#64 == 1#64) with
          | false => rfl
          | true =>
            rw [c1, Bool.true_and] at hc
            rw [hc]; rfl
        · simp only [clGo, hs, hc, cond_true, cond_false]
          exact ih _ _ _ (by omega)
    · have hs : s.ult 32#64 = false := by rw [ultN, show (32#64).toNat = 32 from rfl]; exact decide_eq_false h
      refine .last ?_
      simp only [clStep, hs, cond_false, clGo]
theorem clCps_ok (R : Type) (x : ClS) (K : Out → TM → Heap → Nat → Option R) (r : R) (h : clCps R x K = some r) : ∃ z, Rn clStep x z ∧ K (clO z) (tmOf [5, 6, 7, 9, 10, 11] (clV z)) (clG z) (clM z) = some r := by
  cases x with
  | a pr pe se en th ctx bits may lim be mo s => exact ⟨_, cl_rn pr pe se en th ctx bits may lim 32 be mo s (by omega), h⟩
/-- The controller behind a row of calls. -/
noncomputable def dnP (n : Nat) (d : List (List AV)) : PSt := v_dn (.a n n d zr32 0#32 0#32 zr2 zr2 0#64)
/-! both are the same -/
theorem bit_zext (x : BitVec 32) (s : Nat) (h : s < 32) : ((BitVec.setWidth 64 x) >>> min s 64 &&& 1#64 == 1#64) = (x >>> min s 32 &&& 1#32 == 1#32) := by
  rw [Nat.min_eq_left (by omega), Nat.min_eq_left (by omega), Bool.eq_iff_iff]
  simp only [beq_iff_eq, ← BitVec.toNat_inj, BitVec.toNat_and, BitVec.toNat_ushiftRight, BitVec.toNat_setWidth]
  have := x.isLt
  rw [Nat.mod_eq_of_lt (by omega)]
  rfl
theorem ult_zext (x y : BitVec 32) : (BitVec.setWidth 64 x).ult (BitVec.setWidth 64 y) = x.ult y := by
  have hx := x.isLt
  have hy := y.isLt
  rw [ultN, ultN, BitVec.toNat_setWidth, BitVec.toNat_setWidth, Nat.mod_eq_of_lt (by omega), Nat.mod_eq_of_lt (by omega)]
theorem zext_nat (x : BitVec 32) : (BitVec.setWidth 64 x).toNat = x.toNat := by
  have hx := x.isLt
  rw [BitVec.toNat_setWidth, Nat.mod_eq_of_lt (by omega)]
theorem cl_best (pr : List (List AV)) (of : BitVec 32) : ∀ (k : Nat) (ab be s : BitVec 32), s.toNat ≤ 32 → clGo pr (BitVec.setWidth 64 of) k (BitVec.setWidth 64 be) (BitVec.setWidth 64 ab) (BitVec.setWidth 64 s) = (BitVec.setWidth 64 (bestGo pr of k ab be s).1, BitVec.setWidth 64 (bestGo pr of k ab be s).2)
  | 0, ab, be, s, h => rfl
  | k + 1, ab, be, s, h => by
    unfold clGo bestGo
    rw [ultN, zext_nat, show (32#64).toNat = 32 from rfl, ultN, show (32#32).toNat = 32 from rfl]
    by_cases hs : s.toNat < 32
    · rw [decide_eq_true hs]
      simp only [cond_true]
      have hn : clP pr (BitVec.setWidth 64 s) = BitVec.setWidth 64 (prOf pr s) := by unfold clP; rw [zext_nat]; rfl
      have hc : clC pr (BitVec.setWidth 64 of) (BitVec.setWidth 64 ab) (BitVec.setWidth 64 s) = bestC pr of ab s := by
        unfold clC bestC
        rw [hn, ult_zext, zext_nat, bit_zext of s.toNat hs]
      have hi : BitVec.setWidth 64 s + 1#64 = BitVec.setWidth 64 (s + 1#32) := by
        apply BitVec.eq_of_toNat_eq
        rw [zext_nat, inc32 hs, inc_nat (by rw [zext_nat]; omega), zext_nat]
      rw [hc, hn, hi]
      cases bestC pr of ab s with
      | true => exact cl_best pr of k _ _ _ (by rw [inc32 hs]; omega)
      | false => exact cl_best pr of k _ _ _ (by rw [inc32 hs]; omega)
    · rw [decide_eq_false hs]; rfl
/-- The greatest priority of those that are of some, from one on. -/
def mxP (pr : List (List AV)) (of : BitVec 32) : Nat → BitVec 32 → Nat
  | 0, _ => 0
  | k + 1, s => if s.toNat < 32 then max (if (of >>> min s.toNat 32 &&& 1#32 == 1#32) then (prOf pr s).toNat else 0) (mxP pr of k (s + 1#32)) else 0
theorem best_snd (pr : List (List AV)) (of : BitVec 32) : ∀ (k : Nat) (ab be s : BitVec 32), (bestGo pr of k ab be s).2.toNat = max ab.toNat (mxP pr of k s)
  | 0, ab, be, s => by simp [bestGo, mxP]
  | k + 1, ab, be, s => by
    unfold bestGo mxP
    rw [ultN, show (32#32).toNat = 32 from rfl]
    by_cases hs : s.toNat < 32
    · rw [decide_eq_true hs, if_pos hs]
      simp only [cond_true]
      unfold bestC
      rw [ultN]
      cases hb : (of >>> min s.toNat 32 &&& 1#32 == 1#32) with
      | false =>
        simp only [Bool.false_and, cond_false, Bool.false_eq_true, if_false]
        rw [best_snd]; omega
      | true =>
        simp only [Bool.true_and, if_true]
        by_cases hp : ab.toNat < (prOf pr s).toNat
        · rw [decide_eq_true hp]; simp only [cond_true]; rw [best_snd]; omega
        · rw [decide_eq_false hp]; simp only [cond_false]; rw [best_snd]; omega
    · rw [decide_eq_false hs, if_neg hs]; simp
theorem best_pos (pr : List (List AV)) (of : BitVec 32) : ∀ (k : Nat) (ab be s : BitVec 32), 0 < s.toNat → (0 < (bestGo pr of k ab be s).1.toNat ↔ 0 < be.toNat ∨ ab.toNat < mxP pr of k s)
  | 0, ab, be, s, h => by simp [bestGo, mxP]
  | k + 1, ab, be, s, h => by
    unfold bestGo mxP
    rw [ultN, show (32#32).toNat = 32 from rfl]
    by_cases hs : s.toNat < 32
    · rw [decide_eq_true hs, if_pos hs]
      simp only [cond_true]
      have h1 : 0 < (s + 1#32).toNat := by rw [inc32 hs]; omega
      unfold bestC
      rw [ultN]
      cases hb : (of >>> min s.toNat 32 &&& 1#32 == 1#32) with
      | false =>
        simp only [Bool.false_and, cond_false, Bool.false_eq_true, if_false]
        rw [best_pos pr of k _ _ _ h1]; omega
      | true =>
        simp only [Bool.true_and, if_true]
        by_cases hp : ab.toNat < (prOf pr s).toNat
        · rw [decide_eq_true hp]; simp only [cond_true]; rw [best_pos pr of k _ _ _ h1]; omega
        · rw [decide_eq_false hp]; simp only [cond_false]; rw [best_pos pr of k _ _ _ h1]; omega
    · rw [decide_eq_false hs, if_neg hs]; simp
end Go.Sx

/- The document's interrupt controller: its loops. -/
import Derived.Test.YtaieimjeffedhaaVl12x
import Derived.Test.YtaieimjeffedhaaPlPlc
set_option linter.unusedSimpArgs false
set_option linter.unusedVariables false
set_option linter.unnecessarySimpa false
namespace Go.Sx
open Go
def xP (L : List (List AV)) (s : Nat) : BitVec 64 := asI64 ((L.getD s []).headD .any)
def xQ (L : List (List AV)) (s : Nat) : Bool := ((L.getD s []).tail.headD .any).asBool
def xV (L : List (List AV)) (s : Nat) : Bool := ((L.getD s []).tail.tail.headD .any).asBool
def xA (L : List (List AV)) (s : Nat) : Bool := ((L.getD s []).tail.tail.tail.headD .any).asBool
def xB (L : List (List AV)) (s : Nat) : Bool := ((L.getD s []).tail.tail.tail.tail.headD .any).asBool
def xRow (p : BitVec 64) (q v a b : Bool) : List AV := [.int .i64 p, .bool q, .bool v, .bool a, .bool b]
theorem asBool_if (b : Bool) : AV.asBool (.bool b) = b := rfl
/-! ### lines -/
def xlHi (m : BitVec 32) (s : BitVec 64) : Bool := m >>> min (BitVec.signExtend 64 s).toNat 32 % 2#32 == 1#32
def xlSet (L : List (List AV)) (m : BitVec 32) (s : BitVec 64) : List (List AV) := L.set s.toNat (xRow (xP L s.toNat) (xlHi m s && !xV L s.toNat) (xV L s.toNat) (xA L s.toNat) (xB L s.toNat))
def xlGo (m : BitVec 32) : Nat → BitVec 64 → List (List AV) → List (List AV)
  | 0, _, L => L
  | k + 1, s, L => cond (s.slt 32#64) (xlGo m k (s + 1#64) (xlSet L m s)) L
def v_xl (L : List (List AV)) (m : BitVec 32) (s : BitVec 64) : List (List AV) := xlGo m 32 s L
theorem xl_rn (T : List (List AV)) (m : BitVec 32) : ∀ (k : Nat) (s : BitVec 64) (L : List (List AV)), L.length = 32 → s.toNat ≤ 32 → 32 - s.toNat ≤ k → Rn xlStep (.a L T m s) (.fine (xlGo m k s L) T) := by
  intro k
  induction k with
  | zero =>
    intro s L hL hs hk
    have h1 : s.slt 32#64 = false := by rw [slt_nat (by omega) (by decide), show (32#64).toNat = 32 from rfl]; exact decide_eq_false (by omega)
    refine .last ?_
    simp only [xlStep, h1, cond_false, xlGo]
  | succ k ih =>
    intro s L hL hs hk
    by_cases h : s.toNat < 32
    · have h1 : s.slt 32#64 = true := by rw [slt_nat (by omega) (by decide), show (32#64).toNat = 32 from rfl]; exact decide_eq_true h
      have hi := inc_nat (show s.toNat < 2 ^ 63 by omega)
      refine .next (y := .a (xlSet L m s) T m (s + 1#64)) ?_ ?_
      · simp only [xlStep, h1, nonneg_lt (show s.toNat < 2 ^ 63 by omega), hL, decide_eq_true h, Bool.and_true, cond_true]
        unfold xlSet xlHi xP xV xA xB xRow
        cases (m >>> min (BitVec.signExtend 64 s).toNat 32 % 2#32 == 1#32) <;> rfl
      · simp only [xlGo, h1, cond_true]
        exact ih (s + 1#64) _ (by unfold xlSet; simpa using hL) (by omega) (by omega)
    · have h1 : s.slt 32#64 = false := by rw [slt_nat (by omega) (by decide), show (32#64).toNat = 32 from rfl]; exact decide_eq_false h
      refine .last ?_
      simp only [xlStep, h1, cond_false, xlGo]
def xlCps : Cps XlS := fun R x K => match x with
  | .a L T m s => cond (Nat.beq L.length 32 && s == 1#64) (K (.exit 0) (tmOf [] []) [(0, ⟨true, [.arr [.int .i64, .bool, .bool, .bool, .bool] 32 (v_xl L m s), .arr [.int .i64] 2 T]⟩)] 1) none
theorem xlCps_ok (R : Type) (x : XlS) (K : Out → TM → Heap → Nat → Option R) (r : R) (h : xlCps R x K = some r) : ∃ z, Rn xlStep x z ∧ K (xlO z) (tmOf [] (xlV z)) (xlG z) (xlM z) = some r := by
  cases x with
  | a L T m s =>
    unfold xlCps at h
    simp only at h
    cases hg : (Nat.beq L.length 32 && s == 1#64) with
    | false => rw [hg] at h; simp at h
    | true =>
      rw [hg] at h
      simp only [Bool.and_eq_true, beq_true, beq_iff_eq] at hg
      obtain ⟨h1, rfl⟩ := hg
      exact ⟨_, xl_rn T m 32 1#64 L h1 (by decide) (by decide), h⟩
/-! ### counting down -/
def downS (k : Nat) : BitVec 64 := BitVec.ofNat 64 k - 1#64
theorem downS_succ (k : Nat) : downS (k + 1) = BitVec.ofNat 64 k := by
  unfold downS
  apply BitVec.eq_of_toNat_eq
  simp only [BitVec.toNat_sub, BitVec.toNat_ofNat]
  omega
theorem downS_nat (k : Nat) (h : k < 32) : (downS (k + 1)).toNat = k := by rw [downS_succ]; exact ofNat_toNat (by omega)
theorem downS_next (k : Nat) : downS (k + 1) - 1#64 = downS k := by rw [downS_succ]; rfl
theorem downS_ge (k : Nat) (h : k < 32) : (0#64).sle (downS (k + 1)) = true := by
  have e := downS_nat k h
  rw [sle_nat (by decide) (by omega)]
  exact decide_eq_true (by simp)
theorem downS_zero : (0#64).sle (downS 0) = false := by decide
/-! ### bits -/
def xiGo (f : Nat → Bool) : Nat → BitVec 64 → BitVec 64
  | 0, v => v
  | k + 1, v => xiGo f k (cond (f k) (2#64 * v + 1#64) (2#64 * v))
def v_xi (f : Nat → Bool) (v : BitVec 64) : BitVec 64 := xiGo f 32 v
theorem xi_c0 (rw : Bool) (L T : List (List AV)) : ∀ (k : Nat) (v : BitVec 64), k ≤ 32 → Rn xiStep (.c0 rw L T v (downS k)) (.fine rw L T (xiGo (xA L) k v)) := by
  intro k
  induction k with
  | zero => intro v hk; refine .last ?_; simp only [xiStep, downS_zero, cond_false, xiGo]
  | succ k ih =>
    intro v hk
    have e := downS_nat k (by omega)
    refine .next (y := .c0 rw L T (cond (xA L k) (2#64 * v + 1#64) (2#64 * v)) (downS k)) ?_ (ih _ (by omega))
    simp only [xiStep, downS_ge k (by omega), downS_next, nonneg_lt (show (downS (k + 1)).toNat < 2 ^ 63 by omega), e, decide_eq_true (show k < 32 by omega), Bool.and_true, cond_true]
    cases h : xA L k <;> (unfold xA at h; rw [h]; rfl)
theorem xi_c1 (rw : Bool) (L T : List (List AV)) : ∀ (k : Nat) (v : BitVec 64), k ≤ 32 → Rn xiStep (.c1 rw L T v (downS k)) (.fine rw L T (xiGo (xB L) k v)) := by
  intro k
  induction k with
  | zero => intro v hk; refine .last ?_; simp only [xiStep, downS_zero, cond_false, xiGo]
  | succ k ih =>
    intro v hk
    have e := downS_nat k (by omega)
    refine .next (y := .c1 rw L T (cond (xB L k) (2#64 * v + 1#64) (2#64 * v)) (downS k)) ?_ (ih _ (by omega))
    simp only [xiStep, downS_ge k (by omega), downS_next, nonneg_lt (show (downS (k + 1)).toNat < 2 ^ 63 by omega), e, decide_eq_true (show k < 32 by omega), Bool.and_true, cond_true]
    cases h : xB L k <;> (unfold xB at h; rw [h]; rfl)
theorem xi_c2 (rw : Bool) (L T : List (List AV)) : ∀ (k : Nat) (v : BitVec 64), k ≤ 32 → Rn xiStep (.c2 rw L T v (downS k)) (.fine rw L T (xiGo (xQ L) k v)) := by
  intro k
  induction k with
  | zero => intro v hk; refine .last ?_; simp only [xiStep, downS_zero, cond_false, xiGo]
  | succ k ih =>
    intro v hk
    have e := downS_nat k (by omega)
    refine .next (y := .c2 rw L T (cond (xQ L k) (2#64 * v + 1#64) (2#64 * v)) (downS k)) ?_ (ih _ (by omega))
    simp only [xiStep, downS_ge k (by omega), downS_next, nonneg_lt (show (downS (k + 1)).toNat < 2 ^ 63 by omega), e, decide_eq_true (show k < 32 by omega), Bool.and_true, cond_true]
    cases h : xQ L k <;> (unfold xQ at h; rw [h]; rfl)
def xiCps : Cps XiS := fun R x K => match x with
  | .c0 rw L T v s => cond (s == 31#64) (K (.exit 0) (tmOf [5] [.int .u64 (v_xi (xA L) v)]) [(0, ⟨rw, [.arr [.int .i64, .bool, .bool, .bool, .bool] 32 L, .arr [.int .i64] 2 T]⟩)] 1) none
  | .c1 rw L T v s => cond (s == 31#64) (K (.exit 0) (tmOf [5] [.int .u64 (v_xi (xB L) v)]) [(0, ⟨rw, [.arr [.int .i64, .bool, .bool, .bool, .bool] 32 L, .arr [.int .i64] 2 T]⟩)] 1) none
  | .c2 rw L T v s => cond (s == 31#64) (K (.exit 0) (tmOf [5] [.int .u64 (v_xi (xQ L) v)]) [(0, ⟨rw, [.arr [.int .i64, .bool, .bool, .bool, .bool] 32 L, .arr [.int .i64] 2 T]⟩)] 1) none
theorem xiCps_ok (R : Type) (x : XiS) (K : Out → TM → Heap → Nat → Option R) (r : R) (h : xiCps R x K = some r) : ∃ z, Rn xiStep x z ∧ K (xiO z) (tmOf [5] (xiV z)) (xiG z) (xiM z) = some r := by
  have key : ∀ (s : BitVec 64) (X : Option R), cond (s == 31#64) X none = some r → s = downS 32 ∧ X = some r := by
    intro s X hx
    cases hs : (s == 31#64) with
    | false => rw [hs] at hx; simp at hx
    | true => rw [hs] at hx; exact ⟨by rw [beq_iff_eq] at hs; rw [hs]; rfl, hx⟩
  cases x with
  | c0 rw L T v s => obtain ⟨rfl, h⟩ := key s _ h; exact ⟨_, xi_c0 rw L T 32 v (by decide), h⟩
  | c1 rw L T v s => obtain ⟨rfl, h⟩ := key s _ h; exact ⟨_, xi_c1 rw L T 32 v (by decide), h⟩
  | c2 rw L T v s => obtain ⟨rfl, h⟩ := key s _ h; exact ⟨_, xi_c2 rw L T 32 v (by decide), h⟩
/-! ### the best -/
def xbC (L : List (List AV)) (f : Nat → Bool) (be : BitVec 64) (k : Nat) : Bool := xQ L k && (f k && ((0#64).slt (xP L k) && (xP L be.toNat).sle (xP L k)))
def xbGo (L : List (List AV)) (f : Nat → Bool) : Nat → BitVec 64 → BitVec 64
  | 0, be => be
  | k + 1, be => xbGo L f k (cond (xbC L f be (k + 1)) (BitVec.ofNat 64 (k + 1)) be)
def v_xb (L : List (List AV)) (f : Nat → Bool) : BitVec 64 := xbGo L f 31 0#64
theorem ofNat_pred (k : Nat) : BitVec.ofNat 64 (k + 1) - 1#64 = BitVec.ofNat 64 k := downS_succ k
theorem xb_c0 (rw : Bool) (L T : List (List AV)) : ∀ (k : Nat) (be : BitVec 64), k ≤ 31 → be.toNat < 32 → Rn xbStep (.c0 rw L T be (BitVec.ofNat 64 k)) (.fine rw L T (xbGo L (xA L) k be)) := by
  intro k
  induction k with
  | zero => intro be hk hb; refine .last ?_; rfl
  | succ k ih =>
    intro be hk hb
    have e : (BitVec.ofNat 64 (k + 1)).toNat = k + 1 := ofNat_toNat (by omega)
    have h1 : (1#64).sle (BitVec.ofNat 64 (k + 1)) = true := by rw [sle_nat (by decide) (by omega), e]; exact decide_eq_true (by rw [show (1#64).toNat = 1 from rfl]; omega)
    refine .next (y := .c0 rw L T (cond (xbC L (xA L) be (k + 1)) (BitVec.ofNat 64 (k + 1)) be) (BitVec.ofNat 64 k)) ?_ (ih _ (by omega) (by cases xbC L (xA L) be (k + 1) with | true => simp only [cond_true]; omega | false => exact hb))
    simp only [xbStep, h1, ofNat_pred, nonneg_lt (show (BitVec.ofNat 64 (k + 1)).toNat < 2 ^ 63 by omega), nonneg_lt (show be.toNat < 2 ^ 63 by omega), e, decide_eq_true (show k + 1 < 32 by omega), decide_eq_true hb, Bool.and_true, cond_true, asBool_mk]
    unfold xbC xQ xA xP
    cases ((L.getD (k + 1) []).tail.headD AV.any).asBool <;> cases ((L.getD (k + 1) []).tail.tail.tail.headD AV.any).asBool <;> cases (0#64).slt (asI64 ((L.getD (k + 1) []).headD AV.any)) <;> cases (asI64 ((L.getD be.toNat []).headD AV.any)).sle (asI64 ((L.getD (k + 1) []).headD AV.any)) <;> rfl
theorem xb_c1 (rw : Bool) (L T : List (List AV)) : ∀ (k : Nat) (be : BitVec 64), k ≤ 31 → be.toNat < 32 → Rn xbStep (.c1 rw L T be (BitVec.ofNat 64 k)) (.fine rw L T (xbGo L (xB L) k be)) := by
  intro k
  induction k with
  | zero => intro be hk hb; refine .last ?_; rfl
  | succ k ih =>
    intro be hk hb
    have e : (BitVec.ofNat 64 (k + 1)).toNat = k + 1 := ofNat_toNat (by omega)
    have h1 : (1#64).sle (BitVec.ofNat 64 (k + 1)) = true := by rw [sle_nat (by decide) (by omega), e]; exact decide_eq_true (by rw [show (1#64).toNat = 1 from rfl]; omega)
    refine .next (y := .c1 rw L T (cond (xbC L (xB L) be (k + 1)) (BitVec.ofNat 64 (k + 1)) be) (BitVec.ofNat 64 k)) ?_ (ih _ (by omega) (by cases xbC L (xB L) be (k + 1) with | true => simp only [cond_true]; omega | false => exact hb))
    simp only [xbStep, h1, ofNat_pred, nonneg_lt (show (BitVec.ofNat 64 (k + 1)).toNat < 2 ^ 63 by omega), nonneg_lt (show be.toNat < 2 ^ 63 by omega), e, decide_eq_true (show k + 1 < 32 by omega), decide_eq_true hb, Bool.and_true, cond_true, asBool_mk]
    unfold xbC xQ xB xP
    cases ((L.getD (k + 1) []).tail.headD AV.any).asBool <;> cases ((L.getD (k + 1) []).tail.tail.tail.tail.headD AV.any).asBool <;> cases (0#64).slt (asI64 ((L.getD (k + 1) []).headD AV.any)) <;> cases (asI64 ((L.getD be.toNat []).headD AV.any)).sle (asI64 ((L.getD (k + 1) []).headD AV.any)) <;> rfl
def xbCps : Cps XbS := fun R x K => match x with
  | .c0 rw L T be s => cond (s == 31#64 && be == 0#64) (K (.exit 0) (tmOf [5] [.int .i64 (v_xb L (xA L))]) [(0, ⟨rw, [.arr [.int .i64, .bool, .bool, .bool, .bool] 32 L, .arr [.int .i64] 2 T]⟩)] 1) none
  | .c1 rw L T be s => cond (s == 31#64 && be == 0#64) (K (.exit 0) (tmOf [5] [.int .i64 (v_xb L (xB L))]) [(0, ⟨rw, [.arr [.int .i64, .bool, .bool, .bool, .bool] 32 L, .arr [.int .i64] 2 T]⟩)] 1) none
theorem xbCps_ok (R : Type) (x : XbS) (K : Out → TM → Heap → Nat → Option R) (r : R) (h : xbCps R x K = some r) : ∃ z, Rn xbStep x z ∧ K (xbO z) (tmOf [5] (xbV z)) (xbG z) (xbM z) = some r := by
  have key : ∀ (s be : BitVec 64) (X : Option R), cond (s == 31#64 && be == 0#64) X none = some r → s = BitVec.ofNat 64 31 ∧ be = 0#64 ∧ X = some r := by
    intro s be X hx
    cases hs : (s == 31#64 && be == 0#64) with
    | false => rw [hs] at hx; simp at hx
    | true =>
      rw [hs] at hx
      simp only [Bool.and_eq_true, beq_iff_eq] at hs
      exact ⟨hs.1, hs.2, hx⟩
  cases x with
  | c0 rw L T be s => obtain ⟨rfl, rfl, h⟩ := key s be _ h; exact ⟨_, xb_c0 rw L T 31 0#64 (by decide) (by decide), h⟩
  | c1 rw L T be s => obtain ⟨rfl, rfl, h⟩ := key s be _ h; exact ⟨_, xb_c1 rw L T 31 0#64 (by decide) (by decide), h⟩
/-! ### enabled -/
def xeHi (v : BitVec 64) (s : BitVec 64) : Bool := v >>> min (BitVec.signExtend 64 s).toNat 64 % 2#64 == 1#64
def xeASet (L : List (List AV)) (v s : BitVec 64) : List (List AV) := L.set s.toNat (xRow (xP L s.toNat) (xQ L s.toNat) (xV L s.toNat) (xeHi v s) (xB L s.toNat))
def xeAGo (v : BitVec 64) : Nat → BitVec 64 → List (List AV) → List (List AV)
  | 0, _, L => L
  | k + 1, s, L => cond (s.slt 32#64) (xeAGo v k (s + 1#64) (xeASet L v s)) L
def v_xeA (L : List (List AV)) (v s : BitVec 64) : List (List AV) := xeAGo v 32 s L
theorem xe_c0 (T : List (List AV)) (v : BitVec 64) : ∀ (k : Nat) (s : BitVec 64) (L : List (List AV)), L.length = 32 → s.toNat ≤ 32 → 32 - s.toNat ≤ k → Rn xeStep (.c0 L T v s) (.fine (xeAGo v k s L) T) := by
  intro k
  induction k with
  | zero =>
    intro s L hL hs hk
    have h1 : s.slt 32#64 = false := by rw [slt_nat (by omega) (by decide), show (32#64).toNat = 32 from rfl]; exact decide_eq_false (by omega)
    refine .last ?_
    simp only [xeStep, h1, cond_false, xeAGo]
  | succ k ih =>
    intro s L hL hs hk
    by_cases h : s.toNat < 32
    · have h1 : s.slt 32#64 = true := by rw [slt_nat (by omega) (by decide), show (32#64).toNat = 32 from rfl]; exact decide_eq_true h
      have hi := inc_nat (show s.toNat < 2 ^ 63 by omega)
      refine .next (y := .c0 (xeASet L v s) T v (s + 1#64)) ?_ ?_
      · simp only [xeStep, h1, nonneg_lt (show s.toNat < 2 ^ 63 by omega), hL, decide_eq_true h, Bool.and_true, cond_true]
        rfl
      · simp only [xeAGo, h1, cond_true]
        exact ih (s + 1#64) _ (by unfold xeASet; simpa using hL) (by omega) (by omega)
    · have h1 : s.slt 32#64 = false := by rw [slt_nat (by omega) (by decide), show (32#64).toNat = 32 from rfl]; exact decide_eq_false h
      refine .last ?_
      simp only [xeStep, h1, cond_false, xeAGo]
def xeBSet (L : List (List AV)) (v s : BitVec 64) : List (List AV) := L.set s.toNat (xRow (xP L s.toNat) (xQ L s.toNat) (xV L s.toNat) (xA L s.toNat) (xeHi v s))
def xeBGo (v : BitVec 64) : Nat → BitVec 64 → List (List AV) → List (List AV)
  | 0, _, L => L
  | k + 1, s, L => cond (s.slt 32#64) (xeBGo v k (s + 1#64) (xeBSet L v s)) L
def v_xeB (L : List (List AV)) (v s : BitVec 64) : List (List AV) := xeBGo v 32 s L
theorem xe_c1 (T : List (List AV)) (v : BitVec 64) : ∀ (k : Nat) (s : BitVec 64) (L : List (List AV)), L.length = 32 → s.toNat ≤ 32 → 32 - s.toNat ≤ k → Rn xeStep (.c1 L T v s) (.fine (xeBGo v k s L) T) := by
  intro k
  induction k with
  | zero =>
    intro s L hL hs hk
    have h1 : s.slt 32#64 = false := by rw [slt_nat (by omega) (by decide), show (32#64).toNat = 32 from rfl]; exact decide_eq_false (by omega)
    refine .last ?_
    simp only [xeStep, h1, cond_false, xeBGo]
  | succ k ih =>
    intro s L hL hs hk
    by_cases h : s.toNat < 32
    · have h1 : s.slt 32#64 = true := by rw [slt_nat (by omega) (by decide), show (32#64).toNat = 32 from rfl]; exact decide_eq_true h
      have hi := inc_nat (show s.toNat < 2 ^ 63 by omega)
      refine .next (y := .c1 (xeBSet L v s) T v (s + 1#64)) ?_ ?_
      · simp only [xeStep, h1, nonneg_lt (show s.toNat < 2 ^ 63 by omega), hL, decide_eq_true h, Bool.and_true, cond_true]
        rfl
      · simp only [xeBGo, h1, cond_true]
        exact ih (s + 1#64) _ (by unfold xeBSet; simpa using hL) (by omega) (by omega)
    · have h1 : s.slt 32#64 = false := by rw [slt_nat (by omega) (by decide), show (32#64).toNat = 32 from rfl]; exact decide_eq_false h
      refine .last ?_
      simp only [xeStep, h1, cond_false, xeBGo]
def xeCps : Cps XeS := fun R x K => match x with
  | .c0 L T v s => cond (Nat.beq L.length 32 && s == 1#64) (K (.exit 0) (tmOf [] []) [(0, ⟨true, [.arr [.int .i64, .bool, .bool, .bool, .bool] 32 (v_xeA L v s), .arr [.int .i64] 2 T]⟩)] 1) none
  | .c1 L T v s => cond (Nat.beq L.length 32 && s == 1#64) (K (.exit 0) (tmOf [] []) [(0, ⟨true, [.arr [.int .i64, .bool, .bool, .bool, .bool] 32 (v_xeB L v s), .arr [.int .i64] 2 T]⟩)] 1) none
theorem xeCps_ok (R : Type) (x : XeS) (K : Out → TM → Heap → Nat → Option R) (r : R) (h : xeCps R x K = some r) : ∃ z, Rn xeStep x z ∧ K (xeO z) (tmOf [] (xeV z)) (xeG z) (xeM z) = some r := by
  have key : ∀ (L : List (List AV)) (s : BitVec 64) (X : Option R), cond (Nat.beq L.length 32 && s == 1#64) X none = some r → L.length = 32 ∧ s = 1#64 ∧ X = some r := by
    intro L s X hx
    cases hs : (Nat.beq L.length 32 && s == 1#64) with
    | false => rw [hs] at hx; simp at hx
    | true =>
      rw [hs] at hx
      simp only [Bool.and_eq_true, beq_true, beq_iff_eq] at hs
      exact ⟨hs.1, hs.2, hx⟩
  cases x with
  | c0 L T v s => obtain ⟨h1, rfl, h⟩ := key L s _ h; exact ⟨_, xe_c0 T v 32 1#64 L h1 (by decide) (by decide), h⟩
  | c1 L T v s => obtain ⟨h1, rfl, h⟩ := key L s _ h; exact ⟨_, xe_c1 T v 32 1#64 L h1 (by decide) (by decide), h⟩
/-! ### pending -/
def xT (T : List (List AV)) (k : Nat) : BitVec 64 := asI64 ((T.getD k []).headD .any)
def xpC (L : List (List AV)) (f : Nat → Bool) (t : BitVec 64) (s : Nat) : Bool := xQ L s && (f s && t.slt (xP L s))
def xpGo (L : List (List AV)) (f : Nat → Bool) (t : BitVec 64) : Nat → BitVec 64 → Bool
  | 0, _ => false
  | k + 1, s => cond (s.slt 32#64) (cond (xpC L f t s.toNat) true (xpGo L f t k (s + 1#64))) false
def v_xp (L : List (List AV)) (f : Nat → Bool) (t : BitVec 64) : Bool := xpGo L f t 32 1#64
theorem xp_c0 (rw : Bool) (L T : List (List AV)) : ∀ (k : Nat) (s : BitVec 64), s.toNat ≤ 32 → 32 - s.toNat ≤ k → Rn xpStep (.c0 rw L T s) (cond (xpGo L (xA L) (xT T 0) k s) (.yes rw L T 2) (.no rw L T)) := by
  intro k
  induction k with
  | zero =>
    intro s hs hk
    have h1 : s.slt 32#64 = false := by rw [slt_nat (by omega) (by decide), show (32#64).toNat = 32 from rfl]; exact decide_eq_false (by omega)
    refine .last ?_
    simp only [xpStep, h1, cond_false, xpGo]
  | succ k ih =>
    intro s hs hk
    by_cases h : s.toNat < 32
    · have h1 : s.slt 32#64 = true := by rw [slt_nat (by omega) (by decide), show (32#64).toNat = 32 from rfl]; exact decide_eq_true h
      have hi := inc_nat (show s.toNat < 2 ^ 63 by omega)
      have hstep : xpStep (.c0 rw L T s) = cond (xpC L (xA L) (xT T 0) s.toNat) (some (.inr (.yes rw L T 2))) (some (.inl (.c0 rw L T (s + 1#64)))) := by
        simp only [xpStep, h1, nonneg_lt (show s.toNat < 2 ^ 63 by omega), decide_eq_true h, Bool.and_true, cond_true, asBool_mk]
        unfold xpC xQ xA xP xT
        cases ((L.getD s.toNat []).tail.headD AV.any).asBool <;> cases ((L.getD s.toNat []).tail.tail.tail.headD AV.any).asBool <;> rfl
      simp only [xpGo, h1, cond_true]
      cases hc : xpC L (xA L) (xT T 0) s.toNat with
      | true => rw [hc] at hstep; exact .last hstep
      | false => rw [hc] at hstep; exact .next hstep (ih (s + 1#64) (by omega) (by omega))
    · have h1 : s.slt 32#64 = false := by rw [slt_nat (by omega) (by decide), show (32#64).toNat = 32 from rfl]; exact decide_eq_false h
      refine .last ?_
      simp only [xpStep, h1, cond_false, xpGo]
theorem xp_c1 (rw : Bool) (L T : List (List AV)) : ∀ (k : Nat) (s : BitVec 64), s.toNat ≤ 32 → 32 - s.toNat ≤ k → Rn xpStep (.c1 rw L T s) (cond (xpGo L (xB L) (xT T 1) k s) (.yes rw L T 2) (.no rw L T)) := by
  intro k
  induction k with
  | zero =>
    intro s hs hk
    have h1 : s.slt 32#64 = false := by rw [slt_nat (by omega) (by decide), show (32#64).toNat = 32 from rfl]; exact decide_eq_false (by omega)
    refine .last ?_
    simp only [xpStep, h1, cond_false, xpGo]
  | succ k ih =>
    intro s hs hk
    by_cases h : s.toNat < 32
    · have h1 : s.slt 32#64 = true := by rw [slt_nat (by omega) (by decide), show (32#64).toNat = 32 from rfl]; exact decide_eq_true h
      have hi := inc_nat (show s.toNat < 2 ^ 63 by omega)
      have hstep : xpStep (.c1 rw L T s) = cond (xpC L (xB L) (xT T 1) s.toNat) (some (.inr (.yes rw L T 2))) (some (.inl (.c1 rw L T (s + 1#64)))) := by
        simp only [xpStep, h1, nonneg_lt (show s.toNat < 2 ^ 63 by omega), decide_eq_true h, Bool.and_true, cond_true, asBool_mk]
        unfold xpC xQ xB xP xT
        cases ((L.getD s.toNat []).tail.headD AV.any).asBool <;> cases ((L.getD s.toNat []).tail.tail.tail.tail.headD AV.any).asBool <;> rfl
      simp only [xpGo, h1, cond_true]
      cases hc : xpC L (xB L) (xT T 1) s.toNat with
      | true => rw [hc] at hstep; exact .last hstep
      | false => rw [hc] at hstep; exact .next hstep (ih (s + 1#64) (by omega) (by omega))
    · have h1 : s.slt 32#64 = false := by rw [slt_nat (by omega) (by decide), show (32#64).toNat = 32 from rfl]; exact decide_eq_false h
      refine .last ?_
      simp only [xpStep, h1, cond_false, xpGo]
def xpCps : Cps XpS := fun R x K => match x with
  | .c0 rw L T s => cond (s == 1#64) (cond (v_xp L (xA L) (xT T 0)) (K .ret (tmOf [4] [.bool true]) [(0, ⟨rw, [.arr [.int .i64, .bool, .bool, .bool, .bool] 32 L, .arr [.int .i64] 2 T]⟩)] 2) (K (.exit 0) (tmOf [4] [.any]) [(0, ⟨rw, [.arr [.int .i64, .bool, .bool, .bool, .bool] 32 L, .arr [.int .i64] 2 T]⟩)] 1)) none
  | .c1 rw L T s => cond (s == 1#64) (cond (v_xp L (xB L) (xT T 1)) (K .ret (tmOf [4] [.bool true]) [(0, ⟨rw, [.arr [.int .i64, .bool, .bool, .bool, .bool] 32 L, .arr [.int .i64] 2 T]⟩)] 2) (K (.exit 0) (tmOf [4] [.any]) [(0, ⟨rw, [.arr [.int .i64, .bool, .bool, .bool, .bool] 32 L, .arr [.int .i64] 2 T]⟩)] 1)) none
theorem xpCps_ok (R : Type) (x : XpS) (K : Out → TM → Heap → Nat → Option R) (r : R) (h : xpCps R x K = some r) : ∃ z, Rn xpStep x z ∧ K (xpO z) (tmOf [4] (xpV z)) (xpG z) (xpM z) = some r := by
  cases x with
  | c0 rw L T s =>
    unfold xpCps at h
    simp only at h
    cases hs : (s == 1#64) with
    | false => rw [hs] at h; simp at h
    | true =>
      rw [hs] at h
      simp only [cond_true] at h
      rw [beq_iff_eq] at hs
      subst hs
      refine ⟨_, xp_c0 rw L T 32 1#64 (by decide) (by decide), ?_⟩
      unfold v_xp at h
      cases hv : xpGo L (xA L) (xT T 0) 32 1#64 <;> (rw [hv] at h; exact h)
  | c1 rw L T s =>
    unfold xpCps at h
    simp only at h
    cases hs : (s == 1#64) with
    | false => rw [hs] at h; simp at h
    | true =>
      rw [hs] at h
      simp only [cond_true] at h
      rw [beq_iff_eq] at hs
      subst hs
      refine ⟨_, xp_c1 rw L T 32 1#64 (by decide) (by decide), ?_⟩
      unfold v_xp at h
      cases hv : xpGo L (xB L) (xT T 1) 32 1#64 <;> (rw [hv] at h; exact h)
end Go.Sx

/- Lists held against one another, one by one. -/
import Derived.Test.YtkbcfbehebbmhaaVl11s
import Derived.Test.YtkbcfbehebbmhaaPlN
set_option linter.unusedSimpArgs false
set_option linter.unusedVariables false
set_option linter.unnecessarySimpa false
namespace Go.Sx
open Go
def cI (d : List (List AV)) (j : Nat) : BitVec 64 := asI64 ((d.getD j []).headD .any)
/-- Are so many numbers the same, from one on? -/
def eqI (a b : List (List AV)) (i k : Nat) : Bool := (List.range' i k).all fun j => cI a j == cI b j
theorem eqI_succ (a b : List (List AV)) (i k : Nat) : eqI a b i (k + 1) = ((cI a i == cI b i) && eqI a b (i + 1) k) := by
  simp [eqI, List.range'_succ]
def v_eqI (a b : List (List AV)) (n : Nat) : Bool := eqI a b 0 n
def g_sl (na ma nb mb : Nat) : Bool := Nat.ble na ma && (Nat.ble na mb && (Nat.beq nb na && Nat.blt na 9223372036854775808))
theorem g_sl_iff {na ma nb mb : Nat} : g_sl na ma nb mb = true ↔ na ≤ ma ∧ na ≤ mb ∧ nb = na ∧ na < 2 ^ 63 := by
  simp only [g_sl, Bool.and_eq_true, beq_true, Nat.ble_eq, Nat.blt_eq]
theorem msl_rn (ra : Bool) (ma : Nat) (da : List (List AV)) (rb : Bool) (mb : Nat) (db : List (List AV)) (n : Nat) (h1 : n ≤ ma) (h2 : n ≤ mb) (h3 : n < 2 ^ 63) : ∀ (k i : Nat), n - i = k → i ≤ n →
    Rn mslStep (.a ra ma da rb mb db n n (BitVec.ofNat 64 i)) (cond (eqI da db i k) (.fine ra ma da rb mb db) (.bad ra ma da rb mb db)) := by
  intro k
  induction k with
  | zero =>
    intro i hk hi
    have e : i = n := by omega
    subst e
    refine .last ?_
    simp only [mslStep]
    have hi2 : (BitVec.ofNat 64 i).toNat = i := ofNat_toNat (by omega)
    rw [slt_nat (by omega) (by omega), decide_eq_false (by omega)]; rfl
  | succ k ih =>
    intro i hk hi
    have hi2 : (BitVec.ofNat 64 i).toNat = i := ofNat_toNat (by omega)
    have e : BitVec.ofNat 64 i + 1#64 = BitVec.ofNat 64 (i + 1) := by
      apply BitVec.eq_of_toNat_eq; rw [inc_nat (by omega), hi2, ofNat_toNat (by omega)]
    have hs : mslStep (.a ra ma da rb mb db n n (BitVec.ofNat 64 i)) = cond (cI da i == cI db i) (some (.inl (.a ra ma da rb mb db n n (BitVec.ofNat 64 (i + 1))))) (some (.inr (.bad ra ma da rb mb db))) := by
      simp only [mslStep]
      rw [slt_len (by omega) h3, nonneg_lt (by omega), hi2, e]
      rw [decide_eq_true (show i < n by omega), decide_eq_true (show 0 + i < ma by omega), decide_eq_true (show 0 + i < mb by omega)]
      simp only [Bool.and_true, cond_true, Nat.zero_add]
      show cond (!(cI da i == cI db i)) _ _ = _
      cases (cI da i == cI db i) <;> rfl
    rw [eqI_succ]
    cases hc : (cI da i == cI db i) with
    | true => rw [hc] at hs; exact .next hs (ih (i + 1) (by omega) (by omega))
    | false => rw [hc] at hs; exact .last hs
def mslCps : Cps MslS := fun R x K => match x with
  | .a ra ma da rb mb db na nb i => cond (g_sl na ma nb mb && i == 0#64) (cond (v_eqI da db na)
      (K (.exit 0) (tmOf [4] [.any]) [(0, ⟨ra, [.arr [.int .i64] ma da]⟩), (1, ⟨rb, [.arr [.int .i64] mb db]⟩)] 2)
      (K .ret (tmOf [4] [.bool false]) [(0, ⟨ra, [.arr [.int .i64] ma da]⟩), (1, ⟨rb, [.arr [.int .i64] mb db]⟩)] 2)) none
theorem mslCps_ok (R : Type) (x : MslS) (K : Out → TM → Heap → Nat → Option R) (r : R) (h : mslCps R x K = some r) : ∃ z, Rn mslStep x z ∧ K (mslO z) (tmOf [4] (mslV z)) (mslG z) (mslM z) = some r := by
  cases x with
  | a ra ma da rb mb db na nb i =>
    unfold mslCps at h
    dsimp only at h
    cases hg : (g_sl na ma nb mb && i == 0#64) with
    | false => rw [hg] at h; simp at h
    | true =>
      rw [hg, cond_true] at h
      simp only [Bool.and_eq_true, beq_iff_eq] at hg
      obtain ⟨hg, rfl⟩ := hg
      obtain ⟨h1, h2, rfl, h3⟩ := g_sl_iff.1 hg
      have hr := msl_rn ra ma da rb mb db nb h1 h2 h3 nb 0 rfl (by omega)
      refine ⟨_, hr, ?_⟩
      unfold v_eqI at h
      cases he : eqI da db 0 nb with
      | true => rw [he] at h; exact h
      | false => rw [he] at h; exact h
end Go.Sx

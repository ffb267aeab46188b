/- The interrupt controller: behind a claim. -/
import Derived.Test.YtaieimjeffedhaaVl12d
import Derived.Test.YtaieimjeffedhaaPlPlc4
set_option linter.unusedSimpArgs false
set_option linter.unusedVariables false
set_option linter.unnecessarySimpa false
namespace Go.Sx
open Go
theorem bit_get (x : BitVec 32) (t : Nat) (h : t < 32) : (x >>> min t 32 &&& 1#32 == 1#32) = x.getLsbD t := by
  rw [Nat.min_eq_left (by omega), Bool.eq_iff_iff, beq_iff_eq]
  constructor
  · intro h1
    have := congrArg (fun v => BitVec.getLsbD v 0) h1
    simpa using this
  · intro h1
    apply BitVec.eq_of_getLsbD_eq
    intro i hi
    cases i with
    | zero => simpa using h1
    | succ i => simp [BitVec.getLsbD_one]
theorem best_bit (pr : List (List AV)) (of : BitVec 32) : ∀ (k : Nat) (ab be s : BitVec 32), (be.toNat = 0 ∨ of.getLsbD be.toNat = true) → (bestGo pr of k ab be s).1.toNat = 0 ∨ of.getLsbD (bestGo pr of k ab be s).1.toNat = true
  | 0, ab, be, s, h => h
  | k + 1, ab, be, s, h => by
    unfold bestGo
    rw [ultN, show (32#32).toNat = 32 from rfl]
    by_cases hs : s.toNat < 32
    · rw [decide_eq_true hs]
      simp only [cond_true]
      cases hc : bestC pr of ab s with
      | true =>
        unfold bestC at hc
        rw [bit_get of s.toNat hs, Bool.and_eq_true] at hc
        exact best_bit pr of k _ _ _ (.inr hc.1)
      | false => exact best_bit pr of k _ _ _ h
    · rw [decide_eq_false hs]; exact h
theorem best_ne (pr : List (List AV)) (of : BitVec 32) (s : BitVec 64) (h0 : 0 < s.toNat) (h : of.getLsbD s.toNat = false) : (BitVec.setWidth 64 (v_best pr of 0#32 0#32 1#32) == s) = false := by
  rw [beq_eq_false_iff_ne]
  rintro rfl
  rw [zext_nat] at h h0
  unfold v_best at h h0
  rcases best_bit pr of 32 0#32 0#32 1#32 (.inl rfl) with e | e
  · omega
  · rw [e] at h; exact absurd h (by simp)
def ocOk : OcS → Prop
  | .a n m _ pr pe se en th _ s i => POk ⟨pr, pe, se, en, th⟩ ∧ 0 < s.toNat ∧ s.toNat < 32 ∧ se.getLsbD s.toNat = true ∧ n ≤ m ∧ n < 2 ^ 63 ∧ i.toNat ≤ n
theorem pClaim_en (p : PSt) (k : Nat) : (pClaim p k).en = p.en := by unfold pClaim; dsimp only; cases (0#32).ult (v_best p.pr (p.pe &&& cell32 p.en k) 0#32 0#32 1#32) <;> rfl
theorem pClaim_pr (p : PSt) (k : Nat) : (pClaim p k).pr = p.pr := by unfold pClaim; dsimp only; cases (0#32).ult (v_best p.pr (p.pe &&& cell32 p.en k) 0#32 0#32 1#32) <;> rfl
theorem pClaim_th (p : PSt) (k : Nat) : (pClaim p k).th = p.th := by unfold pClaim; dsimp only; cases (0#32).ult (v_best p.pr (p.pe &&& cell32 p.en k) 0#32 0#32 1#32) <;> rfl
theorem pClaim_se (p : PSt) (k t : Nat) (h : p.se.getLsbD t = true) : (pClaim p k).se.getLsbD t = true := by
  unfold pClaim; dsimp only
  cases (0#32).ult (v_best p.pr (p.pe &&& cell32 p.en k) 0#32 0#32 1#32) with
  | true => simp [h]
  | false => exact h
theorem pClaim_pe (p : PSt) (k t : Nat) (h : p.pe.getLsbD t = false) : (pClaim p k).pe.getLsbD t = false := by
  unfold pClaim; dsimp only
  cases (0#32).ult (v_best p.pr (p.pe &&& cell32 p.en k) 0#32 0#32 1#32) with
  | true => simp [h]
  | false => exact h
theorem oc_step (n m : Nat) (d : List (List AV)) (pr : List (List AV)) (pe se : BitVec 32) (en th : List (List AV)) (ctx s i : BitVec 64) (h : POk ⟨pr, pe, se, en, th⟩) (h0 : 0 < s.toNat) (h1 : s.toNat < 32) (hb : se.getLsbD s.toNat = true) (hm : n ≤ m) (hn : n < 2 ^ 63) (hi : i.toNat < n) :
    ∃ p', POk p' ∧ p'.se.getLsbD s.toNat = true ∧ p'.en = en ∧ ocStep (.a n m d pr pe se en th ctx s i) = some (.inl (.a n m d p'.pr p'.pe p'.se p'.en p'.th ctx s (i + 1#64))) := by
  have hi' : i.toNat < 2 ^ 63 := by omega
  simp only [ocStep, slt_len hi' hn, nonneg_lt hi', decide_eq_true hi, decide_eq_true (show 0 + i.toNat < m by omega), Bool.and_true, cond_true]
  generalize asU32 ((d.getD (0 + i.toNat) []).headD AV.any) = M
  have hp1 := h.lines M
  have hbit : (M &&& ~~~(1#32 ||| se)).getLsbD s.toNat = false := by simp [hb]
  rw [bit_zext _ s.toNat h1, bit_get _ s.toNat h1, hbit]
  generalize M &&& ~~~(1#32 ||| se) = PE at *
  refine ⟨pClaim (pClaim ⟨pr, PE, se, en, th⟩ 0) 1, (hp1.claim 0).claim 1, pClaim_se _ _ _ (pClaim_se _ _ _ hb), by rw [pClaim_en, pClaim_en], ?_⟩
  have e1 := best_ne pr (PE &&& asU32 ((en.getD 0 []).headD AV.any)) s h0 (by simp [hbit])
  have e2 := best_ne pr (PE &&& asU32 ((en.getD 1 []).headD AV.any)) s h0 (by simp [hbit])
  rw [e1, e2]
  simp only [cond_false]
  cases c1 : (0#32).ult (v_best pr (PE &&& asU32 ((en.getD 0 []).headD AV.any)) 0#32 0#32 1#32) with
  | false =>
    have q : pClaim ⟨pr, PE, se, en, th⟩ 0 = ⟨pr, PE, se, en, th⟩ := by unfold pClaim cell32; simp only [c1, cond_false]
    rw [q]
    simp only [cond_false]
    cases c2 : (0#32).ult (v_best pr (PE &&& asU32 ((en.getD 1 []).headD AV.any)) 0#32 0#32 1#32) with
    | false => unfold pClaim cell32; simp only [c2, cond_false]
    | true => unfold pClaim cell32; simp only [c2, cond_true]
  | true =>
    have q : pClaim ⟨pr, PE, se, en, th⟩ 0 = ⟨pr, PE &&& ~~~(1#32 <<< min (v_best pr (PE &&& asU32 ((en.getD 0 []).headD AV.any)) 0#32 0#32 1#32).toNat 32), se ||| 1#32 <<< min (v_best pr (PE &&& asU32 ((en.getD 0 []).headD AV.any)) 0#32 0#32 1#32).toNat 32, en, th⟩ := by unfold pClaim cell32; simp only [c1, cond_true]
    rw [q]
    have e3 := best_ne pr (PE &&& ~~~(1#32 <<< min (v_best pr (PE &&& asU32 ((en.getD 0 []).headD AV.any)) 0#32 0#32 1#32).toNat 32) &&& asU32 ((en.getD 1 []).headD AV.any)) s h0 (by simp [hbit])
    rw [e3]
    simp only [cond_true, cond_false]
    cases c2 : (0#32).ult (v_best pr (PE &&& ~~~(1#32 <<< min (v_best pr (PE &&& asU32 ((en.getD 0 []).headD AV.any)) 0#32 0#32 1#32).toNat 32) &&& asU32 ((en.getD 1 []).headD AV.any)) 0#32 0#32 1#32) with
    | false => unfold pClaim cell32; simp only [c2, cond_false]
    | true => unfold pClaim cell32; simp only [c2, cond_true]
def ocI : OcS → Nat
  | .a n _ _ _ _ _ _ _ _ _ i => n - i.toNat
def ocGood (x : OcS) (p : PSt) : Prop := match x with
  | .a _ _ _ _ _ _ en _ ctx s _ => POk p ∧ p.se.getLsbD s.toNat = true ∧ p.en = en ∧ Rn ocStep x (.fine p.pr p.pe p.se p.en p.th ctx s)
theorem oc_rn : ∀ (k : Nat) (x : OcS), ocI x = k → ocOk x → ∃ p, ocGood x p := by
  intro k
  induction k with
  | zero =>
    intro x hk h
    cases x with
    | a n m d pr pe se en th ctx s i =>
      obtain ⟨h1, h2, h3, h4, h5, h6, h7⟩ := h
      simp only [ocI] at hk
      refine ⟨⟨pr, pe, se, en, th⟩, h1, h4, rfl, .last ?_⟩
      simp only [ocStep, slt_len (show i.toNat < 2 ^ 63 by omega) h6, decide_eq_false (show ¬ i.toNat < n by omega), cond_false]
  | succ k ih =>
    intro x hk h
    cases x with
    | a n m d pr pe se en th ctx s i =>
      obtain ⟨h1, h2, h3, h4, h5, h6, h7⟩ := h
      simp only [ocI] at hk
      obtain ⟨p', q1, q2, q3, q4⟩ := oc_step n m d pr pe se en th ctx s i h1 h2 h3 h4 h5 h6 (by omega)
      have hi : (i + 1#64).toNat = i.toNat + 1 := inc_nat (by omega)
      obtain ⟨p, r1, r2, r3, r4⟩ := ih (.a n m d p'.pr p'.pe p'.se p'.en p'.th ctx s (i + 1#64)) (by simp only [ocI, hi]; omega) ⟨q1, h2, h3, q2, h5, h6, by rw [hi]; omega⟩
      exact ⟨p, r1, r2, r3.trans q3, .next q4 r4⟩
open Classical in
noncomputable def g_oc (x : OcS) : Bool := decide (ocOk x)
theorem g_oc_ok {x : OcS} (h : ocOk x) : g_oc x = true := by unfold g_oc; exact @decide_eq_true _ (Classical.propDecidable _) h
open Classical in
noncomputable def v_oc (x : OcS) : PSt := if h : ocOk x then (oc_rn _ x rfl h).choose else ⟨[], 0, 0, [], []⟩
theorem v_oc_ok {x : OcS} (h : ocOk x) : ocGood x (v_oc x) := by
  unfold v_oc; rw [dif_pos h]; exact (oc_rn _ x rfl h).choose_spec
noncomputable def ocCps : Cps OcS := fun R x K => match x with
  | .a n m d pr pe se en th ctx s i => cond (g_oc (.a n m d pr pe se en th ctx s i)) (K (.exit 0) (tmOf [6, 7, 8, 9] [.any, .ptr ⟨3, 0, 0, 0, 0⟩, .int .i64 ctx, .int .u64 s])
      [(3, ⟨true, [.arr [.int .u32] 32 (v_oc (.a n m d pr pe se en th ctx s i)).pr, .cell (.int .u32 (v_oc (.a n m d pr pe se en th ctx s i)).pe), .cell (.int .u32 (v_oc (.a n m d pr pe se en th ctx s i)).se), .arr [.int .u32] 2 (v_oc (.a n m d pr pe se en th ctx s i)).en, .arr [.int .u32] 2 (v_oc (.a n m d pr pe se en th ctx s i)).th]⟩)] 4) none
theorem ocCps_ok (R : Type) (x : OcS) (K : Out → TM → Heap → Nat → Option R) (r : R) (h : ocCps R x K = some r) : ∃ z, Rn ocStep x z ∧ K (ocO z) (tmOf [6, 7, 8, 9] (ocV z)) (ocG z) (ocM z) = some r := by
  cases x with
  | a n m d pr pe se en th ctx s i =>
    unfold ocCps at h
    simp only at h
    cases hg : g_oc (.a n m d pr pe se en th ctx s i) with
    | false => rw [hg] at h; simp at h
    | true =>
      rw [hg] at h
      simp only [cond_true] at h
      have hok : ocOk (.a n m d pr pe se en th ctx s i) := by unfold g_oc at hg; simpa using hg
      exact ⟨_, (v_oc_ok hok).2.2.2, h⟩
end Go.Sx

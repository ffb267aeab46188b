/- The interrupt controller behind any calls. -/
import Derived.Test.YtaieimjeffedhaaVl12b
import Derived.Test.YtaieimjeffedhaaPlPlc2
set_option linter.unusedSimpArgs false
set_option linter.unusedVariables false
set_option linter.unnecessarySimpa false
namespace Go.Sx
open Go
def dnOk : DnS → Prop
  | .a n m _ pr pe se en th i => POk ⟨pr, pe, se, en, th⟩ ∧ n ≤ m ∧ n < 2 ^ 63 ∧ i.toNat ≤ n
def dnI : DnS → Nat
  | .a n _ _ _ _ _ _ _ i => n - i.toNat
def dnC : DnS → Nat × List (List AV)
  | .a _ m d _ _ _ _ _ _ => (m, d)
def dnNext (n m : Nat) (d : List (List AV)) (i : BitVec 64) (p : PSt) : DnS := .a n m d p.pr p.pe p.se p.en p.th (i + 1#64)
theorem and7 (v : BitVec 64) : (BitVec.setWidth 32 (v &&& 7#64)).toNat < 8 := by
  have : (v &&& 7#64).toNat < 8 := by
    rw [BitVec.toNat_and, show (7#64).toNat = 2 ^ 3 - 1 from rfl, Nat.and_two_pow_sub_one_eq_mod]
    exact Nat.mod_lt _ (by decide)
  rw [BitVec.toNat_setWidth]; omega
set_option maxHeartbeats 1000000 in
theorem dn_step (n m : Nat) (d : List (List AV)) (pr : List (List AV)) (pe se : BitVec 32) (en th : List (List AV)) (i : BitVec 64) (h : POk ⟨pr, pe, se, en, th⟩) (hm : n ≤ m) (hn : n < 2 ^ 63) (hi : i.toNat < n) :
    ∃ p', POk p' ∧ dnStep (.a n m d pr pe se en th i) = some (.inl (dnNext n m d i p')) := by
  have hi' : i.toNat < 2 ^ 63 := by omega
  have lpr : pr.length = 32 := h.lpr
  have len : en.length = 2 := h.len
  have lth : th.length = 2 := h.lth
  simp only [dnStep, slt_len hi' hn, nonneg_lt hi', decide_eq_true hi, decide_eq_true (show 0 + i.toNat < m by omega), Bool.and_true, cond_true, lpr, len, lth]
  generalize d.getD (0 + i.toNat) [] = r
  generalize asI64 (r.headD AV.any) = K
  have hW := which_reg (asI64 (r.tail.headD AV.any)) (asI64 (r.tail.tail.headD AV.any))
  generalize v_plic_which (asI64 (r.tail.headD AV.any)) (asI64 (r.tail.tail.headD AV.any)) = W at hW ⊢
  generalize asU64 (r.tail.tail.tail.headD AV.any) = V
  generalize asU32 (r.tail.tail.tail.tail.headD AV.any) = M
  cases (K == 0#64) with
  | true => exact ⟨_, h.lines M, rfl⟩
  | false =>
    simp only [cond_false]
    cases (K == 1#64) with
    | true =>
      simp only [cond_true]
      rcases hW with w | ⟨w1, w2, _, _⟩ | ⟨w, _, _⟩ | ⟨w, _, _⟩ | ⟨w, _, _⟩ | ⟨w, _, _⟩ | ⟨w, _, _⟩ | ⟨w, _, _⟩ | ⟨w, _, _⟩
      case prio => simp only [w1, nonneg_lt (show W.2.toNat < 2 ^ 63 by omega), decide_eq_true w2, BitVec.reduceBEq, cond_true, cond_false, Bool.and_true]; exact ⟨_, h, rfl⟩
      case cl0 =>
        subst w
        refine ⟨pClaim ⟨pr, pe, se, en, th⟩ 0, h.claim 0, ?_⟩
        have d0 : decide ((0#64).toNat < 2) = true := rfl
        have d1 : nonneg .i64 0#64 = true := rfl
        unfold pClaim dnNext
        simp only [BitVec.reduceBEq, d0, d1, Bool.and_true, cond_true, cond_false]
        show cond ((0#32).ult (v_best pr (pe &&& cell32 en 0) 0#32 0#32 1#32)) _ _ = _
        cases hc : (0#32).ult (v_best pr (pe &&& cell32 en 0) 0#32 0#32 1#32) <;> rfl
      case cl1 =>
        subst w
        refine ⟨pClaim ⟨pr, pe, se, en, th⟩ 1, h.claim 1, ?_⟩
        have d0 : decide ((1#64).toNat < 2) = true := rfl
        have d1 : nonneg .i64 1#64 = true := rfl
        unfold pClaim dnNext
        simp only [BitVec.reduceBEq, d0, d1, Bool.and_true, cond_true, cond_false]
        show cond ((0#32).ult (v_best pr (pe &&& cell32 en 1) 0#32 0#32 1#32)) _ _ = _
        cases hc : (0#32).ult (v_best pr (pe &&& cell32 en 1) 0#32 0#32 1#32) <;> rfl
      all_goals (subst w; exact ⟨_, h, rfl⟩)
    | false =>
      simp only [cond_false]
      cases (K == 2#64) with
      | false => exact ⟨_, h, rfl⟩
      | true =>
        simp only [cond_true]
        rcases hW with w | ⟨w1, w2, _, _⟩ | ⟨w, _, _⟩ | ⟨w, _, _⟩ | ⟨w, _, _⟩ | ⟨w, _, _⟩ | ⟨w, _, _⟩ | ⟨w, _, _⟩ | ⟨w, _, _⟩
        case prio =>
          simp only [w1, nonneg_lt (show W.2.toNat < 2 ^ 63 by omega), decide_eq_true w2, BitVec.reduceBEq, cond_true, cond_false, Bool.and_true]
          cases h0 : (0#64).slt W.2 with
          | false => exact ⟨_, h, rfl⟩
          | true =>
            rw [slt_nat (by decide) (by omega), decide_eq_true_eq] at h0
            exact ⟨_, h.prio W.2.toNat w2 h0 _ (and7 V), rfl⟩
        case en0 => subst w; exact ⟨_, h.enable 0 (by decide) (BitVec.setWidth 32 V &&& 4294967294#32) (by simp), rfl⟩
        case en1 => subst w; exact ⟨_, h.enable 1 (by decide) (BitVec.setWidth 32 V &&& 4294967294#32) (by simp), rfl⟩
        case th0 => subst w; exact ⟨_, h.thresh 0 (by decide) _ (and7 V), rfl⟩
        case th1 => subst w; exact ⟨_, h.thresh 1 (by decide) _ (and7 V), rfl⟩
        case cl0 =>
          subst w
          cases hc : (BitVec.setWidth 32 V).ult 32#32 with
          | true => refine ⟨_, h.done (1#32 <<< min (BitVec.setWidth 32 V).toNat 32 &&& cell32 en 0), ?_⟩; rfl
          | false => refine ⟨_, h, ?_⟩; rfl
        case cl1 =>
          subst w
          cases hc : (BitVec.setWidth 32 V).ult 32#32 with
          | true => refine ⟨_, h.done (1#32 <<< min (BitVec.setWidth 32 V).toNat 32 &&& cell32 en 1), ?_⟩; rfl
          | false => refine ⟨_, h, ?_⟩; rfl
        all_goals (subst w; exact ⟨_, h, rfl⟩)
theorem dn_rn : ∀ (k : Nat) (x : DnS), dnI x = k → dnOk x → ∃ p, POk p ∧ Rn dnStep x (.fine (dnC x).1 (dnC x).2 p.pr p.pe p.se p.en p.th) := by
  intro k
  induction k with
  | zero =>
    intro x hk h
    cases x with
    | a n m d pr pe se en th i =>
      obtain ⟨h1, h2, h3, h4⟩ := h
      simp only [dnI] at hk
      refine ⟨_, h1, .last ?_⟩
      simp only [dnStep, slt_len (show i.toNat < 2 ^ 63 by omega) h3, decide_eq_false (show ¬ i.toNat < n by omega), cond_false, dnC]
  | succ k ih =>
    intro x hk h
    cases x with
    | a n m d pr pe se en th i =>
      obtain ⟨h1, h2, h3, h4⟩ := h
      simp only [dnI] at hk
      obtain ⟨p', q1, q2⟩ := dn_step n m d pr pe se en th i h1 h2 h3 (by omega)
      have hi : (i + 1#64).toNat = i.toNat + 1 := inc_nat (by omega)
      obtain ⟨p, r1, r2⟩ := ih (dnNext n m d i p') (by unfold dnNext; simp only [dnI, hi]; omega) ⟨q1, h2, h3, by rw [hi]; omega⟩
      exact ⟨p, r1, .next q2 r2⟩
open Classical in
noncomputable def g_dn (x : DnS) : Bool := decide (dnOk x)
theorem g_dn_ok {x : DnS} (h : dnOk x) : g_dn x = true := by unfold g_dn; exact @decide_eq_true _ (Classical.propDecidable _) h
open Classical in
noncomputable def v_dn (x : DnS) : PSt := if h : dnOk x then (dn_rn _ x rfl h).choose else ⟨[], 0, 0, [], []⟩
theorem v_dn_ok {x : DnS} (h : dnOk x) : POk (v_dn x) ∧ Rn dnStep x (.fine (dnC x).1 (dnC x).2 (v_dn x).pr (v_dn x).pe (v_dn x).se (v_dn x).en (v_dn x).th) := by
  unfold v_dn; rw [dif_pos h]; exact (dn_rn _ x rfl h).choose_spec
noncomputable def dnCps : Cps DnS := fun R x K => match x with
  | .a n m d pr pe se en th i => cond (g_dn (.a n m d pr pe se en th i)) (K (.exit 0) (tmOf [3] [.ptr ⟨1, 0, 0, 0, 0⟩]) [(0, ⟨false, [.arr [.int .i64, .int .i64, .int .i64, .int .u64, .int .u32] m d]⟩),
      (1, ⟨true, [.arr [.int .u32] 32 (v_dn (.a n m d pr pe se en th i)).pr, .cell (.int .u32 (v_dn (.a n m d pr pe se en th i)).pe), .cell (.int .u32 (v_dn (.a n m d pr pe se en th i)).se), .arr [.int .u32] 2 (v_dn (.a n m d pr pe se en th i)).en, .arr [.int .u32] 2 (v_dn (.a n m d pr pe se en th i)).th]⟩)] 2) none
theorem dnCps_ok (R : Type) (x : DnS) (K : Out → TM → Heap → Nat → Option R) (r : R) (h : dnCps R x K = some r) : ∃ z, Rn dnStep x z ∧ K (dnO z) (tmOf [3] (dnV z)) (dnG z) (dnM z) = some r := by
  cases x with
  | a n m d pr pe se en th i =>
    unfold dnCps at h
    simp only at h
    cases hg : g_dn (.a n m d pr pe se en th i) with
    | false => rw [hg] at h; simp at h
    | true =>
      rw [hg] at h
      simp only [cond_true] at h
      have hok : dnOk (.a n m d pr pe se en th i) := by unfold g_dn at hg; simpa using hg
      exact ⟨_, (v_dn_ok hok).2, h⟩
end Go.Sx

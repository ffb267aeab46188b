/- Both interrupt controllers, call by call. -/
import Derived.Test.YtaieimjeffedhaaVl12z
import Derived.Test.YtaieimjeffedhaaPlPlq2
set_option linter.unusedSimpArgs false
set_option linter.unusedVariables false
set_option linter.unnecessarySimpa false
namespace Go.Sx
open Go
def plOk : PlS → Prop
  | .a n m _ pr pe se en th L T i => POk ⟨pr, pe, se, en, th⟩ ∧ L = xOf ⟨pr, pe, se, en, th⟩ ∧ T = tOf ⟨pr, pe, se, en, th⟩ ∧ n ≤ m ∧ n < 2 ^ 63 ∧ i.toNat ≤ n
def plI : PlS → Nat
  | .a n _ _ _ _ _ _ _ _ _ i => n - i.toNat
def plNext (n m : Nat) (d : List (List AV)) (i : BitVec 64) (p : PSt) : PlS := .a n m d p.pr p.pe p.se p.en p.th (xOf p) (tOf p) (i + 1#64)
theorem plNext_ok {n m : Nat} {d : List (List AV)} {i : BitVec 64} {p : PSt} (h : POk p) (hm : n ≤ m) (hn : n < 2 ^ 63) (hi : i.toNat < n) : plOk (plNext n m d i p) :=
  ⟨h, rfl, rfl, hm, hn, by have := inc_nat (show i.toNat < 2 ^ 63 by omega); omega⟩
/-- The tail of a round. -/
theorem pl_tail {γ : Type} (q : PSt) (h : POk q) (off : BitVec 64) (bad next : Option γ) :
    cond (!v_pdB q 0#64 == v_xp0 (xOf q) (tOf q)) bad
      (cond (!v_pdB q 1#64 == v_xp1 (xOf q) (tOf q)) bad
        (cond (off == 0#64)
          (cond (!v_pdB q off == v_xp0 (xOf q) (tOf q)) bad
            (cond (g_ldq (.a q.pr q.pe q.se q.en q.th 4096#64 4#64)) (cond (g_xld (.a (xOf q) (tOf q) 4096#64 4#64)) (cond (!v_ldV q 4096#64 4#64 == v_xldV (xOf q) (tOf q) 4096#64 4#64) bad next) none) none))
          (cond (off == 1#64)
            (cond (!v_pdB q off == v_xp1 (xOf q) (tOf q)) bad
              (cond (g_ldq (.a q.pr q.pe q.se q.en q.th 4096#64 4#64)) (cond (g_xld (.a (xOf q) (tOf q) 4096#64 4#64)) (cond (!v_ldV q 4096#64 4#64 == v_xldV (xOf q) (tOf q) 4096#64 4#64) bad next) none) none))
            (cond (g_xqo (.a (xOf q) (tOf q) off))
              (cond (!v_pdB q off == false) bad
                (cond (g_ldq (.a q.pr q.pe q.se q.en q.th 4096#64 4#64)) (cond (g_xld (.a (xOf q) (tOf q) 4096#64 4#64)) (cond (!v_ldV q 4096#64 4#64 == v_xldV (xOf q) (tOf q) 4096#64 4#64) bad next) none) none)) none)))) = next := by
  have g1 : g_ldq (.a q.pr q.pe q.se q.en q.th 4096#64 4#64) = true := by simp [g_ldq, h.lpr, h.len, h.lth]
  have g2 : g_xld (.a (xOf q) (tOf q) 4096#64 4#64) = true := by simp [g_xld, xOf_len]
  have e0 : v_xp0 (xOf q) (tOf q) = v_pdB q 0#64 := (pd_0 q h).symm
  have e1 : v_xp1 (xOf q) (tOf q) = v_pdB q 1#64 := (pd_1 q h).symm
  simp only [e0, e1, ← ld_eq q h, g1, g2, beq_self_eq_true, Bool.not_true, cond_true, cond_false]
  cases h0 : (off == 0#64) with
  | true =>
    rw [beq_iff_eq] at h0
    subst h0
    simp only [beq_self_eq_true, Bool.not_true, cond_true, cond_false]
  | false =>
    cases h1 : (off == 1#64) with
    | true =>
      rw [beq_iff_eq] at h1
      subst h1
      simp only [beq_self_eq_true, Bool.not_true, cond_true, cond_false]
    | false =>
      have g3 : g_xqo (.a (xOf q) (tOf q) off) = true := by simp [g_xqo, h0, h1]
      simp only [g3, pd_o q off h0 h1, beq_self_eq_true, Bool.not_true, cond_true, cond_false]
set_option maxHeartbeats 1000000 in
theorem pl_step (n m : Nat) (d : List (List AV)) (pr : List (List AV)) (pe se : BitVec 32) (en th : List (List AV)) (i : BitVec 64) (h : POk ⟨pr, pe, se, en, th⟩) (hm : n ≤ m) (hn : n < 2 ^ 63) (hi : i.toNat < n) :
    ∃ p, POk p ∧ plStep (.a n m d pr pe se en th (xOf ⟨pr, pe, se, en, th⟩) (tOf ⟨pr, pe, se, en, th⟩) i) = some (.inl (plNext n m d i p)) := by
  simp only [plStep]
  rw [slt_len (show i.toNat < 2 ^ 63 by omega) hn, decide_eq_true hi]
  simp only [nonneg_lt (show i.toNat < 2 ^ 63 by omega), decide_eq_true (show 0 + i.toNat < m by omega), Bool.and_true, cond_true]
  generalize asU32 ((d.getD (0 + i.toNat) []).tail.tail.tail.tail.headD AV.any) = mm
  generalize asU64 ((d.getD (0 + i.toNat) []).tail.tail.tail.headD AV.any) = v
  generalize asI64 ((d.getD (0 + i.toNat) []).tail.tail.headD AV.any) = size
  generalize asI64 ((d.getD (0 + i.toNat) []).tail.headD AV.any) = off
  generalize asI64 ((d.getD (0 + i.toNat) []).headD AV.any) = k
  have gx : g_xln (.a (xOf ⟨pr, pe, se, en, th⟩) (tOf ⟨pr, pe, se, en, th⟩) mm) = true := by simp [g_xln, xOf_len]
  have g1 : g_ldq (.a pr pe se en th off size) = true := by simp only [g_ldq, h.lpr, h.len, h.lth]; rfl
  have g2 : g_xld (.a (xOf ⟨pr, pe, se, en, th⟩) (tOf ⟨pr, pe, se, en, th⟩) off size) = true := by simp [g_xld, xOf_len]
  have g3 : g_stq (.a pr pe se en th off size v) = true := by simp only [g_stq, h.lpr, h.len, h.lth]; rfl
  have g4 : g_xst (.a (xOf ⟨pr, pe, se, en, th⟩) (tOf ⟨pr, pe, se, en, th⟩) off size v) = true := by simp only [g_xst, xOf_len]; rfl
  simp only [ldP_pend, ldL_pend, gx, g1, g2, g3, g4, cond_true]
  cases k0 : (k == 0#64) with
  | true =>
    simp only [cond_true]
    refine ⟨⟨pr, mm &&& ~~~(1#32 ||| se), se, en, th⟩, h.lines mm, ?_⟩
    have el : v_xl (xOf ⟨pr, pe, se, en, th⟩) mm 1#64 = xOf ⟨pr, mm &&& ~~~(1#32 ||| se), se, en, th⟩ := lines_eq _ h mm
    have et : tOf ⟨pr, pe, se, en, th⟩ = tOf ⟨pr, mm &&& ~~~(1#32 ||| se), se, en, th⟩ := rfl
    rw [el, et]
    exact pl_tail ⟨pr, mm &&& ~~~(1#32 ||| se), se, en, th⟩ (h.lines mm) off _ _
  | false =>
    simp only [cond_false]
    cases k1 : (k == 1#64) with
    | true =>
      simp only [cond_true]
      refine ⟨v_ldP ⟨pr, pe, se, en, th⟩ off size, h.load off size, ?_⟩
      have el := ldL_eq _ h off size
      have et : tOf ⟨pr, pe, se, en, th⟩ = tOf (v_ldP ⟨pr, pe, se, en, th⟩ off size) := tOf_th _ _ (ldP_th _ off size).symm
      simp only [← ld_eq _ h off size, el, beq_self_eq_true, Bool.not_true, cond_true, cond_false]
      rw [et]
      exact pl_tail _ (h.load off size) off _ _
    | false =>
      simp only [cond_false]
      cases k2 : (k == 2#64) with
      | true =>
        simp only [cond_true]
        refine ⟨v_stP ⟨pr, pe, se, en, th⟩ off size v, h.store off size v, ?_⟩
        simp only [stL_eq _ h off size v, stT_eq _ h off size v, beq_self_eq_true, Bool.not_true, cond_true, cond_false]
        exact pl_tail _ (h.store off size v) off _ _
      | false =>
        simp only [cond_false, Bool.not_true]
        exact ⟨⟨pr, pe, se, en, th⟩, h, pl_tail _ h off _ _⟩
theorem pl_rn : ∀ (k : Nat) (x : PlS), plI x = k → plOk x → Rn plStep x .fine := by
  intro k
  induction k with
  | zero =>
    intro x hk h
    cases x with
    | a n m d pr pe se en th L T i =>
      obtain ⟨h1, rfl, rfl, h2, h3, h4⟩ := h
      simp only [plI] at hk
      refine .last ?_
      simp only [plStep]
      rw [slt_len (show i.toNat < 2 ^ 63 by omega) h3, decide_eq_false (show ¬ i.toNat < n by omega)]; rfl
  | succ k ih =>
    intro x hk h
    cases x with
    | a n m d pr pe se en th L T i =>
      obtain ⟨h1, rfl, rfl, h2, h3, h4⟩ := h
      simp only [plI] at hk
      obtain ⟨p, hp, hs⟩ := pl_step n m d pr pe se en th i h1 h2 h3 (by omega)
      refine .next hs (ih _ ?_ (plNext_ok hp h2 h3 (by omega)))
      simp only [plI, plNext]
      have := inc_nat (show i.toNat < 2 ^ 63 by omega)
      omega
open Classical in
noncomputable def g_pl (x : PlS) : Bool := decide (plOk x)
theorem g_pl_ok {x : PlS} (h : plOk x) : g_pl x = true := by unfold g_pl; exact @decide_eq_true _ (Classical.propDecidable _) h
noncomputable def plCps : Cps PlS := fun R x K => match x with
  | .a n m d pr pe se en th L T i => cond (g_pl (.a n m d pr pe se en th L T i)) (K (.exit 0) (tmOf [2] [.any]) [] 3) none
theorem plCps_ok (R : Type) (x : PlS) (K : Out → TM → Heap → Nat → Option R) (r : R) (h : plCps R x K = some r) : ∃ z, Rn plStep x z ∧ K (plO z) (tmOf [2] (plV z)) (plG z) (plM z) = some r := by
  have h' : cond (g_pl x) (K (.exit 0) (tmOf [2] [.any]) [] 3) none = some r := by cases x; exact h
  cases hg : g_pl x with
  | false => rw [hg] at h'; simp at h'
  | true =>
    rw [hg] at h'
    have hok : plOk x := by unfold g_pl at hg; simpa using hg
    exact ⟨.fine, pl_rn _ x rfl hok, h'⟩
end Go.Sx

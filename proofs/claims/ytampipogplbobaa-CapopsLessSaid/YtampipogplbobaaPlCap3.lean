/- Plain laws of what is made of capabilities: it is no more than what it was made of. -/
import Derived.Test.YtampipogplbobaaPlCap2
set_option linter.unusedSimpArgs false
set_option linter.unusedVariables false
set_option linter.unnecessarySimpa false
namespace Go.Sx
open Go
set_option maxHeartbeats 1000000
theorem lenN (r : Rg) : (v_bounds_Len r).toNat = if r.end' ≤ r.base.toNat then 0 else min 18446744073709551615 (r.end' - r.base.toNat) := by
  have h1 := r.top.isLt
  have h2 := r.base.isLt
  unfold v_bounds_Len
  rw [aboveN, topN]
  have e : W2.val ⟨0#64, r.base⟩ = r.base.toNat := by unfold W2.val; simp
  rw [e, uleN]
  by_cases h : r.end' ≤ r.base.toNat
  · rw [if_pos h, decide_eq_false (by omega)]; rfl
  · rw [if_neg h, decide_eq_true (by omega)]
    unfold Rg.end' at *
    cases ho : r.over with
    | true =>
      rw [ho] at h
      simp only [cond_true, Bool.not_true, cond_false] at h ⊢
      by_cases hb : r.base.toNat ≤ r.top.toNat
      · rw [decide_eq_true hb, cond_true, show (18446744073709551615#64).toNat = 18446744073709551615 from rfl]; omega
      · rw [decide_eq_false hb, cond_false, BitVec.toNat_sub]; omega
    | false =>
      rw [ho] at h
      simp only [cond_true, Bool.not_true, cond_false] at h ⊢
      rw [BitVec.toNat_sub]; omega
/-- The range that is wanted. -/
def wantR (a n : BitVec 64) : Rg := ⟨a, a + n, (a + n).ult a⟩
theorem want_end (a n : BitVec 64) : (wantR a n).end' = a.toNat + n.toNat := by
  have h1 := a.isLt
  have h2 := n.isLt
  unfold wantR Rg.end'
  simp only [ultN, BitVec.toNat_add]
  by_cases h : (a.toNat + n.toNat) % 2 ^ 64 < a.toNat
  · rw [decide_eq_true h, cond_true]; omega
  · rw [decide_eq_false h, cond_false]; omega
theorem bound_want (c : Cp) (n : BitVec 64) (ex : Bool) (h : (v_capops_Bound c n ex).tag = true) : v_bounds_Within (wantR c.ad n) (v_bounds_Of (v_bounds_Lay c n).1) = true ∧ (ex = true → v_bounds_Of (v_bounds_Lay c n).1 = wantR c.ad n) := by
  revert h
  unfold v_capops_Bound
  have w : ({ base := c.ad, top := c.ad + n, over := (c.ad + n).ult c.ad } : Rg) = wantR c.ad n := rfl
  rw [w]
  cases hs : (!v_capops_Sealed c) with
  | false => intro h; rw [cond_false, keep_of] at h; simp at h
  | true =>
    rw [cond_true]
    cases he : ((v_bounds_Of (v_bounds_Lay c n).fst).base == c.ad && ((v_bounds_Of (v_bounds_Lay c n).fst).top == c.ad + n && ((v_bounds_Of (v_bounds_Lay c n).fst).over == (c.ad + n).ult c.ad && true))) with
    | true =>
      have heq : v_bounds_Of (v_bounds_Lay c n).1 = wantR c.ad n := rg_eq he
      rw [cond_true]
      cases hw : v_bounds_Within (wantR c.ad n) (v_bounds_Of (v_bounds_Lay c n).1) with
      | true => intro _; exact ⟨rfl, fun _ => heq⟩
      | false => intro h; rw [cond_false, keep_of] at h; simp at h
    | false =>
      rw [cond_false]
      cases ex with
      | true => intro h; rw [Bool.not_true, cond_false, keep_of] at h; simp at h
      | false =>
        rw [Bool.not_false, cond_true]
        cases hw : v_bounds_Within (wantR c.ad n) (v_bounds_Of (v_bounds_Lay c n).1) with
        | true => intro _; exact ⟨rfl, fun h => by simp at h⟩
        | false => intro h; rw [cond_false, keep_of] at h; simp at h
theorem less_of' (a b : Cp) : v_l05_less a b = (!a.tag || (b.tag && ((b.ty == 262143#64) && ((a.per &&& ~~~b.per == 0#64) && v_bounds_Within (v_bounds_Of a) (v_bounds_Of b))))) := by
  unfold v_l05_less
  cases a.tag <;> cases b.tag <;> cases (b.ty == 262143#64) <;> cases (a.per &&& ~~~b.per == 0#64) <;> rfl
theorem less_intro {a b : Cp} (h : a.tag = true → b.tag = true ∧ (b.ty == 262143#64) = true ∧ (a.per &&& ~~~b.per == 0#64) = true ∧ v_bounds_Within (v_bounds_Of a) (v_bounds_Of b) = true) : v_l05_less a b = true := by
  rw [less_of']
  cases ha : a.tag with
  | false => rfl
  | true => obtain ⟨h1, h2, h3, h4⟩ := h ha; simp [h1, h2, h3, h4]
theorem less_move (c : Cp) (n : BitVec 64) : v_l05_less (v_capops_Move c n) c = true := less_intro fun h => by
  obtain ⟨h1, h2, h3, h4, h5⟩ := move_less h
  exact ⟨h1, h2, by rw [h3]; exact sub_refl _, by rw [h4]; exact within_refl _⟩
theorem less_notag {a b : Cp} (h : a.tag = false) : v_l05_less a b = true := less_intro fun h' => by rw [h] at h'; simp at h'
theorem less_bound (c : Cp) (n : BitVec 64) (ex : Bool) : v_l05_less (v_capops_Bound c n ex) c = true := less_intro fun h => by
  obtain ⟨b1, b2, b3, b4, b5, b6, b7⟩ := bound_less c n ex
  exact ⟨(b7 h).1, (b7 h).2.1, by rw [b1]; exact sub_refl _, by rw [b6]; exact (b7 h).2.2⟩
theorem less_less' (c : Cp) (k : BitVec 64) : v_l05_less (v_capops_Less c k) c = true := less_intro fun h => by
  obtain ⟨h1, h2, h3, h4⟩ := less_less h
  exact ⟨h1, h2, h3, by rw [h4]; exact within_refl _⟩
theorem less_mode (c : Cp) (k : BitVec 64) : v_l05_less (v_capops_Mode c k) c = true := less_intro fun h => by
  rw [mode_of] at h ⊢
  simp only [Bool.and_eq_true] at h
  exact ⟨h.1, h.2, sub_refl _, within_refl _⟩
theorem less_sentry (c : Cp) : v_l05_less (v_capops_Sentry c) c = true := by
  rw [sentry_val]
  cases hc : canSentry c with
  | false => exact less_notag rfl
  | true =>
    refine less_intro fun _ => ?_
    unfold canSentry at hc
    cases h1 : c.tag <;> cases h2 : (c.ty == 262143#64) <;> simp [h1, h2] at hc ⊢
    exact within_refl _
theorem less_seal (c y : Cp) : v_l05_less (v_capops_Seal c y) c = true := by
  rw [seal_of]
  cases hc : canSeal c y with
  | false => exact less_notag rfl
  | true =>
    refine less_intro fun _ => ?_
    unfold canSeal at hc
    simp only [Bool.and_eq_true] at hc
    exact ⟨hc.1, hc.2.1, sub_refl _, within_refl _⟩
theorem less_from (c : Cp) (n : BitVec 64) : v_l05_less (v_capops_From c n) c = true := by
  unfold v_capops_From
  cases (n == 0#64) with
  | true => exact less_notag rfl
  | false => exact less_move c _
theorem less_typed (c y : Cp) : v_l05_less (v_capops_Typed c y) c = true := by
  unfold v_capops_Typed
  cases (262135#64).slt y.ty with
  | true => exact less_notag rfl
  | false => exact less_move c _
theorem less_build (c d : Cp) : v_l05_less (v_capops_Build c d) c = true := by
  rw [build_of]
  cases hc : canBuild c d with
  | false => exact less_notag rfl
  | true =>
    refine less_intro fun _ => ?_
    unfold canBuild at hc
    simp only [Bool.and_eq_true] at hc
    obtain ⟨h1, h2, h3, h4, h5⟩ := hc
    exact ⟨h1, h2, h5, h4⟩
theorem bound_len {c : Cp} {n : BitVec 64} {ex : Bool} (h : (v_capops_Bound c n ex).tag = true) : v_bounds_In (v_bounds_Of (v_capops_Bound c n ex)) (v_capops_Bound c n ex).ad 0#64 = true ∧ (v_bounds_Len (v_bounds_Of (v_capops_Bound c n ex))).ult n = false ∧ (ex = true → (v_bounds_Len (v_bounds_Of (v_capops_Bound c n ex)) == n) = true) := by
  obtain ⟨b1, b2, b3, b4, b5, b6, b7⟩ := bound_less c n ex
  obtain ⟨w1, w2⟩ := bound_want c n ex h
  have hn := n.isLt
  have ha := c.ad.isLt
  rw [b6, b4]
  generalize v_bounds_Of (v_bounds_Lay c n).1 = r at *
  rw [withinN] at w1
  simp only [decide_eq_true_eq, want_end] at w1
  have w1 : r.base.toNat ≤ c.ad.toNat ∧ c.ad.toNat + n.toNat ≤ r.end' := w1
  refine ⟨?_, ?_, fun hex => ?_⟩
  · rw [inN]; simp; omega
  · rw [ultN, lenN]
    simp only [decide_eq_false_iff_not]
    split <;> omega
  · have hr := w2 hex
    rw [beqN, lenN, hr, want_end]
    simp only [decide_eq_true_eq]
    show (if c.ad.toNat + n.toNat ≤ c.ad.toNat then 0 else min 18446744073709551615 (c.ad.toNat + n.toNat - c.ad.toNat)) = n.toNat
    split <;> omega
theorem build_tail {c d : Cp} (h : (v_capops_Build c d).tag = true) : (v_capops_Build c d).per = d.per ∧ v_bounds_Of (v_capops_Build c d) = v_bounds_Of d ∧ (v_capops_Build c d).ty.slt 262142#64 = false := by
  rw [build_of] at h ⊢
  cases hc : canBuild c d with
  | false => rw [hc] at h; simp at h
  | true =>
    rw [cond_true]
    refine ⟨rfl, rfl, ?_⟩
    have h1 : (262143#64).slt 262142#64 = false := by decide
    have h2 : (262142#64).slt 262142#64 = false := by decide
    show (cond ((d.ty == 262142#64) && !(d.per &&& 2#64 == 0#64)) d.ty 262143#64).slt 262142#64 = false
    cases hd : (d.ty == 262142#64) with
    | false => exact h1
    | true =>
      have : d.ty = 262142#64 := by simpa using hd
      rw [this]
      cases (d.per &&& 2#64 == 0#64)
      · exact h2
      · exact h1
theorem less (c d : Cp) (n k : BitVec 64) (ex : Bool) : t_l05_CapopsLess c d n k ex = some (.bool true) := by
  have hc := right_e c
  have hd := right_e d
  unfold t_l05_CapopsLess
  generalize v_l05_Right c = c at *
  generalize v_l05_Right d = d at *
  have e1 : (v_capops_Move c n).e.toNat ≤ 52 := by rw [move_of]; exact hc
  have e2 := bound_e c n ex
  have e3 : (v_capops_Less c k).e.toNat ≤ 52 := by rw [less_of]; exact hc
  have e4 : (v_capops_Mode c k).e.toNat ≤ 52 := by rw [mode_of]; exact hc
  have e5 : (v_capops_Sentry c).e.toNat ≤ 52 := by rw [sentry_val]; cases canSentry c <;> exact hc
  have e6 : (v_capops_Seal c d).e.toNat ≤ 52 := by rw [seal_of]; cases canSeal c d <;> exact hc
  have e7 : (v_capops_From c n).e.toNat ≤ 52 := by
    unfold v_capops_From
    cases (n == 0#64)
    · rw [cond_false, move_of]; exact hc
    · show (52#64).toNat ≤ 52; decide
  have e8 : (v_capops_Typed c d).e.toNat ≤ 52 := by
    unfold v_capops_Typed
    cases (262135#64).slt d.ty
    · rw [cond_false, move_of]; exact hc
    · show (52#64).toNat ≤ 52; decide
  have e9 : (v_capops_Build c d).e.toNat ≤ 52 := by rw [build_of]; cases canBuild c d <;> exact hd
  simp only [g_build_ok hc hd, g_move_ok hc, g_bound_ok hc, g_seal_ok hd, g_from_ok hc, g_typed_ok hc, g_less_ok e1 hc, g_less_ok e2 hc, g_less_ok e3 hc, g_less_ok e4 hc, g_less_ok e5 hc, g_less_ok e6 hc, g_less_ok e7 hc, g_less_ok e8 hc, g_less_ok e9 hc,
    less_move, less_bound, less_less', less_mode, less_sentry, less_seal, less_from, less_typed, less_build, g_Of_ok e1, g_Of_ok e2, g_Of_ok e9, g_Of_ok hc, g_Of_ok hd, cond_true, cond_false, Bool.not_true]
  have hl : ((v_capops_Less c k).per &&& ~~~k == 0#64) = true := by rw [less_of]; exact (sub_and c.per k).2
  simp only [hl, cond_true]
  have hM : (v_capops_Move c n).tag = true → (v_capops_Move c n).per = c.per ∧ v_bounds_Of (v_capops_Move c n) = v_bounds_Of c ∧ (v_capops_Move c n).ad = n := fun h => by
    obtain ⟨h1, h2, h3, h4, h5⟩ := move_less h
    exact ⟨h3, h4, h5⟩
  have hB := @bound_len c n ex
  have hD := @build_tail c d
  have tail : (cond ((v_capops_Bound c n ex).tag) (cond (!v_bounds_In (v_bounds_Of (v_capops_Bound c n ex)) (v_capops_Bound c n ex).ad 0#64) (some (AV.bool false)) (cond ((v_bounds_Len (v_bounds_Of (v_capops_Bound c n ex))).ult n) (some (AV.bool false)) (cond ex (cond (!v_bounds_Len (v_bounds_Of (v_capops_Bound c n ex)) == n) (some (AV.bool false)) (some (AV.bool true))) (some (AV.bool true))))) (some (AV.bool true))) = some (AV.bool true) := by
    cases hq : (v_capops_Bound c n ex).tag with
    | false => rfl
    | true =>
      obtain ⟨q1, q2, q3⟩ := hB hq
      simp only [q1, q2, Bool.not_true, cond_true, cond_false]
      cases ex with
      | false => rfl
      | true => simp only [q3 rfl, Bool.not_true, cond_true, cond_false]
  simp only [tail]
  have tailM : ∀ x : Option AV, x = some (AV.bool true) → (cond ((v_capops_Move c n).tag) (cond (!(v_capops_Move c n).per == c.per) (some (AV.bool false)) (cond (!((v_bounds_Of (v_capops_Move c n)).base == (v_bounds_Of c).base && ((v_bounds_Of (v_capops_Move c n)).top == (v_bounds_Of c).top && ((v_bounds_Of (v_capops_Move c n)).over == (v_bounds_Of c).over && true)))) (some (AV.bool false)) (cond (!(v_capops_Move c n).ad == n) (some (AV.bool false)) x))) x) = some (AV.bool true) := by
    intro x hx
    cases hm : (v_capops_Move c n).tag with
    | false => exact hx
    | true =>
      obtain ⟨q1, q2, q3⟩ := hM hm
      simp only [q1, q2, q3, beq_self_eq_true, Bool.and_self, Bool.not_true, cond_true, cond_false, hx]
  rw [tailM _ rfl]
  cases hb : (v_capops_Build c d).tag with
  | false => rfl
  | true =>
    obtain ⟨q1, q2, q3⟩ := hD hb
    simp only [q1, q2, q3, beq_self_eq_true, Bool.and_self, Bool.not_true, cond_true, cond_false]
end Go.Sx

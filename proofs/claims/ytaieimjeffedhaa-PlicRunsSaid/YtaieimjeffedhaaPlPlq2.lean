/- The interrupt controller and the document's: loads and stores. -/
import Derived.Test.YtaieimjeffedhaaPlPlq
import Derived.Test.YtaieimjeffedhaaPlPlr4
set_option linter.unusedSimpArgs false
set_option linter.unusedVariables false
set_option linter.unnecessarySimpa false
namespace Go.Sx
open Go
theorem tOf_0 (p : PSt) : xT (tOf p) 0 = BitVec.setWidth 64 (cell32 p.th 0) := rfl
theorem tOf_1 (p : PSt) : xT (tOf p) 1 = BitVec.setWidth 64 (cell32 p.th 1) := rfl
theorem xA_hf (p : PSt) : ∀ s, s < 32 → xA (xOf p) s = (cell32 p.en 0).getLsbD s := fun s h => xOf_A p s h
theorem xB_hf (p : PSt) : ∀ s, s < 32 → xB (xOf p) s = (cell32 p.en 1).getLsbD s := fun s h => xOf_B p s h
theorem pd_0 (p : PSt) (h : POk p) : v_pdB p 0#64 = v_xp (xOf p) (xA (xOf p)) (xT (tOf p) 0) := by
  rw [tOf_0, pend_eq p h _ _ (xA_hf p) _ (h.th7 0)]
  unfold v_pdB
  have e : ((0#64).sle 0#64 && (0#64).slt 2#64) = true := by decide
  rw [e, Bool.true_and]; rfl
theorem pd_1 (p : PSt) (h : POk p) : v_pdB p 1#64 = v_xp (xOf p) (xB (xOf p)) (xT (tOf p) 1) := by
  rw [tOf_1, pend_eq p h _ _ (xB_hf p) _ (h.th7 1)]
  unfold v_pdB
  have e : ((0#64).sle 1#64 && (1#64).slt 2#64) = true := by decide
  rw [e, Bool.true_and]; rfl
theorem pd_o (p : PSt) (cx : BitVec 64) (h0 : (cx == 0#64) = false) (h1 : (cx == 1#64) = false) : v_pdB p cx = false := by
  unfold v_pdB
  cases a : (0#64).sle cx with
  | false => rfl
  | true =>
    cases b : cx.slt 2#64 with
    | false => rfl
    | true =>
      have h := cx_lt cx a b
      rw [beq_eq_false_iff_ne] at h0 h1
      rcases (show cx.toNat = 0 ∨ cx.toNat = 1 by omega) with e | e
      · exact absurd (BitVec.eq_of_toNat_eq e) h0
      · exact absurd (BitVec.eq_of_toNat_eq e) h1
theorem ld_eq (p : PSt) (h : POk p) (off size : BitVec 64) : v_ldV p off size = v_xldV (xOf p) (tOf p) off size := by
  unfold v_ldV v_xldV
  have hW := which_reg off size
  generalize v_plic_which off size = W at hW ⊢
  dsimp only
  have eA := xi_eq (xA (xOf p)) _ (xA_hf p)
  have eB := xi_eq (xB (xOf p)) _ (xB_hf p)
  have eQ := xi_eq (xQ (xOf p)) p.pe (fun s hs => xOf_Q p s hs)
  have bA := best_eq p h _ _ (xA_hf p)
  have bB := best_eq p h _ _ (xB_hf p)
  rcases hW with w | ⟨w1, w2, _, _⟩ | ⟨w, _, _⟩ | ⟨w, _, _⟩ | ⟨w, _, _⟩ | ⟨w, _, _⟩ | ⟨w, _, _⟩ | ⟨w, _, _⟩ | ⟨w, _, _⟩
  case none => subst w; rfl
  case prio => rw [w1]; exact (xOf_P p _ w2).symm
  case pend => subst w; exact eQ.symm
  case en0 => subst w; exact eA.symm
  case en1 => subst w; exact eB.symm
  case th0 => subst w; rfl
  case th1 => subst w; rfl
  case cl0 => subst w; exact bA.symm
  case cl1 => subst w; exact bB.symm
theorem x_row {L : List (List AV)} {s : Nat} {a : BitVec 64} {b c d e : Bool} (g : L.getD s [] = xRow a b c d e) : xP L s = a ∧ xQ L s = b ∧ xA L s = d ∧ xB L s = e := by
  unfold xP xQ xA xB; rw [g]; exact ⟨rfl, rfl, rfl, rfl⟩
theorem claim_eq (p : PSt) (h : POk p) (k : Nat) (f : Nat → Bool) (hf : ∀ s, s < 32 → f s = (cell32 p.en k).getLsbD s) : xClaim (xOf p) f = xOf (pClaim p k) := by
  have hb := best_eq p h f _ hf
  unfold xClaim pClaim
  dsimp only
  rw [hb, zext_nat]
  have hlt := best_lt p.pr (p.pe &&& cell32 p.en k)
  generalize v_best p.pr (p.pe &&& cell32 p.en k) 0#32 0#32 1#32 = b at *
  have e0 : (0#64).slt (BitVec.setWidth 64 b) = (0#32).ult b := by
    rw [slt_nat (by decide) (by rw [zext_nat]; omega), zext_nat]; rfl
  rw [e0]
  cases hc : (0#32).ult b with
  | false => rfl
  | true =>
    simp only [cond_true]
    have l32 := xOf_len p
    have g : ((xOf p).set b.toNat (xRow (xP (xOf p) b.toNat) false (xV (xOf p) b.toNat) (xA (xOf p) b.toNat) (xB (xOf p) b.toNat))).getD b.toNat [] = xRow (xP (xOf p) b.toNat) false (xV (xOf p) b.toNat) (xA (xOf p) b.toNat) (xB (xOf p) b.toNat) := getD_set_self _ _ _ (by omega)
    rw [List.set_set]
    refine xOf_set p _ b.toNat _ hlt ?_ fun j hj hne => ?_
    · obtain ⟨g1, g2, g3, g4⟩ := x_row g
      rw [g1, g2, g3, g4, xOf_P p _ hlt, xOf_A p _ hlt, xOf_B p _ hlt]
      refine xRow_eq rfl ?_ ?_ rfl rfl
      · simp only [BitVec.getLsbD_and, BitVec.getLsbD_not, BitVec.getLsbD_shiftLeft, BitVec.getLsbD_one, Nat.min_eq_left (Nat.le_of_lt hlt), hlt, decide_true, Bool.true_and, Nat.lt_irrefl, decide_false, Bool.not_false, Nat.sub_self]
        simp
      · simp only [BitVec.getLsbD_or, BitVec.getLsbD_shiftLeft, BitVec.getLsbD_one, Nat.min_eq_left (Nat.le_of_lt hlt), hlt, decide_true, Bool.true_and, Nat.lt_irrefl, decide_false, Bool.not_false, Nat.sub_self]
        simp
    · unfold xOfR
      have hbit : (1#32 <<< min b.toNat 32).getLsbD j = false := by
        simp only [BitVec.getLsbD_shiftLeft, BitVec.getLsbD_one, Nat.min_eq_left (Nat.le_of_lt hlt), hj, decide_true, Bool.true_and]
        by_cases q : j < b.toNat
        · simp [q]
        · have : j - b.toNat ≠ 0 := by omega
          simp [this]
      refine xRow_eq rfl ?_ ?_ rfl rfl
      · simp only [BitVec.getLsbD_and, BitVec.getLsbD_not, hbit, hj, decide_true, Bool.not_false, Bool.and_true]
      · simp only [BitVec.getLsbD_or, hbit, Bool.or_false]
theorem ldL_eq (p : PSt) (h : POk p) (off size : BitVec 64) : v_xldL (xOf p) off size = xOf (v_ldP p off size) := by
  unfold v_xldL v_ldP
  have hW := which_reg off size
  generalize v_plic_which off size = W at hW ⊢
  rcases hW with w | ⟨w1, w2, _, _⟩ | ⟨w, _, _⟩ | ⟨w, _, _⟩ | ⟨w, _, _⟩ | ⟨w, _, _⟩ | ⟨w, _, _⟩ | ⟨w, _, _⟩ | ⟨w, _, _⟩
  case prio => rw [w1]; rfl
  case cl0 => subst w; exact claim_eq p h 0 _ (xA_hf p)
  case cl1 => subst w; exact claim_eq p h 1 _ (xB_hf p)
  all_goals (subst w; rfl)
theorem ldP_th (p : PSt) (off size : BitVec 64) : (v_ldP p off size).th = p.th := by
  unfold v_ldP
  cases ((v_plic_which off size).1 == 5#64)
  · rfl
  · exact pClaim_th _ _
theorem tOf_th (p q : PSt) (h : p.th = q.th) : tOf p = tOf q := by unfold tOf; rw [h]
theorem POk.load {p : PSt} (h : POk p) (off size : BitVec 64) : POk (v_ldP p off size) := by
  unfold v_ldP
  cases ((v_plic_which off size).1 == 5#64)
  · exact h
  · exact h.claim _
theorem z7' (v : BitVec 64) : BitVec.setWidth 64 (BitVec.setWidth 32 (v &&& 7#64)) = v % 8#64 := by
  apply BitVec.eq_of_toNat_eq
  rw [zext_nat, BitVec.toNat_setWidth, BitVec.toNat_umod, BitVec.toNat_and, show (7#64).toNat = 2 ^ 3 - 1 from rfl, Nat.and_two_pow_sub_one_eq_mod, show (8#64).toNat = 2 ^ 3 from rfl]
  omega
theorem prio_eq (p : PSt) (h : POk p) (n : Nat) (hn : n < 32) (v : BitVec 64) :
    (xOf p).set n (xRow (BitVec.setWidth 64 (v % 8#64)) (xQ (xOf p) n) (xV (xOf p) n) (xA (xOf p) n) (xB (xOf p) n)) = xOf { p with pr := p.pr.set n [.int .u32 (BitVec.setWidth 32 (v &&& 7#64))] } := by
  refine xOf_set p _ n _ hn ?_ fun j hj hne => ?_
  · rw [xOf_Q p n hn, xOf_V p n hn, xOf_A p n hn, xOf_B p n hn]
    refine xRow_eq ?_ rfl rfl rfl rfl
    dsimp only
    rw [cell32_set _ _ _ _ (by rw [h.lpr]; exact hn), if_pos rfl, z7', BitVec.setWidth_eq]
  · refine xRow_eq ?_ rfl rfl rfl rfl
    dsimp only
    rw [cell32_set _ _ _ _ (by rw [h.lpr]; exact hn), if_neg hne]
theorem lo32v (v : BitVec 64) : (v % 4294967296#64).toNat = (BitVec.setWidth 32 v).toNat := by
  rw [BitVec.toNat_umod, BitVec.toNat_setWidth]; rfl
theorem done_eq (p : PSt) (h : POk p) (k : Nat) (f : Nat → Bool) (hf : ∀ s, s < 32 → f s = (cell32 p.en k).getLsbD s) (v : BitVec 64) :
    xDone (xOf p) f v = xOf (cond ((BitVec.setWidth 32 v).ult 32#32) { p with se := p.se &&& ~~~(1#32 <<< min (BitVec.setWidth 32 v).toNat 32 &&& cell32 p.en k) } p) := by
  unfold xDone
  dsimp only
  have e1 : (v % 4294967296#64).ult 32#64 = (BitVec.setWidth 32 v).ult 32#32 := by
    rw [ultN, ultN, lo32v]; rfl
  have e2 : (BitVec.setWidth 64 (v % 4294967296#64)).toNat = (BitVec.setWidth 32 v).toNat := by rw [BitVec.setWidth_eq, lo32v]
  rw [e1, e2]
  generalize BitVec.setWidth 32 v = b at *
  cases hc : b.ult 32#32 with
  | false => rfl
  | true =>
    rw [ultN, show (32#32).toNat = 32 from rfl, decide_eq_true_eq] at hc
    simp only [cond_true]
    have hbit : ∀ j, j < 32 → (1#32 <<< min b.toNat 32 &&& cell32 p.en k).getLsbD j = (decide (j = b.toNat) && (cell32 p.en k).getLsbD j) := by
      intro j hj
      simp only [BitVec.getLsbD_and, BitVec.getLsbD_shiftLeft, BitVec.getLsbD_one, Nat.min_eq_left (Nat.le_of_lt hc), hj, decide_true, Bool.true_and]
      by_cases q : j = b.toNat
      · subst q; simp
      · by_cases q' : j < b.toNat
        · simp [q, q']
        · have : j - b.toNat ≠ 0 := by omega
          simp [q, this]
    rw [hf _ hc]
    cases he : (cell32 p.en k).getLsbD b.toNat with
    | true =>
      simp only [cond_true]
      refine xOf_set p _ b.toNat _ hc ?_ fun j hj hne => ?_
      · rw [xOf_P p _ hc, xOf_Q p _ hc, xOf_A p _ hc, xOf_B p _ hc]
        refine xRow_eq rfl rfl ?_ rfl rfl
        simp only [BitVec.getLsbD_and (x := p.se), BitVec.getLsbD_not, hbit _ hc, he, hc, decide_true, Bool.true_and, Bool.not_true, Bool.and_false]
      · refine xRow_eq rfl rfl ?_ rfl rfl
        simp only [BitVec.getLsbD_and (x := p.se), BitVec.getLsbD_not, hbit _ hj, hj, hne, decide_true, decide_false, Bool.true_and, Bool.false_and, Bool.not_false, Bool.and_true]
    | false =>
      simp only [cond_false]
      congr 1
      have hse : p.se &&& ~~~(1#32 <<< min b.toNat 32 &&& cell32 p.en k) = p.se := by
        apply BitVec.eq_of_getLsbD_eq
        intro j hj
        simp only [BitVec.getLsbD_and (x := p.se), BitVec.getLsbD_not, hbit _ hj, hj, decide_true, Bool.true_and]
        by_cases q : j = b.toNat
        · subst q; rw [he]; simp
        · simp [q]
      rw [hse]
theorem xOf_th (p : PSt) (t : List (List AV)) : xOf { p with th := t } = xOf p := rfl
theorem stL_eq (p : PSt) (h : POk p) (off size v : BitVec 64) : v_xstL (xOf p) off size v = xOf (v_stP p off size v) := by
  unfold v_xstL v_stP
  have hW := which_reg off size
  generalize v_plic_which off size = W at hW ⊢
  dsimp only
  rcases hW with w | ⟨w1, w2, _, _⟩ | ⟨w, _, _⟩ | ⟨w, _, _⟩ | ⟨w, _, _⟩ | ⟨w, _, _⟩ | ⟨w, _, _⟩ | ⟨w, _, _⟩ | ⟨w, _, _⟩
  case prio =>
    rw [w1]
    show cond ((0#64).slt W.2) _ _ = xOf (cond ((0#64).slt W.2) _ _)
    cases (0#64).slt W.2 with
    | false => rfl
    | true => exact prio_eq p h _ w2 v
  case en0 =>
    subst w; dsimp only; simp only [BitVec.reduceBEq, cond_true, cond_false, BitVec.toNat_ofNat, Nat.zero_mod]
    exact enA_eq p h v
  case en1 =>
    subst w; dsimp only; simp only [BitVec.reduceBEq, cond_true, cond_false, BitVec.reduceToNat]
    exact enB_eq p h v
  case cl0 =>
    subst w; dsimp only; simp only [BitVec.reduceBEq, cond_true, cond_false, BitVec.reduceToNat, xEn]
    exact done_eq p h 0 _ (xA_hf p) v
  case cl1 =>
    subst w; dsimp only; simp only [BitVec.reduceBEq, cond_true, cond_false, BitVec.reduceToNat, xEn]
    exact done_eq p h 1 _ (xB_hf p) v
  case th0 => subst w; dsimp only; simp only [BitVec.reduceBEq, cond_true, cond_false]; exact (xOf_th p _).symm
  case th1 => subst w; dsimp only; simp only [BitVec.reduceBEq, cond_true, cond_false]; exact (xOf_th p _).symm
  all_goals (subst w; dsimp only; simp only [BitVec.reduceBEq, cond_true, cond_false])
theorem stT_eq (p : PSt) (h : POk p) (off size v : BitVec 64) : v_xstT (tOf p) off size v = tOf (v_stP p off size v) := by
  unfold v_xstT v_stP
  have hW := which_reg off size
  generalize v_plic_which off size = W at hW ⊢
  dsimp only
  have hl := h.lth
  rcases hW with w | ⟨w1, w2, _, _⟩ | ⟨w, _, _⟩ | ⟨w, _, _⟩ | ⟨w, _, _⟩ | ⟨w, _, _⟩ | ⟨w, _, _⟩ | ⟨w, _, _⟩ | ⟨w, _, _⟩
  case prio =>
    rw [w1]
    show tOf p = tOf (cond ((0#64).slt W.2) _ _)
    cases (0#64).slt W.2 <;> rfl
  case th0 =>
    subst w
    show (tOf p).set 0 [.int .i64 (BitVec.setWidth 64 (v % 8#64))] = [[.int .i64 (BitVec.setWidth 64 (cell32 (p.th.set 0 [.int .u32 (BitVec.setWidth 32 (v &&& 7#64))]) 0))], [.int .i64 (BitVec.setWidth 64 (cell32 (p.th.set 0 [.int .u32 (BitVec.setWidth 32 (v &&& 7#64))]) 1))]]
    rw [cell32_set _ _ _ _ (by omega), cell32_set _ _ _ _ (by omega), if_pos (show (0 : Nat) = 0 from rfl), if_neg (show ¬ (1 : Nat) = 0 by decide), z7', BitVec.setWidth_eq]; unfold tOf; rw [List.set_cons_zero]
  case th1 =>
    subst w
    show (tOf p).set 1 [.int .i64 (BitVec.setWidth 64 (v % 8#64))] = [[.int .i64 (BitVec.setWidth 64 (cell32 (p.th.set 1 [.int .u32 (BitVec.setWidth 32 (v &&& 7#64))]) 0))], [.int .i64 (BitVec.setWidth 64 (cell32 (p.th.set 1 [.int .u32 (BitVec.setWidth 32 (v &&& 7#64))]) 1))]]
    rw [cell32_set _ _ _ _ (by omega), cell32_set _ _ _ _ (by omega), if_neg (show ¬ (0 : Nat) = 1 by decide), if_pos (show (1 : Nat) = 1 from rfl), z7', BitVec.setWidth_eq]; unfold tOf; rw [List.set_cons_succ, List.set_cons_zero]
  case cl0 =>
    subst w
    show tOf p = tOf (cond ((BitVec.setWidth 32 v).ult 32#32) _ _)
    cases (BitVec.setWidth 32 v).ult 32#32 <;> rfl
  case cl1 =>
    subst w
    show tOf p = tOf (cond ((BitVec.setWidth 32 v).ult 32#32) _ _)
    cases (BitVec.setWidth 32 v).ult 32#32 <;> rfl
  all_goals (subst w; rfl)
theorem which_pend : v_plic_which 4096#64 4#64 = (2#64, 0#64) := by decide
theorem ldP_pend (p : PSt) : v_ldP p 4096#64 4#64 = p := by unfold v_ldP; rw [which_pend]; rfl
theorem ldL_pend (L : List (List AV)) : v_xldL L 4096#64 4#64 = L := by unfold v_xldL; rw [which_pend]; rfl
theorem stP_ok {p : PSt} (h : POk p) (off size v : BitVec 64) : POk (v_stP p off size v) := h.store off size v
end Go.Sx

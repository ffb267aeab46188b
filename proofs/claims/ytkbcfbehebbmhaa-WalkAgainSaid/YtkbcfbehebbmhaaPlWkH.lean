/- Walks: what was found is found again, at all addresses of its page. -/
import Derived.Test.YtkbcfbehebbmhaaPlWkG
set_option linter.unusedSimpArgs false
set_option linter.unusedVariables false
set_option linter.unnecessarySimpa false
namespace Go.Sx
open Go
theorem wk_good_of {va : BitVec 64} (h : va.toNat < 2 ^ 38 ∨ 2 ^ 64 - 2 ^ 38 ≤ va.toNat) : wkBad va = false := by
  unfold wkBad
  rw [Bool.not_eq_false', beq_iff_eq, BitVec.setWidth_eq]
  apply BitVec.eq_of_toInt_eq
  rw [BitVec.toInt_sshiftRight, Int.shiftRight_eq_div_pow, BitVec.toInt_shiftLeft]
  have h5 := BitVec.toInt_eq_toNat_cond (x := va)
  have hlt := va.isLt
  have e4 : ((2 ^ 64 : Nat) : Int) = 18446744073709551616 := rfl
  have e2 : ((2 ^ 25 : Nat) : Int) = 33554432 := rfl
  rw [h5, Nat.shiftLeft_eq, e2, e4]
  rw [Int.bmod_def, e4]
  have e6 : ((va.toNat * 2 ^ 25 : Nat) : Int) = (va.toNat : Int) * 33554432 := by rw [Int.natCast_mul]; rfl
  rw [e6]
  generalize va.toNat = z at *
  rcases h with h | h
  · rw [if_pos (by omega), if_pos (by omega)]; omega
  · rw [if_neg (by omega), if_neg (by omega)]; omega
theorem div_more {x y a b : Nat} (hab : a ≤ b) (h : x / 2 ^ a = y / 2 ^ a) : x / 2 ^ b = y / 2 ^ b := by
  have h2 : 2 ^ b = 2 ^ a * 2 ^ (b - a) := by rw [← Nat.pow_add]; congr 1; omega
  rw [h2, ← Nat.div_div_eq_div_mul, ← Nat.div_div_eq_div_mul, h]
theorem wk_bad_eq {va va' : BitVec 64} {s : Nat} (hs : s ≤ 38) (h : va'.toNat / 2 ^ s = va.toNat / 2 ^ s) (hb : wkBad va = false) : wkBad va' = false := by
  apply wk_good_of
  have e : va'.toNat / 2 ^ 38 = va.toNat / 2 ^ 38 := div_more hs h
  have := va'.isLt
  rcases wk_high hb with h | h <;> omega
theorem wk_page_eq {lev va va' : BitVec 64} (hl : lev = 0#64 ∨ lev = 1#64 ∨ lev = 2#64) (h : va'.toNat / 2 ^ (12 + wkS lev) = va.toNat / 2 ^ (12 + wkS lev)) : va' >>> 12 &&& wkM lev = va >>> 12 &&& wkM lev := by
  apply BitVec.eq_of_toNat_eq
  rw [wk_page hl, wk_page hl, Nat.div_div_eq_div_mul, Nat.div_div_eq_div_mul, ← Nat.pow_add, h]
/-- What is read behind a walk. -/
theorem wkD_rd {n : Nat} {tg d : List (List AV)} (hR : Rok n tg d) {kind p a b : BitVec 64} {W : Wk} (hp : wkRd n d a = p) (h1 : W.at_ = a) (h2 : W.pte = v_pte_Mark p kind) (h3 : W.wr = !(v_pte_Mark p kind == p)) (ha : wkIn n a = true) (hb : wkIn n b = true) (ha8 : a.toNat % 8 = 0) (hb8 : b.toNat % 8 = 0) :
    wkRd n (v_wkD n d W) b = if b = a then v_pte_Mark p kind else wkRd n d b := by
  unfold v_wkD
  rw [h1, h2, h3]
  cases hq : (v_pte_Mark p kind == p) with
  | true =>
    rw [beq_iff_eq] at hq
    show wkRd n d b = _
    split
    · rename_i e; rw [e, hp, hq]
    · rfl
  | false => exact wk_rd hR ha hb ha8 hb8
theorem wkLeaf_again {satp va va' kind priv mst p lev mask a : BitVec 64} {A : List (BitVec 64)} {w : Bool} (hl : lev = 0#64 ∨ lev = 1#64 ∨ lev = 2#64) (hm : mask = wkM lev) (hv : va'.toNat / 2 ^ (12 + wkS lev) = va.toNat / 2 ^ (12 + wkS lev)) (h : v_pte_May p kind priv mst = true) :
    wkLeaf satp va' kind priv mst (v_pte_Mark p kind) lev mask a A = { (⟨A, 0#64, BitVec.setWidth 64 (satp >>> 44 &&& 65535#64), lev, va >>> 12 &&& mask, v_pte_Mark p kind, a, w⟩ : Wk) with wr := false } := by
  unfold wkLeaf
  rw [mark_may h, mark_mark, cond_true, hm, wk_page_eq hl hv, beq_self_eq_true]; rfl
theorem wk_again {n : Nat} {tg d : List (List AV)} (hR : Rok n tg d) {satp va kind priv mst va' : BitVec 64} {W : Wk} (hW : v_wk n d satp va kind priv mst = W) (h0 : W.why = 0#64) (hv : va'.toNat / 2 ^ (12 + wkS W.lev) = va.toNat / 2 ^ (12 + wkS W.lev)) :
    v_wk n (v_wkD n d W) satp va' kind priv mst = { W with wr := false } ∧ W.A.length = 3 - W.lev.toNat ∧ (∀ a ∈ W.A, wkIn n a = true ∧ a.toNat % 8 = 0) ∧ W.at_ ∈ W.A ∧ W.pte = v_pte_Mark (wkRd n d W.at_) kind ∧ W.wr = !(v_pte_Mark (wkRd n d W.at_) kind == wkRd n d W.at_) := by
  unfold v_wk at hW ⊢
  cases hb : wkBad va with
  | true => rw [hb] at hW; subst hW; simp [wkNo] at h0
  | false =>
  rw [hb, cond_false] at hW
  unfold wk2 at hW
  generalize hA2 : wkAt satp va 30 = A2 at hW
  have A28 : A2.toNat % 8 = 0 := by rw [← hA2]; exact wkAt_8 _ _ _
  cases hi2 : wkIn n A2 with
  | false => rw [hi2] at hW; subst hW; simp [wkNo] at h0
  | true =>
  rw [hi2, cond_true] at hW
  generalize hP2 : wkRd n d A2 = P2 at hW
  cases hr2 : v_pte_Right P2 2#64 with
  | false => rw [hr2] at hW; subst hW; simp [wkNo] at h0
  | true =>
  rw [hr2, cond_true] at hW
  cases hf2 : v_pte_Leaf P2 with
  | true =>
    rw [hf2, cond_true] at hW
    unfold wkLeaf at hW
    cases hm : v_pte_May P2 kind priv mst with
    | false => rw [hm] at hW; subst hW; simp [wkNo] at h0
    | true =>
    rw [hm, cond_true] at hW
    have e1 : W.lev = 2#64 := by rw [← hW]
    have e2 : W.at_ = A2 := by rw [← hW]
    have e3 : W.pte = v_pte_Mark P2 kind := by rw [← hW]
    have e4 : W.wr = !(v_pte_Mark P2 kind == P2) := by rw [← hW]
    rw [e1] at hv
    have q2 := wkD_rd hR (W := W) hP2 e2 e3 e4 hi2 hi2 A28 A28
    rw [if_pos rfl] at q2
    refine ⟨?_, by rw [← hW]; rfl, by rw [← hW]; simp [hi2, A28], by rw [← hW]; simp, by rw [e2, hP2]; exact e3, by rw [e2, hP2]; exact e4⟩
    rw [wk_bad_eq (show 30 ≤ 38 by decide) hv hb, cond_false]
    unfold wk2
    rw [wkAt_va (va := va) (va' := va') (s := 30) hv, hA2, hi2, q2, mark_right hf2 hr2, mark_leaf, hf2]
    simp only [cond_true]
    rw [← hW]
    exact wkLeaf_again (.inr (.inr rfl)) rfl hv hm
  | false =>
  rw [hf2, cond_false] at hW
  unfold wk1 at hW
  generalize hA1 : wkAt (P2 >>> 10) va 21 = A1 at hW
  have A18 : A1.toNat % 8 = 0 := by rw [← hA1]; exact wkAt_8 _ _ _
  cases hi1 : wkIn n A1 with
  | false => rw [hi1] at hW; subst hW; simp [wkNo] at h0
  | true =>
  rw [hi1, cond_true] at hW
  generalize hP1 : wkRd n d A1 = P1 at hW
  cases hr1 : v_pte_Right P1 1#64 with
  | false => rw [hr1] at hW; subst hW; simp [wkNo] at h0
  | true =>
  rw [hr1, cond_true] at hW
  cases hf1 : v_pte_Leaf P1 with
  | true =>
    rw [hf1, cond_true] at hW
    unfold wkLeaf at hW
    cases hm : v_pte_May P1 kind priv mst with
    | false => rw [hm] at hW; subst hW; simp [wkNo] at h0
    | true =>
    rw [hm, cond_true] at hW
    have e1 : W.lev = 1#64 := by rw [← hW]
    have e2 : W.at_ = A1 := by rw [← hW]
    have e3 : W.pte = v_pte_Mark P1 kind := by rw [← hW]
    have e4 : W.wr = !(v_pte_Mark P1 kind == P1) := by rw [← hW]
    rw [e1] at hv
    have hv30 : va'.toNat / 2 ^ 30 = va.toNat / 2 ^ 30 := div_more (show 12 + wkS 1#64 ≤ 30 by decide) hv
    have n2 : A2 ≠ A1 := by intro e; rw [e, hP1] at hP2; rw [hP2, hf2] at hf1; cases hf1
    have q1 := wkD_rd hR (W := W) hP1 e2 e3 e4 hi1 hi1 A18 A18
    rw [if_pos rfl] at q1
    have q2 := wkD_rd hR (W := W) hP1 e2 e3 e4 hi1 hi2 A18 A28
    rw [if_neg n2, hP2] at q2
    refine ⟨?_, by rw [← hW]; rfl, by rw [← hW]; simp [hi2, A28, hi1, A18], by rw [← hW]; simp, by rw [e2, hP1]; exact e3, by rw [e2, hP1]; exact e4⟩
    rw [wk_bad_eq (show 30 ≤ 38 by decide) hv30 hb, cond_false]
    unfold wk2
    rw [wkAt_va (va := va) (va' := va') (s := 30) hv30, hA2, hi2, q2, hr2, hf2]
    simp only [cond_true, cond_false]
    unfold wk1
    rw [wkAt_va (va := va) (va' := va') (s := 21) hv, hA1, hi1, q1, mark_right hf1 hr1, mark_leaf, hf1]
    simp only [cond_true]
    rw [← hW]
    exact wkLeaf_again (.inr (.inl rfl)) rfl hv hm
  | false =>
  rw [hf1, cond_false] at hW
  unfold wk0 at hW
  generalize hA0 : wkAt (P1 >>> 10) va 12 = A0 at hW
  have A08 : A0.toNat % 8 = 0 := by rw [← hA0]; exact wkAt_8 _ _ _
  cases hi0 : wkIn n A0 with
  | false => rw [hi0] at hW; subst hW; simp [wkNo] at h0
  | true =>
  rw [hi0, cond_true] at hW
  generalize hP0 : wkRd n d A0 = P0 at hW
  cases hr0 : v_pte_Right P0 0#64 with
  | false => rw [hr0] at hW; subst hW; simp [wkNo] at h0
  | true =>
  rw [hr0, cond_true] at hW
  cases hf0 : v_pte_Leaf P0 with
  | false => rw [hf0] at hW; subst hW; simp [wkNo] at h0
  | true =>
    rw [hf0, cond_true] at hW
    unfold wkLeaf at hW
    cases hm : v_pte_May P0 kind priv mst with
    | false => rw [hm] at hW; subst hW; simp [wkNo] at h0
    | true =>
    rw [hm, cond_true] at hW
    have e1 : W.lev = 0#64 := by rw [← hW]
    have e2 : W.at_ = A0 := by rw [← hW]
    have e3 : W.pte = v_pte_Mark P0 kind := by rw [← hW]
    have e4 : W.wr = !(v_pte_Mark P0 kind == P0) := by rw [← hW]
    rw [e1] at hv
    have hv30 : va'.toNat / 2 ^ 30 = va.toNat / 2 ^ 30 := div_more (show 12 + wkS 0#64 ≤ 30 by decide) hv
    have hv21 : va'.toNat / 2 ^ 21 = va.toNat / 2 ^ 21 := div_more (show 12 + wkS 0#64 ≤ 21 by decide) hv
    have n2 : A2 ≠ A0 := by intro e; rw [e, hP0] at hP2; rw [hP2, hf2] at hf0; cases hf0
    have n1 : A1 ≠ A0 := by intro e; rw [e, hP0] at hP1; rw [hP1, hf1] at hf0; cases hf0
    have q0 := wkD_rd hR (W := W) hP0 e2 e3 e4 hi0 hi0 A08 A08
    rw [if_pos rfl] at q0
    have q2 := wkD_rd hR (W := W) hP0 e2 e3 e4 hi0 hi2 A08 A28
    rw [if_neg n2, hP2] at q2
    have q1 := wkD_rd hR (W := W) hP0 e2 e3 e4 hi0 hi1 A08 A18
    rw [if_neg n1, hP1] at q1
    refine ⟨?_, by rw [← hW]; rfl, by rw [← hW]; simp [hi2, A28, hi1, A18, hi0, A08], by rw [← hW]; simp, by rw [e2, hP0]; exact e3, by rw [e2, hP0]; exact e4⟩
    rw [wk_bad_eq (show 30 ≤ 38 by decide) hv30 hb, cond_false]
    unfold wk2
    rw [wkAt_va (va := va) (va' := va') (s := 30) hv30, hA2, hi2, q2, hr2, hf2]
    simp only [cond_true, cond_false]
    unfold wk1
    rw [wkAt_va (va := va) (va' := va') (s := 21) hv21, hA1, hi1, q1, hr1, hf1]
    simp only [cond_true, cond_false]
    unfold wk0
    rw [wkAt_va (va := va) (va' := va') (s := 12) hv, hA0, hi0, q0, mark_right hf0 hr0, mark_leaf, hf0]
    simp only [cond_true]
    rw [← hW]
    exact wkLeaf_again (.inl rfl) rfl hv hm
end Go.Sx

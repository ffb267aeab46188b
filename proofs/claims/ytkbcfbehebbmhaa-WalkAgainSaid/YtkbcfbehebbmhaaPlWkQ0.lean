/- WalkAgain: what walks leave. -/
import Derived.Test.YtkbcfbehebbmhaaPlWkH
import Derived.Test.YtkbcfbehebbmhaaPlWkN
import Derived.Test.YtkbcfbehebbmhaaPlWkR
import Derived.Test.YtkbcfbehebbmhaaPlWkM2
set_option linter.unusedSimpArgs false
set_option linter.unusedVariables false
set_option linter.unnecessarySimpa false
namespace Go.Sx
open Go
theorem rok_wk2 {n : Nat} {tg d : List (List AV)} (h : Rok n tg d) (W : Wk) : Rok n (v_wkT n tg W) (v_wkD n d W) := by
  unfold v_wkT v_wkD
  cases W.wr with
  | true => exact h.store _ _ _
  | false => exact h
theorem rmw_ok2 {n : Nat} {tg d : List (List AV)} (h : Rok n tg d) : g_rmw n tg n d = true := by
  unfold g_rmw
  rw [h.ram, h.lg]; rfl
theorem lz_ok2 {k : Nat} (hk : k < 2 ^ 63) : g_lz k k = true := by
  unfold g_lz
  rw [Bool.and_eq_true]
  exact ⟨Nat.ble_eq_true_of_le (Nat.le_refl _), Nat.ble_eq_true_of_le hk⟩
theorem priv_ok2 (a : BitVec 64) : (nonneg IntKind.i64 (v_kit_Pick a 2#64) && decide ((v_kit_Pick a 2#64).toNat < 2)) = true ∧ decide (0 + (v_kit_Pick a 2#64).toNat < 2) = true := by
  have h := pickLt a 2#64 (by decide) (by decide)
  rw [show (2#64).toNat = 2 from rfl] at h
  refine ⟨?_, decide_eq_true (by omega)⟩
  rw [nonneg_lt (by omega), decide_eq_true h]; rfl
theorem rok_new : Rok 12288 v_zT v_zB := by rw [zB_eq, zT_eq]; exact rok_zero
/-! ### what is not found -/
theorem wk_no {n : Nat} {d : List (List AV)} {satp va kind priv mst : BitVec 64} {W : Wk} (hW : v_wk n d satp va kind priv mst = W) : W.why = 0#64 ∨ ∃ A w, W = wkNo A w ∧ (w == 0#64) = false ∧ A.length ≤ 3 ∧ ∀ a ∈ A, wkIn n a = true := by
  unfold v_wk at hW
  cases hb : wkBad va with
  | true => rw [hb] at hW; exact .inr ⟨[], 1#64, hW.symm, rfl, by simp, by simp⟩
  | false =>
  rw [hb, cond_false] at hW
  unfold wk2 at hW
  generalize wkAt satp va 30 = A2 at hW
  cases hi2 : wkIn n A2 with
  | false => rw [hi2] at hW; exact .inr ⟨[], 2#64, hW.symm, rfl, by simp, by simp⟩
  | true =>
  rw [hi2, cond_true] at hW
  generalize wkRd n d A2 = P2 at hW
  cases hr2 : v_pte_Right P2 2#64 with
  | false => rw [hr2] at hW; exact .inr ⟨[A2], 1#64, hW.symm, rfl, by simp, by simp [hi2]⟩
  | true =>
  rw [hr2, cond_true] at hW
  cases hf2 : v_pte_Leaf P2 with
  | true =>
    rw [hf2, cond_true] at hW
    unfold wkLeaf at hW
    cases hm : v_pte_May P2 kind priv mst with
    | false => rw [hm] at hW; exact .inr ⟨[A2], 1#64, hW.symm, rfl, by simp, by simp [hi2]⟩
    | true => rw [hm] at hW; left; rw [← hW]; rfl
  | false =>
  rw [hf2, cond_false] at hW
  unfold wk1 at hW
  generalize wkAt (P2 >>> 10) va 21 = A1 at hW
  cases hi1 : wkIn n A1 with
  | false => rw [hi1] at hW; exact .inr ⟨[A2], 2#64, hW.symm, rfl, by simp, by simp [hi2]⟩
  | true =>
  rw [hi1, cond_true] at hW
  generalize wkRd n d A1 = P1 at hW
  cases hr1 : v_pte_Right P1 1#64 with
  | false => rw [hr1] at hW; exact .inr ⟨[A2] ++ [A1], 1#64, hW.symm, rfl, by simp, by simp [hi2, hi1]⟩
  | true =>
  rw [hr1, cond_true] at hW
  cases hf1 : v_pte_Leaf P1 with
  | true =>
    rw [hf1, cond_true] at hW
    unfold wkLeaf at hW
    cases hm : v_pte_May P1 kind priv mst with
    | false => rw [hm] at hW; exact .inr ⟨[A2] ++ [A1], 1#64, hW.symm, rfl, by simp, by simp [hi2, hi1]⟩
    | true => rw [hm] at hW; left; rw [← hW]; rfl
  | false =>
  rw [hf1, cond_false] at hW
  unfold wk0 at hW
  generalize wkAt (P1 >>> 10) va 12 = A0 at hW
  cases hi0 : wkIn n A0 with
  | false => rw [hi0] at hW; exact .inr ⟨[A2] ++ [A1], 2#64, hW.symm, rfl, by simp, by simp [hi2, hi1]⟩
  | true =>
  rw [hi0, cond_true] at hW
  generalize wkRd n d A0 = P0 at hW
  cases hr0 : v_pte_Right P0 0#64 with
  | false => rw [hr0] at hW; exact .inr ⟨[A2] ++ [A1] ++ [A0], 1#64, hW.symm, rfl, by simp, by simp [hi2, hi1, hi0]⟩
  | true =>
  rw [hr0, cond_true] at hW
  cases hf0 : v_pte_Leaf P0 with
  | true =>
    rw [hf0, cond_true] at hW
    unfold wkLeaf at hW
    cases hm : v_pte_May P0 kind priv mst with
    | false => rw [hm] at hW; exact .inr ⟨[A2] ++ [A1] ++ [A0], 1#64, hW.symm, rfl, by simp, by simp [hi2, hi1, hi0]⟩
    | true => rw [hm] at hW; left; rw [← hW]; rfl
  | false => rw [hf0] at hW; exact .inr ⟨[A2] ++ [A1] ++ [A0], 1#64, hW.symm, rfl, by simp, by simp [hi2, hi1, hi0]⟩
/-! ### what is told -/
theorem wa_row {n : Nat} {va a : BitVec 64} (h : wkIn n a = true) : waRow n va (wkRow va a) = true := by
  unfold wkIn at h
  unfold waRow wkRow
  simp only [List.headD_cons, List.tail_cons, asI64_mk, asU64_mk, beq_self_eq_true, Bool.true_and]
  exact h
theorem wa_ok {n : Nat} {va : BitVec 64} {W : Wk} (hA : ∀ a ∈ v_wkL W, wkIn n a = true) (hl : v_wkN W < 2 ^ 63) : g_wa n va (v_wkN W) (v_wkN W) (v_wkG va W) 0#64 = true := by
  unfold g_wa
  rw [show Nat.ble (v_wkN W) (v_wkN W) = true from Nat.ble_eq_true_of_le (Nat.le_refl _), show Nat.blt (v_wkN W) 9223372036854775808 = true from Nat.ble_eq_true_of_le hl, Bool.true_and, Bool.true_and, Bool.and_eq_true]
  refine ⟨?_, rfl⟩
  rw [List.all_eq_true]
  intro j hj
  rw [List.mem_range] at hj
  unfold v_wkN at hj
  unfold v_wkG
  rw [List.getD_eq_getElem?_getD, List.getElem?_map, List.getElem?_eq_getElem hj]
  exact wa_row (hA _ (List.getElem_mem hj))
theorem chg_ok {n : Nat} {tg d tg2 d2 : List (List AV)} (h : Rok n tg d) (h2 : Rok n tg2 d2) : g_chg n tg n d n tg2 n d2 0#64 0#64 = true := by
  unfold g_chg
  rw [h.ram, h2.ram, h.lg]; rfl
/-! ### what has changed -/
theorem chgN_none {n : Nat} {d : List (List AV)} {nz : Nat} {dz : List (List AV)} (h : ∀ j, j < 1536 → chgD n d nz dz j = false) : ∀ f j, j + f ≤ 1536 → chgN n d nz dz j f = 0
  | 0, j, _ => rfl
  | f + 1, j, hj => by rw [chgN_succ, h j (by omega), chgN_none h f (j + 1) (by omega)]; simp
theorem chgN_one {n : Nat} {d : List (List AV)} {nz : Nat} {dz : List (List AV)} {q : Nat} (h : ∀ j, j < 1536 → chgD n d nz dz j = decide (j = q)) : ∀ f j, j + f ≤ 1536 → chgN n d nz dz j f = if j ≤ q ∧ q < j + f then 1 else 0
  | 0, j, _ => by rw [if_neg (by omega)]; rfl
  | f + 1, j, hj => by
    rw [chgN_succ, h j (by omega), chgN_one h f (j + 1) (by omega)]
    by_cases e : j = q
    · subst e; rw [decide_eq_true rfl, if_pos rfl, if_neg (by omega), if_pos (by omega)]
    · rw [decide_eq_false e, if_neg (by simp)]
      by_cases q1 : j + 1 ≤ q ∧ q < j + 1 + f
      · rw [if_pos q1, if_pos (by omega)]
      · rw [if_neg q1, if_neg (by omega)]
theorem chg_same (d : List (List AV)) : v_chg 12288 d 12288 d = 0#64 := by
  unfold v_chg
  rw [chgN_none (fun j _ => by unfold chgD; rw [beq_self_eq_true]; rfl) 1536 0 (by decide)]
theorem chg_wk {tg d : List (List AV)} (hR : Rok 12288 tg d) {kind : BitVec 64} {W : Wk} (ha : wkIn 12288 W.at_ = true) (ha8 : W.at_.toNat % 8 = 0) (hp : W.pte = v_pte_Mark (wkRd 12288 d W.at_) kind) (hw : W.wr = !(v_pte_Mark (wkRd 12288 d W.at_) kind == wkRd 12288 d W.at_)) :
    v_chg 12288 (v_wkD 12288 d W) 12288 d = if W.wr then 1#64 else 0#64 := by
  unfold v_wkD
  cases hq : W.wr with
  | false => simp only [cond_false]; rw [chg_same]; rfl
  | true =>
    obtain ⟨a1, a2, a3⟩ := wkIn_nat hR.hi ha
    rw [hq] at hw
    have hne : v_pte_Mark (wkRd 12288 d W.at_) kind ≠ wkRd 12288 d W.at_ := by
      intro e; rw [e, beq_self_eq_true] at hw; cases hw
    simp only [cond_true, if_true]
    have key : ∀ j, j < 1536 → chgD 12288 (v_sD 12288 d (W.at_ - 2147483648#64) 8#64 W.pte) 12288 d j = decide (j = (W.at_ - 2147483648#64).toNat / 8) := by
      intro j hj
      have hN : (BitVec.ofNat 64 (8 * j)).toNat = 8 * j := ofNat_toNat (by omega)
      unfold chgD
      rw [rd_st hR a3 (by omega) (by omega) (by omega)]
      by_cases e : j = (W.at_ - 2147483648#64).toNat / 8
      · have e2 : BitVec.ofNat 64 (8 * j) = W.at_ - 2147483648#64 := by apply BitVec.eq_of_toNat_eq; rw [hN]; omega
        rw [if_pos e2, decide_eq_true e, Bool.not_eq_true', beq_eq_false_iff_ne, e2, hp]
        exact fun h => hne h.symm
      · have e2 : BitVec.ofNat 64 (8 * j) ≠ W.at_ - 2147483648#64 := by
          intro h; apply e; have := congrArg BitVec.toNat h; rw [hN] at this; omega
        rw [if_neg e2, decide_eq_false e, beq_self_eq_true]; rfl
    unfold v_chg
    rw [chgN_one key 1536 0 (by decide), if_pos (by omega)]
end Go.Sx

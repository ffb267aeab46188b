/- The document's walk is the program's. -/
import Derived.Test.YtkbcfbehebbmhaaGreatVl21i
import Derived.Test.YtkbcfbehebbmhaaGreatPlPteC
import Derived.Test.YtkbcfbehebbmhaaGreatPlWkH
import Derived.Test.YtkbcfbehebbmhaaGreatPlWkS
set_option linter.unusedSimpArgs false
set_option linter.unusedVariables false
set_option linter.unnecessarySimpa false
namespace Go.Sx
open Go
theorem canon_eq (va : BitVec 64) : (!v_r21_Canonical va) = wkBad va := by
  cases hb : wkBad va with
  | false =>
    unfold v_r21_Canonical
    rcases up_high hb with h | h
    · rw [Bool.not_eq_false'] at h; rw [h]; rfl
    · rw [Bool.not_eq_false'] at h; rw [h]; cases (va >>> 38 == 0#64) <;> rfl
  | true =>
    cases hc : v_r21_Canonical va with
    | false => rfl
    | true =>
      exfalso
      have hlt := va.isLt
      have : wkBad va = false := by
        apply wk_good_of
        unfold v_r21_Canonical at hc
        cases h0 : (va >>> 38 == 0#64) with
        | true =>
          left
          rw [beq_iff_eq] at h0
          have := congrArg BitVec.toNat h0
          rw [BitVec.toNat_ushiftRight, Nat.shiftRight_eq_div_pow, show (0#64).toNat = 0 from rfl] at this
          omega
        | false =>
          right
          rw [h0, cond_false, beq_iff_eq] at hc
          have := congrArg BitVec.toNat hc
          rw [BitVec.toNat_ushiftRight, Nat.shiftRight_eq_div_pow, show (67108863#64).toNat = 67108863 from rfl] at this
          omega
      rw [this] at hb; cases hb
theorem xAt_eq (t va : BitVec 64) (s : Nat) : t % 17592186044416#64 * 4096#64 + va >>> s % 512#64 * 8#64 = wkAt t va s := by
  apply BitVec.eq_of_toNat_eq
  rw [wkAt_nat, BitVec.toNat_add, BitVec.toNat_mul, BitVec.toNat_mul, BitVec.toNat_umod, BitVec.toNat_umod, BitVec.toNat_ushiftRight, Nat.shiftRight_eq_div_pow, show (17592186044416#64).toNat = 2 ^ 44 from rfl, show (4096#64).toNat = 4096 from rfl, show (512#64).toNat = 512 from rfl, show (8#64).toNat = 8 from rfl]
  have := Nat.mod_lt t.toNat (show 0 < 2 ^ 44 by decide)
  have := Nat.mod_lt (va.toNat / 2 ^ s) (show 0 < 512 by decide)
  generalize t.toNat % 2 ^ 44 = x at *
  generalize va.toNat / 2 ^ s % 512 = y at *
  omega
theorem page_sh (va : BitVec 64) (s : Nat) (m : BitVec 64) (hm : ∀ i : Fin 64, m.getLsbD i.val = decide (s ≤ i.val)) : va >>> 12 >>> s <<< s = va >>> 12 &&& m := by
  apply BitVec.eq_of_toNat_eq
  rw [mask_bits m s hm, BitVec.toNat_shiftLeft, BitVec.toNat_ushiftRight, Nat.shiftLeft_eq, Nat.shiftRight_eq_div_pow]
  have h1 : (va >>> 12).toNat / 2 ^ s * 2 ^ s ≤ (va >>> 12).toNat := Nat.div_mul_le_self _ _
  exact Nat.mod_eq_of_lt (by have := (va >>> 12).isLt; omega)
theorem bsnd (n : Nat) (a : BitVec 64) : (v_r15_behind a 8#64 2147483648#64 (BitVec.signExtend 64 (BitVec.ofNat 64 n))).snd = wkIn n a := by
  rw [behind_eq]; unfold wkIn
  cases v_reg 2147483648#64 (BitVec.signExtend 64 (BitVec.ofNat 64 n)) a 8#64 <;> rfl
theorem bfst {n : Nat} {a : BitVec 64} (h : wkIn n a = true) : (v_r15_behind a 8#64 2147483648#64 (BitVec.signExtend 64 (BitVec.ofNat 64 n))).fst = a - 2147483648#64 := by
  rw [behind_eq]; unfold wkIn at h; rw [h]; rfl
theorem xRd_eq {n : Nat} {d : List (List AV)} {a : BitVec 64} : v_xlV n d (a - 2147483648#64) 8#64 = wkRd n d a := by
  rw [← lV_eq]; rfl
def v_wkX (n : Nat) (T : List (List AV)) (W : Wk) : List (List AV) := cond W.wr (v_xsT n T (W.at_ - 2147483648#64) 8#64) T
noncomputable def mwxOut (n t m : Nat) (d : List (List AV)) (mt : Nat) (T : List (List AV)) (b0 b4 b5 b6 b7 : Blk) (va : BitVec 64) (W : Wk) : MwxR :=
  cond (v_wkE W) (.z n t m d mt T b0 b4 b5 b6 b7 0#64 0#64 0#64 0#64 W.why)
    (.s n t m (v_wkD n d W) mt (v_wkX n T W) b0 b4 b5 b6 b7 W.asid W.lev W.page W.pte W.why (v_wkN W) (v_wkN W) (v_wkG va W))
theorem mwx_step (n t m : Nat) (d : List (List AV)) (mt : Nat) (T : List (List AV)) (a0 a1 : BitVec 64) (a2 : Bool) (xl xt : List (List AV)) (xe : Bool) (xo : BitVec 64) (xw : Bool) (satp va kind priv mst : BitVec 64) (hg : g_xram n t m d mt T = true) :
    mwxStep (.a n t m d mt T a0 a1 a2 xl xt xe xo xw satp va kind priv mst) = some (mwxOut n t m d mt T xbus0 (xClint a0 a1 a2) (xPlic xl xt) (xUart xe xo) (xPow xw) va (v_wk n d satp va kind priv mst)) := by
  unfold mwxStep
  dsimp only
  simp only [hg, cond_true, canon_eq, xAt_eq, bsnd, leaf_eq, may_eq, mark_eq, ← asid_eq, page_sh va 18 18446744073709289472#64 (by decide), page_sh va 9 18446744073709551104#64 (by decide), page_sh va 0 18446744073709551615#64 (by decide)]
  unfold v_wk
  cases wkBad va with
  | true => rfl
  | false =>
  rw [cond_false, cond_false]
  unfold wk2
  generalize wkAt satp va 30 = A2
  cases hi2 : wkIn n A2 with
  | false => rfl
  | true =>
  simp only [Bool.not_true, Bool.not_false, cond_true, cond_false, bfst hi2, xRd_eq]
  generalize wkRd n d A2 = P2
  cases v_pte_Right P2 2#64 with
  | false => rfl
  | true =>
  simp only [Bool.not_true, Bool.not_false, cond_true, cond_false]
  cases v_pte_Leaf P2 with
  | true =>
    simp only [cond_true, wkLeaf, Bool.not_true, cond_false]
    cases v_pte_May P2 kind priv mst with
    | false => rfl
    | true =>
      cases hq : (v_pte_Mark P2 kind == P2) <;> simp only [hq, Bool.not_true, Bool.not_false, cond_true, cond_false] <;> rfl
  | false =>
  simp only [cond_false, Bool.not_false, cond_true]
  unfold wk1
  generalize wkAt (P2 >>> 10) va 21 = A1
  cases hi1 : wkIn n A1 with
  | false => rfl
  | true =>
  simp only [Bool.not_true, Bool.not_false, cond_true, cond_false, bfst hi1, xRd_eq]
  generalize wkRd n d A1 = P1
  cases v_pte_Right P1 1#64 with
  | false => rfl
  | true =>
  simp only [Bool.not_true, Bool.not_false, cond_true, cond_false]
  cases v_pte_Leaf P1 with
  | true =>
    simp only [cond_true, wkLeaf, Bool.not_true, cond_false]
    cases v_pte_May P1 kind priv mst with
    | false => rfl
    | true =>
      cases hq : (v_pte_Mark P1 kind == P1) <;> simp only [hq, Bool.not_true, Bool.not_false, cond_true, cond_false] <;> rfl
  | false =>
  simp only [cond_false, Bool.not_false, cond_true]
  unfold wk0
  generalize wkAt (P1 >>> 10) va 12 = A0
  cases hi0 : wkIn n A0 with
  | false => rfl
  | true =>
  simp only [Bool.not_true, Bool.not_false, cond_true, cond_false, bfst hi0, xRd_eq]
  generalize wkRd n d A0 = P0
  cases v_pte_Right P0 0#64 with
  | false => rfl
  | true =>
  simp only [Bool.not_true, Bool.not_false, cond_true, cond_false]
  cases v_pte_Leaf P0 with
  | true =>
    simp only [cond_true, wkLeaf, Bool.not_true, cond_false]
    cases v_pte_May P0 kind priv mst with
    | false => rfl
    | true =>
      cases hq : (v_pte_Mark P0 kind == P0) <;> simp only [hq, Bool.not_true, Bool.not_false, cond_true, cond_false] <;> rfl
  | false => rfl
def g_xrw (n t m : Nat) (d : List (List AV)) (mt : Nat) (T : List (List AV)) : Bool := Nat.beq T.length t && g_xram n t m d mt T
noncomputable def mwxCps : ECps MwxS MwxR := fun R x K => match x with
  | .a n t m d mt T a0 a1 a2 xl xt xe xo xw satp va kind priv mst =>
    cond (g_xrw n t m d mt T) (cond (v_wkE (v_wk n d satp va kind priv mst))
      (K (.z n t m d mt T xbus0 (xClint a0 a1 a2) (xPlic xl xt) (xUart xe xo) (xPow xw) 0#64 0#64 0#64 0#64 (v_wk n d satp va kind priv mst).why))
      (K (.s n t m (v_wkD n d (v_wk n d satp va kind priv mst)) mt (v_wkX n T (v_wk n d satp va kind priv mst)) xbus0 (xClint a0 a1 a2) (xPlic xl xt) (xUart xe xo) (xPow xw) (v_wk n d satp va kind priv mst).asid (v_wk n d satp va kind priv mst).lev (v_wk n d satp va kind priv mst).page (v_wk n d satp va kind priv mst).pte (v_wk n d satp va kind priv mst).why (v_wkN (v_wk n d satp va kind priv mst)) (v_wkN (v_wk n d satp va kind priv mst)) (v_wkG va (v_wk n d satp va kind priv mst))))) none
theorem mwxCps_ok : ECok mwxStep mwxCps := by
  intro R x K r h
  cases x with
  | a n t m d mt T a0 a1 a2 xl xt xe xo xw satp va kind priv mst =>
    obtain ⟨hg, h⟩ := condK h
    have hg : g_xram n t m d mt T = true := by unfold g_xrw at hg; rw [Bool.and_eq_true] at hg; exact hg.2
    refine ⟨_, mwx_step n t m d mt T a0 a1 a2 xl xt xe xo xw satp va kind priv mst hg, ?_⟩
    unfold mwxOut
    cases hE : v_wkE (v_wk n d satp va kind priv mst) with
    | true => rw [hE] at h; exact h
    | false => rw [hE] at h; exact h
end Go.Sx

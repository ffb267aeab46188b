/- WalkAgain: the law. -/
import Derived.Test.YtkbcfbehebbmhaaVm21g
import Derived.Test.YtkbcfbehebbmhaaPlWkQ0
set_option linter.unusedSimpArgs false
set_option linter.unusedVariables false
set_option linter.unnecessarySimpa false
namespace Go.Sx
open Go
theorem sleN {k : Nat} (h : k ≤ 3) : (BitVec.ofNat 64 k).sle 3#64 = true := by
  rw [sle_nat (by rw [ofNat_toNat (n := k) (by omega)]; omega) (by decide), ofNat_toNat (n := k) (by omega)]
  exact decide_eq_true h
theorem sltN3 {k : Nat} (h : k ≤ 3) : (3#64).slt (BitVec.ofNat 64 k) = false := by
  rw [slt_nat (by decide) (by rw [ofNat_toNat (n := k) (by omega)]; omega), ofNat_toNat (n := k) (by omega)]
  exact decide_eq_false (by show ¬ 3 < k; omega)
theorem sltN4 {k : Nat} (h : k ≤ 4) : (4#64).slt (BitVec.ofNat 64 k) = false := by
  rw [slt_nat (by decide) (by rw [ofNat_toNat (n := k) (by omega)]; omega), ofNat_toNat (n := k) (by omega)]
  exact decide_eq_false (by show ¬ 4 < k; omega)
/-- What the law asks of a walk that found something, and of the next one. -/
structure WkQ (tg d : List (List AV)) (satp va kind priv mst : BitVec 64) (W : Wk) : Prop where
  e : v_wkE W = false
  why : (W.why == 0#64) = true
  n4 : (4#64).slt (BitVec.ofNat 64 (v_wkN W)) = false
  wa : g_wa 12288 va (v_wkN W) (v_wkN W) (v_wkG va W) 0#64 = true
  cg : g_chg 12288 (v_wkT 12288 tg W) 12288 (v_wkD 12288 d W) 12288 tg 12288 d 0#64 0#64 = true
  c1 : (1#64).slt (v_chg 12288 (v_wkD 12288 d W) 12288 d) = false
  rm : g_rmw 12288 (v_wkT 12288 tg W) 12288 (v_wkD 12288 d W) = true
  ag : v_wk 12288 (v_wkD 12288 d W) satp va kind priv mst = { W with wr := false }
  len : (BitVec.ofNat 64 (v_wkN { W with wr := false }) == BitVec.ofNat 64 (v_wkN W) - v_chg 12288 (v_wkD 12288 d W) 12288 d) = true
  le : (BitVec.ofNat 64 (v_wkN { W with wr := false })).sle 3#64 = true
theorem wkq_of {tg d : List (List AV)} (hR : Rok 12288 tg d) {satp va kind priv mst : BitVec 64} {W : Wk} (hW : v_wk 12288 d satp va kind priv mst = W) (h0 : W.why = 0#64) : WkQ tg d satp va kind priv mst W := by
  obtain ⟨h1, h2, h3, h4, h5, h6⟩ := wk_again hR hW h0 (va' := va) rfl
  obtain ⟨i1, i2⟩ := h3 _ h4
  have hc := chg_wk hR i1 i2 h5 h6
  have hl3 : W.A.length ≤ 3 := by omega
  have hE : v_wkE W = false := by
    unfold v_wkE
    cases hA : W.A with
    | nil => rw [hA] at h4; simp at h4
    | cons => rfl
  have hL : v_wkN W = W.A.length + (if W.wr then 1 else 0) := by
    unfold v_wkN v_wkL
    cases W.wr <;> simp
  have hL4 : v_wkN W ≤ 4 := by rw [hL]; split <;> omega
  have hin : ∀ a ∈ v_wkL W, wkIn 12288 a = true := by
    intro a ha
    unfold v_wkL at ha
    cases hw : W.wr with
    | false => rw [hw] at ha; exact (h3 a ha).1
    | true =>
      rw [hw, cond_true, List.mem_append, List.mem_singleton] at ha
      rcases ha with ha | ha
      · exact (h3 a ha).1
      · rw [ha]; exact i1
  refine { e := hE, why := by rw [h0]; rfl, n4 := sltN4 hL4, wa := wa_ok hin (by omega), cg := chg_ok (rok_wk2 hR W) hR, c1 := ?_, rm := rmw_ok2 (rok_wk2 hR W), ag := h1, len := ?_, le := sleN hl3 }
  · rw [hc]; split <;> decide
  · show (BitVec.ofNat 64 W.A.length == _) = true
    rw [hc, hL, beq_iff_eq]
    split
    · rw [BitVec.ofNat_add]
      exact (BitVec.add_sub_cancel _ _).symm
    · rw [Nat.add_zero]; exact (BitVec.sub_zero _).symm
theorem again_found {tg d : List (List AV)} {satp va kind priv mst : BitVec 64} {W : Wk} (q : WkQ tg d satp va kind priv mst W) :
    v_wkE { W with wr := false } = false ∧ (!W.why == 0#64) = false := ⟨q.e, by rw [q.why]; rfl⟩
/-- What it asks of one that found nothing. -/
structure WkN0 (tg d : List (List AV)) (va : BitVec 64) (A : List (BitVec 64)) (w : BitVec 64) : Prop where
  why : (!(wkNo A w).why == 0#64) = true
  n4 : (4#64).slt (BitVec.ofNat 64 (v_wkN (wkNo A w))) = false
  n3 : (3#64).slt (BitVec.ofNat 64 (v_wkN (wkNo A w))) = false
  wa : g_wa 12288 va (v_wkN (wkNo A w)) (v_wkN (wkNo A w)) (v_wkG va (wkNo A w)) 0#64 = true
  cg : g_chg 12288 tg 12288 d 12288 tg 12288 d 0#64 0#64 = true
  rm : g_rmw 12288 tg 12288 d = true
  le : (BitVec.ofNat 64 (v_wkN (wkNo A w))).sle 3#64 = true
theorem wkn_of {tg d : List (List AV)} (hR : Rok 12288 tg d) {va : BitVec 64} {A : List (BitVec 64)} {w : BitVec 64} (hw : (w == 0#64) = false) (hl : A.length ≤ 3) (hA : ∀ a ∈ A, wkIn 12288 a = true) : WkN0 tg d va A w := by
  have hL : v_wkN (wkNo A w) = A.length := rfl
  refine { why := by show (!w == 0#64) = true; rw [hw]; rfl, n4 := sltN4 (by omega), n3 := sltN3 (by omega), wa := wa_ok hA (by omega), cg := chg_ok hR hR, rm := rmw_ok2 hR, le := sleN (by omega) }
theorem walkAgain_r (k : Nat) (ws : List (List AV)) (a_0 a_1 a_2 a_3 a_4 : BitVec 64) (hl : ws.length = k) (hf : fitsAll [.int .i64, .int .u64] ws = true) (hk : k < 2 ^ 63) : t_WalkAgain_r k ws a_0 a_1 a_2 a_3 a_4 = some (.bool true) := by
  unfold t_WalkAgain_r
  obtain ⟨h1, h2⟩ := priv_ok2 a_4
  have hr : Rok 12288 (v_lyT 12288 v_zT (v_lyR k ws 0)) (v_lyD 12288 v_zB (v_lyR k ws 0)) := rok_ly _ _ _ rok_new
  rw [h1, h2, lz_ok2 hk, cond_true, cond_true, cond_true, cond_true]
  generalize asI64 (([[AV.int IntKind.i64 0#64], [AV.int IntKind.i64 1#64]].getD (0 + (v_kit_Pick a_4 2#64).toNat) []).headD AV.any) = priv
  generalize (1#64 + v_kit_Pick a_3 3#64) = kind
  generalize v_lyD 12288 v_zB (v_lyR k ws 0) = d at hr ⊢
  generalize v_lyT 12288 v_zT (v_lyR k ws 0) = tg at hr ⊢
  have hrm := rmw_ok2 hr
  generalize hW : v_wk 12288 d a_0 a_1 kind priv a_2 = W
  rcases wk_no hW with h0 | ⟨A, w, rfl, hw, hl3, hA⟩
  · have q := wkq_of hr hW h0
    obtain ⟨e1, e2⟩ := again_found q
    simp only [hrm, q.e, e2, q.n4, q.wa, q.cg, q.c1, q.rm, q.ag, e1, q.len, q.le, cond_true, cond_false, beq_self_eq_true, Bool.and_self]
  · have q := wkn_of hr (va := a_1) hw hl3 hA
    have e1 : v_wkD 12288 d (wkNo A w) = d := rfl
    have e2 : v_wkT 12288 tg (wkNo A w) = tg := rfl
    have e3 : (wkNo A w).asid = 0#64 := rfl
    have e4 : (wkNo A w).lev = 0#64 := rfl
    have e5 : (wkNo A w).page = 0#64 := rfl
    have e6 : (wkNo A w).pte = 0#64 := rfl
    have e7 : (1#64).slt 0#64 = false := by decide
    have e8 : (0#64).slt 0#64 = false := by decide
    cases hE : v_wkE (wkNo A w) with
    | true => simp only [hE, hrm, q.why, q.cg, chg_same, e7, e8, cond_true, cond_false, beq_self_eq_true, BitVec.sub_zero]
    | false => simp only [hE, hrm, e1, e2, e3, e4, e5, e6, hW, q.why, q.n4, q.n3, q.wa, q.cg, q.le, chg_same, e7, e8, cond_true, cond_false, beq_self_eq_true, BitVec.sub_zero, Bool.and_self, Bool.not_true, Bool.not_false]
theorem walkAgain_n (a_0 a_1 a_2 a_3 a_4 : BitVec 64) : t_WalkAgain_n a_0 a_1 a_2 a_3 a_4 = some (.bool true) := by
  unfold t_WalkAgain_n
  obtain ⟨h1, h2⟩ := priv_ok2 a_4
  have hr : Rok 12288 v_zT v_zB := rok_new
  rw [h1, h2, cond_true, cond_true]
  generalize asI64 (([[AV.int IntKind.i64 0#64], [AV.int IntKind.i64 1#64]].getD (0 + (v_kit_Pick a_4 2#64).toNat) []).headD AV.any) = priv
  generalize (1#64 + v_kit_Pick a_3 3#64) = kind
  generalize v_zB = d at hr ⊢
  generalize v_zT = tg at hr ⊢
  have hrm := rmw_ok2 hr
  generalize hW : v_wk 12288 d a_0 a_1 kind priv a_2 = W
  rcases wk_no hW with h0 | ⟨A, w, rfl, hw, hl3, hA⟩
  · have q := wkq_of hr hW h0
    obtain ⟨e1, e2⟩ := again_found q
    simp only [hrm, q.e, e2, q.n4, q.wa, q.cg, q.c1, q.rm, q.ag, e1, q.len, q.le, cond_true, cond_false, beq_self_eq_true, Bool.and_self]
  · have q := wkn_of hr (va := a_1) hw hl3 hA
    have e1 : v_wkD 12288 d (wkNo A w) = d := rfl
    have e2 : v_wkT 12288 tg (wkNo A w) = tg := rfl
    have e3 : (wkNo A w).asid = 0#64 := rfl
    have e4 : (wkNo A w).lev = 0#64 := rfl
    have e5 : (wkNo A w).page = 0#64 := rfl
    have e6 : (wkNo A w).pte = 0#64 := rfl
    have e7 : (1#64).slt 0#64 = false := by decide
    have e8 : (0#64).slt 0#64 = false := by decide
    cases hE : v_wkE (wkNo A w) with
    | true => simp only [hE, hrm, q.why, q.cg, chg_same, e7, e8, cond_true, cond_false, beq_self_eq_true, BitVec.sub_zero]
    | false => simp only [hE, hrm, e1, e2, e3, e4, e5, e6, hW, q.why, q.n4, q.n3, q.wa, q.cg, q.le, chg_same, e7, e8, cond_true, cond_false, beq_self_eq_true, BitVec.sub_zero, Bool.and_self, Bool.not_true, Bool.not_false]
end Go.Sx

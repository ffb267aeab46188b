/- WalkPages: the law. -/
import Derived.Test.YtkbcfbehebbmhaaVm21p
import Derived.Test.YtkbcfbehebbmhaaPlWkH
import Derived.Test.YtkbcfbehebbmhaaPlWkK2
set_option linter.unusedSimpArgs false
set_option linter.unusedVariables false
set_option linter.unnecessarySimpa false
namespace Go.Sx
open Go
theorem page_va {va x lev : BitVec 64} (hl : lev = 0#64 ∨ lev = 1#64 ∨ lev = 2#64) : ((va >>> 12 &&& wkM lev) <<< 12 + x % 4096#64 <<< min (BitVec.signExtend 64 (9#64 * lev)).toNat 64).toNat / 2 ^ (12 + wkS lev) = va.toNat / 2 ^ (12 + wkS lev) := by
  obtain ⟨p1, p2⟩ := wk_pow hl
  have hb := wk_base hl va
  have hpos : 0 < 2 ^ (12 + wkS lev) := Nat.pow_pos (by decide)
  rw [BitVec.toNat_add, hb, BitVec.toNat_umod, p1]
  have h1 := Nat.mod_lt x.toNat hpos
  have hdiv : 2 ^ 64 = 2 ^ (64 - (12 + wkS lev)) * 2 ^ (12 + wkS lev) := by
    have : 12 + wkS lev ≤ 64 := by rcases hl with rfl | rfl | rfl <;> decide
    rw [← Nat.pow_add, Nat.sub_add_cancel this]
  have hlt : va.toNat / 2 ^ (12 + wkS lev) < 2 ^ (64 - (12 + wkS lev)) := by
    rw [Nat.div_lt_iff_lt_mul hpos, ← hdiv]; exact va.isLt
  have hsum : va.toNat / 2 ^ (12 + wkS lev) * 2 ^ (12 + wkS lev) + x.toNat % 2 ^ (12 + wkS lev) < 2 ^ 64 := by
    rw [hdiv]
    have : (va.toNat / 2 ^ (12 + wkS lev) + 1) * 2 ^ (12 + wkS lev) ≤ 2 ^ (64 - (12 + wkS lev)) * 2 ^ (12 + wkS lev) := Nat.mul_le_mul_right _ hlt
    rw [Nat.add_mul, Nat.one_mul] at this
    omega
  rw [Nat.mod_eq_of_lt hsum, Nat.mul_comm, Nat.mul_add_div hpos, Nat.div_eq_of_lt h1, Nat.add_zero]
theorem rok_wk {n : Nat} {tg d : List (List AV)} (h : Rok n tg d) (W : Wk) : Rok n (v_wkT n tg W) (v_wkD n d W) := by
  unfold v_wkT v_wkD
  cases W.wr with
  | true => exact h.store _ _ _
  | false => exact h
/-- What pages ask, behind what they find. -/
theorem pages_tail {n : Nat} {tg d : List (List AV)} (hR : Rok n tg d) {satp va kind priv mst x : BitVec 64} {W : Wk} (hW : v_wk n d satp va kind priv mst = W) {p : BitVec 64} (hF : WkF satp va kind priv mst W p) :
    v_wk n (v_wkD n d W) satp (W.page <<< 12 + x % 4096#64 <<< min (BitVec.signExtend 64 (9#64 * W.lev)).toNat 64) kind priv mst = { W with wr := false } ∧ (BitVec.ofNat 64 (v_wkN { W with wr := false }) == 3#64 - W.lev) = true := by
  obtain ⟨h1, h2, _⟩ := wk_again hR hW hF.zero (va' := W.page <<< 12 + x % 4096#64 <<< min (BitVec.signExtend 64 (9#64 * W.lev)).toNat 64) (by rw [hF.page]; exact page_va hF.lev)
  refine ⟨h1, ?_⟩
  show (BitVec.ofNat 64 W.A.length == 3#64 - W.lev) = true
  rw [h2]
  rcases hF.lev with e | e | e <;> rw [e] <;> decide
theorem pages_nz {lev : BitVec 64} (hl : lev = 0#64 ∨ lev = 1#64 ∨ lev = 2#64) : (4096#64 <<< min (BitVec.signExtend 64 (9#64 * lev)).toNat 64 == 0#64) = false := by
  rcases hl with rfl | rfl | rfl <;> decide
theorem walkPages_r (k : Nat) (ws : List (List AV)) (a_0 a_1 a_2 a_3 a_4 x : BitVec 64) (hl : ws.length = k) (hf : fitsAll [.int .i64, .int .u64] ws = true) (hk : k < 2 ^ 63) : t_WalkPages_r k ws a_0 a_1 a_2 a_3 a_4 x = some (.bool true) := by
  unfold t_WalkPages_r
  obtain ⟨h1, h2⟩ := priv_ok a_4
  have hr : Rok 12288 (v_lyT 12288 v_zT (v_lyR k ws 0)) (v_lyD 12288 v_zB (v_lyR k ws 0)) := rok_ly _ _ _ rok_zero
  rw [h1, h2, lz_ok hk, rmw_ok hr, cond_true, cond_true, cond_true, cond_true]
  generalize asI64 (([[AV.int IntKind.i64 0#64], [AV.int IntKind.i64 1#64]].getD (0 + (v_kit_Pick a_4 2#64).toNat) []).headD AV.any) = priv
  generalize (1#64 + v_kit_Pick a_3 3#64) = kind
  generalize v_lyD 12288 v_zB (v_lyR k ws 0) = d at hr ⊢
  generalize v_lyT 12288 v_zT (v_lyR k ws 0) = tg at hr ⊢
  have hc := wk_cases 12288 d a_0 a_1 kind priv a_2
  generalize hW : v_wk 12288 d a_0 a_1 kind priv a_2 = W at hc ⊢
  rcases hc with ⟨A, rfl⟩ | ⟨A, rfl⟩ | ⟨p, hF⟩
  · cases v_wkE (wkNo A 1#64) <;> rfl
  · cases v_wkE (wkNo A 2#64) <;> rfl
  · have g := wk_good hF
    have h0 : (!W.why == 0#64) = false := by rw [g.why]; rfl
    obtain ⟨t1, t2⟩ := pages_tail hr (x := x) hW hF
    have h3 : (W.why == 0#64) = true := by rw [g.why]; rfl
    simp only [g.e, h0, g.l1, g.l2, pages_nz hF.lev, rmw_ok (rok_wk hr W), cond_true, cond_false]
    rw [t1, t2]
    have e1 : v_wkE { W with wr := false } = false := g.e
    simp only [e1, h3, cond_true, cond_false, beq_self_eq_true, Bool.and_self]
theorem walkPages_n (a_0 a_1 a_2 a_3 a_4 x : BitVec 64) : t_WalkPages_n a_0 a_1 a_2 a_3 a_4 x = some (.bool true) := by
  unfold t_WalkPages_n
  obtain ⟨h1, h2⟩ := priv_ok a_4
  have hr : Rok 12288 v_zT v_zB := rok_zero
  rw [h1, h2, cond_true, cond_true]
  generalize asI64 (([[AV.int IntKind.i64 0#64], [AV.int IntKind.i64 1#64]].getD (0 + (v_kit_Pick a_4 2#64).toNat) []).headD AV.any) = priv
  generalize (1#64 + v_kit_Pick a_3 3#64) = kind
  have hc := wk_cases 12288 v_zB a_0 a_1 kind priv a_2
  generalize hW : v_wk 12288 v_zB a_0 a_1 kind priv a_2 = W at hc ⊢
  rcases hc with ⟨A, rfl⟩ | ⟨A, rfl⟩ | ⟨p, hF⟩
  · cases v_wkE (wkNo A 1#64) <;> rfl
  · cases v_wkE (wkNo A 2#64) <;> rfl
  · have g := wk_good hF
    have h0 : (!W.why == 0#64) = false := by rw [g.why]; rfl
    obtain ⟨t1, t2⟩ := pages_tail hr (x := x) hW hF
    have h3 : (W.why == 0#64) = true := by rw [g.why]; rfl
    simp only [g.e, h0, g.l1, g.l2, pages_nz hF.lev, rmw_ok (rok_wk hr W), cond_true, cond_false]
    rw [t1, t2]
    have e1 : v_wkE { W with wr := false } = false := g.e
    simp only [e1, h3, cond_true, cond_false, beq_self_eq_true, Bool.and_self]
end Go.Sx

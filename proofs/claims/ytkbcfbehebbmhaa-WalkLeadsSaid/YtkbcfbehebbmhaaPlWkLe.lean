/- WalkLeads: the law. -/
import Derived.Test.YtkbcfbehebbmhaaVm21l
import Derived.Test.YtkbcfbehebbmhaaPlWkK2
set_option linter.unusedSimpArgs false
set_option linter.unusedVariables false
set_option linter.unnecessarySimpa false
namespace Go.Sx
open Go
theorem walkLeads_r (k : Nat) (ws : List (List AV)) (a_0 a_1 a_2 a_3 a_4 : BitVec 64) (hl : ws.length = k) (hf : fitsAll [.int .i64, .int .u64] ws = true) (hk : k < 2 ^ 63) : t_WalkLeads_r k ws a_0 a_1 a_2 a_3 a_4 = some (.bool true) := by
  unfold t_WalkLeads_r
  obtain ⟨h1, h2⟩ := priv_ok a_4
  have hr : Rok 12288 (v_lyT 12288 v_zT (v_lyR k ws 0)) (v_lyD 12288 v_zB (v_lyR k ws 0)) := rok_ly _ _ _ rok_zero
  rw [h1, h2, lz_ok hk, rmw_ok hr, cond_true, cond_true, cond_true, cond_true]
  have hc := wk_cases 12288 (v_lyD 12288 v_zB (v_lyR k ws 0)) a_0 a_1 (1#64 + v_kit_Pick a_3 3#64) (asI64 (([[AV.int IntKind.i64 0#64], [AV.int IntKind.i64 1#64]].getD (0 + (v_kit_Pick a_4 2#64).toNat) []).headD AV.any)) a_2
  generalize v_wk 12288 (v_lyD 12288 v_zB (v_lyR k ws 0)) a_0 a_1 (1#64 + v_kit_Pick a_3 3#64) (asI64 (([[AV.int IntKind.i64 0#64], [AV.int IntKind.i64 1#64]].getD (0 + (v_kit_Pick a_4 2#64).toNat) []).headD AV.any)) a_2 = W at hc ⊢
  generalize (1#64 + v_kit_Pick a_3 3#64) = kind at hc ⊢
  rcases hc with ⟨A, rfl⟩ | ⟨A, rfl⟩ | ⟨p, hF⟩
  · cases v_wkE (wkNo A 1#64) <;> rfl
  · cases v_wkE (wkNo A 2#64) <;> rfl
  · have g := wk_good hF
    have h0 : (!W.why == 0#64) = false := by rw [g.why]; rfl
    simp only [g.e, h0, g.l1, g.l2, g.asid, g.ult, g.off, g.nz, g.md, g.b0, g.b6, g.b14, cond_true, cond_false]
    have h7 := g.b7
    rcases up_high hF.good with hu | hu
    · rw [hu]
      cases hq : (!kind == 3#64) with
      | true => rfl
      | false => rw [h7 hq]; rfl
    · rw [hu]
      cases hq : (!kind == 3#64) with
      | true => cases (!a_1 >>> 38 == 0#64) <;> rfl
      | false => rw [h7 hq]; cases (!a_1 >>> 38 == 0#64) <;> rfl
theorem walkLeads_n (a_0 a_1 a_2 a_3 a_4 : BitVec 64) : t_WalkLeads_n a_0 a_1 a_2 a_3 a_4 = some (.bool true) := by
  unfold t_WalkLeads_n
  obtain ⟨h1, h2⟩ := priv_ok a_4
  rw [h1, h2, cond_true, cond_true]
  have hc := wk_cases 12288 v_zB a_0 a_1 (1#64 + v_kit_Pick a_3 3#64) (asI64 (([[AV.int IntKind.i64 0#64], [AV.int IntKind.i64 1#64]].getD (0 + (v_kit_Pick a_4 2#64).toNat) []).headD AV.any)) a_2
  generalize v_wk 12288 v_zB a_0 a_1 (1#64 + v_kit_Pick a_3 3#64) (asI64 (([[AV.int IntKind.i64 0#64], [AV.int IntKind.i64 1#64]].getD (0 + (v_kit_Pick a_4 2#64).toNat) []).headD AV.any)) a_2 = W at hc ⊢
  generalize (1#64 + v_kit_Pick a_3 3#64) = kind at hc ⊢
  rcases hc with ⟨A, rfl⟩ | ⟨A, rfl⟩ | ⟨p, hF⟩
  · cases v_wkE (wkNo A 1#64) <;> rfl
  · cases v_wkE (wkNo A 2#64) <;> rfl
  · have g := wk_good hF
    have h0 : (!W.why == 0#64) = false := by rw [g.why]; rfl
    simp only [g.e, h0, g.l1, g.l2, g.asid, g.ult, g.off, g.nz, g.md, g.b0, g.b6, g.b14, cond_true, cond_false]
    have h7 := g.b7
    rcases up_high hF.good with hu | hu
    · rw [hu]
      cases hq : (!kind == 3#64) with
      | true => rfl
      | false => rw [h7 hq]; rfl
    · rw [hu]
      cases hq : (!kind == 3#64) with
      | true => cases (!a_1 >>> 38 == 0#64) <;> rfl
      | false => rw [h7 hq]; cases (!a_1 >>> 38 == 0#64) <;> rfl
end Go.Sx

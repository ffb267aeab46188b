/- WalkWalks: the law. -/
import Derived.Test.YtkbcfbehebbmhaaGreatVm21z
set_option linter.unusedSimpArgs false
set_option linter.unusedVariables false
set_option linter.unnecessarySimpa false
namespace Go.Sx
open Go
theorem by_ok {tg d T : List (List AV)} (h : Mem 12288 tg d 768 T) : g_by 12288 tg 12288 d 12288 768 12288 d 768 T 0#64 = true := by
  unfold g_by
  rw [h.lg, h.ram, h.xram, show Nat.beq 64 64 = true from rfl, show Nat.beq 12288 12288 = true from rfl, show Nat.beq (12288 % 8) 0 = true from rfl, beq_self_eq_true, Bool.true_and, Bool.true_and, Bool.true_and, Bool.true_and, Bool.true_and, Bool.true_and, List.all_eq_true]
  intro j _
  unfold byOk
  rw [lV_eq, beq_self_eq_true]
theorem mem_new : Mem 12288 v_zT v_zB 768 v_zX := by rw [zB_eq, zT_eq, zX_eq]; exact mem_zero
theorem lz_ok4 {k : Nat} (hk : k < 2 ^ 63) : g_lz k k = true := by
  unfold g_lz
  rw [Bool.and_eq_true]
  exact ⟨Nat.ble_eq_true_of_le (Nat.le_refl _), Nat.ble_eq_true_of_le hk⟩
theorem mem_laid (l : List (List AV)) : Mem 12288 (v_lyT 12288 v_zT l) (v_lyD 12288 v_zB l) 768 (v_lyX 12288 v_zX l) := mem_ly l _ _ _ mem_new
theorem walkWalks_rr (k : Nat) (ws : List (List AV)) (kk : Nat) (aq : List (List AV)) (hl : ws.length = k) (hf : fitsAll [.int .i64, .int .u64] ws = true) (hk : k < 2 ^ 63) (hl2 : aq.length = kk) (hf2 : fitsAll [.int .u64, .int .u64, .int .u64, .int .i64, .int .i64] aq = true) (hk2 : kk < 2 ^ 63) : t_WalkWalks_rr k ws kk aq = some (.bool true) := by
  unfold t_WalkWalks_rr
  have hm := mem_laid (v_lyR k ws 0)
  generalize v_lyT 12288 v_zT (v_lyR k ws 0) = tg at hm ⊢
  generalize v_lyD 12288 v_zB (v_lyR k ws 0) = d at hm ⊢
  generalize v_lyX 12288 v_zX (v_lyR k ws 0) = T at hm ⊢
  have hw := ww_mems (v_wwR kk aq 0) ⟨tg, d, T⟩ hm
  generalize v_ww 12288 (v_wwR kk aq 0) ⟨tg, d, T⟩ = s at hw ⊢
  rw [lz_ok4 hk, g_mww_ok hm (Nat.le_refl _) hk2, by_ok hw]; rfl
theorem walkWalks_rn (k : Nat) (ws : List (List AV)) (hl : ws.length = k) (hf : fitsAll [.int .i64, .int .u64] ws = true) (hk : k < 2 ^ 63) : t_WalkWalks_rn k ws = some (.bool true) := by
  unfold t_WalkWalks_rn
  have hm := mem_laid (v_lyR k ws 0)
  generalize v_lyT 12288 v_zT (v_lyR k ws 0) = tg at hm ⊢
  generalize v_lyD 12288 v_zB (v_lyR k ws 0) = d at hm ⊢
  generalize v_lyX 12288 v_zX (v_lyR k ws 0) = T at hm ⊢
  rw [lz_ok4 hk, by_ok hm]; rfl
theorem walkWalks_nr (kk : Nat) (aq : List (List AV)) (hl2 : aq.length = kk) (hf2 : fitsAll [.int .u64, .int .u64, .int .u64, .int .i64, .int .i64] aq = true) (hk2 : kk < 2 ^ 63) : t_WalkWalks_nr kk aq = some (.bool true) := by
  unfold t_WalkWalks_nr
  have hm := mem_new
  generalize v_zT = tg at hm ⊢
  generalize v_zB = d at hm ⊢
  generalize v_zX = T at hm ⊢
  have hw := ww_mems (v_wwR kk aq 0) ⟨tg, d, T⟩ hm
  generalize v_ww 12288 (v_wwR kk aq 0) ⟨tg, d, T⟩ = s at hw ⊢
  rw [g_mww_ok hm (Nat.le_refl _) hk2, by_ok hw]; rfl
theorem walkWalks_nn : t_WalkWalks_nn = some (.bool true) := by
  unfold t_WalkWalks_nn
  rw [by_ok mem_new]; rfl
end Go.Sx

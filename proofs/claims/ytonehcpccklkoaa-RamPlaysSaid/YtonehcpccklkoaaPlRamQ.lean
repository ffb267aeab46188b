/- RamPlays: the law. -/
import Derived.Test.YtonehcpccklkoaaVm11
set_option linter.unusedSimpArgs false
set_option linter.unusedVariables false
set_option linter.unnecessarySimpa false
namespace Go.Sx
open Go
theorem len_size {n : BitVec 64} (h1 : n.slt 4096#64 = false) (h2 : (65536#64).slt n = false) : 4096 ≤ n.toNat ∧ n.toNat ≤ 65536 := by
  have e1 : ¬ n.toInt < 4096 := by
    intro h
    have : n.slt 4096#64 = true := by rw [BitVec.slt_iff_toInt_lt]; exact h
    rw [this] at h1; exact absurd h1 (by decide)
  have e2 : ¬ 65536 < n.toInt := by
    intro h
    have : (65536#64).slt n = true := by rw [BitVec.slt_iff_toInt_lt]; exact h
    rw [this] at h2; exact absurd h2 (by decide)
  rw [BitVec.toInt_eq_toNat_cond] at e1 e2
  have := n.isLt
  split at e1 <;> omega
theorem len_facts {n : BitVec 64} (h1 : n.slt 4096#64 = false) (h2 : (65536#64).slt n = false) (h3 : (!n.srem 4096#64 == 0#64) = false) :
    4096 ≤ n.toNat ∧ n.toNat ≤ 65536 ∧ 16 * (n.sdiv 16#64).toNat = n.toNat := by
  obtain ⟨a, b⟩ := len_size h1 h2
  refine ⟨a, b, ?_⟩
  rw [Bool.not_eq_false', beq_iff_eq] at h3
  have e := congrArg BitVec.toNat h3
  rw [sremN n 4096#64 (by decide) (by omega), BitVec.toNat_umod] at e
  rw [sdivN n 16#64 (by decide) (by omega), BitVec.toNat_udiv]
  have e' : n.toNat % 4096 = 0 := e
  show 16 * (n.toNat / 16) = n.toNat
  omega
theorem room_ok {n : BitVec 64} (h : n.toNat ≤ 65536) : (nonneg IntKind.i64 n && nonneg IntKind.i64 n && decide (n.toNat = n.toNat) && decide (1 * n.toNat ≤ 140737488355328)) = true := by
  rw [nonneg_lt (by omega), decide_eq_true rfl, decide_eq_true (by omega)]; rfl
theorem plays_tail {n : Nat} {tg d : List (List AV)} {t : Nat} {T : List (List AV)} (h : Mem n tg d t T) :
    (cond (g_tag n tg n d)
 (cond (v_emp (v_tagged tg n))
 (cond (g_xd t t)
 (cond (v_emp (v_xtagged T t))
 (some (AV.bool (true)))
 (cond ((v_xtagged T t).length.blt 9223372036854775808)
 (cond ((v_xtagged T t).length.beq 0)
 (some (AV.bool (true)))
 (some (AV.bool (false))))
                none))
              none)
 (cond (g_xd t t)
 (cond (v_emp (v_xtagged T t))
 (cond ((v_tagged tg n).length.blt 9223372036854775808)
 (cond ((v_tagged tg n).length.beq 0)
 (some (AV.bool (true)))
 (some (AV.bool (false))))
                none)
 (cond (g_ss (v_tagged tg n).length (v_tagged tg n).length (v_xtagged T t).length (v_xtagged T t).length)
 (cond (v_same (v_tagged tg n) (v_xtagged T t) (v_tagged tg n).length (v_xtagged T t).length)
 (some (AV.bool (true)))
 (some (AV.bool (false))))
                none))
              none))
            none) = some (AV.bool true) := by
  have hl : (v_xtagged T t).length < 2 ^ 63 := by
    have h1 := tgs_len (cB T) t
    have h2 := h.t16
    have h3 := h.hi
    show (tgs (cB T) t).length < 2 ^ 63
    omega
  simp only [h.gtag, h.xd, h.tagged, ss_self hl, same_self, cond_true, cond_false]
  cases v_emp (v_xtagged T t) <;> rfl
theorem ramPlays_r (n : BitVec 64) (k : Nat) (d : List (List AV)) (hl : d.length = k) (hf : fitsAll [.int .i64, .int .i64, .int .i64, .bool, .int .u64, .int .u64] d = true) (hn : k < 2 ^ 63) : t_RamPlays_r n k d = some (.bool true) := by
  unfold t_RamPlays_r
  cases h1 : n.slt 4096#64 with
  | true => rfl
  | false =>
  cases h2 : (65536#64).slt n with
  | true => rfl
  | false =>
  cases h3 : (!n.srem 4096#64 == 0#64) with
  | true => rfl
  | false =>
  obtain ⟨f1, f2, f3⟩ := len_facts h1 h2 h3
  have hz := Mem.zero f1 f2 f3
  have hok : mpaOk (mpa0 k d n) := ⟨rfl, rfl, rfl, rfl, rfl, hz, Nat.le_refl _, hn, by simp⟩
  have hm := (v_mpa_ok hok).1
  have hb : g_mpb (MpbS.a n.toNat (v_mpa (mpa0 k d n)).tg n.toNat (v_mpa (mpa0 k d n)).d n.toNat (n.sdiv 16#64).toNat n.toNat (v_mpa (mpa0 k d n)).d (n.sdiv 16#64).toNat (v_mpa (mpa0 k d n)).T 0#64) = true :=
    g_mpb_ok ⟨rfl, rfl, rfl, rfl, rfl, hm, rfl⟩
  rw [cond_false, cond_false, cond_false, room_ok f2, cond_true, cond_false, cond_false, cond_false, cond_true, room_ok (n := n.sdiv 16#64) (by omega), cond_true, g_mpa_ok hok, cond_true, hb, cond_true]
  exact plays_tail hm
theorem ramPlays_n (n : BitVec 64) : t_RamPlays_n n = some (.bool true) := by
  unfold t_RamPlays_n
  cases h1 : n.slt 4096#64 with
  | true => rfl
  | false =>
  cases h2 : (65536#64).slt n with
  | true => rfl
  | false =>
  cases h3 : (!n.srem 4096#64 == 0#64) with
  | true => rfl
  | false =>
  obtain ⟨f1, f2, f3⟩ := len_facts h1 h2 h3
  have hm := Mem.zero f1 f2 f3
  have hb : g_mpb (MpbS.a n.toNat zT n.toNat (zB n.toNat) n.toNat (n.sdiv 16#64).toNat n.toNat (zB n.toNat) (n.sdiv 16#64).toNat (zF (n.sdiv 16#64).toNat) 0#64) = true :=
    g_mpb_ok ⟨rfl, rfl, rfl, rfl, rfl, hm, rfl⟩
  rw [cond_false, cond_false, cond_false, room_ok f2, cond_true, cond_false, cond_false, cond_false, cond_true, room_ok (n := n.sdiv 16#64) (by omega), cond_true, hb, cond_true]
  exact plays_tail hm
end Go.Sx

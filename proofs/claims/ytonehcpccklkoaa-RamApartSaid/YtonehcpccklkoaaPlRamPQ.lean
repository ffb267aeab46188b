/- RamApart: the law. -/
import Derived.Test.YtonehcpccklkoaaVm11r
import Derived.Test.YtonehcpccklkoaaPlB
import Derived.Test.YtonehcpccklkoaaPlRamBA0
set_option linter.unusedSimpArgs false
set_option linter.unusedVariables false
set_option linter.unnecessarySimpa false
namespace Go.Sx
open Go
/-! ### stores apart -/
theorem put_set (d : List (List AV)) (o q : Nat) (r : List AV) (v : BitVec 64) : ∀ n, (q < o ∨ o + n ≤ q) → v_put (d.set q r) o n v = (v_put d o n v).set q r
  | 0, _ => rfl
  | n + 1, h => by rw [v_put_succ, v_put_succ, put_set d o q r v n (by omega), List.set_comm _ _ (show q ≠ o + n by omega)]
theorem put_comm (d : List (List AV)) (o n p : Nat) (v w : BitVec 64) : ∀ k, (o + n ≤ p ∨ p + k ≤ o) → v_put (v_put d o n v) p k w = v_put (v_put d p k w) o n v
  | 0, _ => rfl
  | k + 1, h => by rw [v_put_succ, v_put_succ, put_set _ _ _ _ _ n (by omega), put_comm d o n p v w k (by omega)]
theorem tT_len (n : Nat) (tg : List (List AV)) (off : BitVec 64) (t : Bool) : (v_tT n tg off t).length = tg.length := by
  unfold v_tT; cases v_okC n off <;> cases t <;> simp only [cond_true, cond_false, v_clr_len, v_lay_len]
theorem tD_len (n : Nat) (d : List (List AV)) (off x y : BitVec 64) : (v_tD n d off x y).length = d.length := by
  unfold v_tD; cases v_okC n off <;> simp only [cond_true, cond_false, v_put_len]
theorem Rok.cap {n : Nat} {tg d : List (List AV)} (h : Rok n tg d) (off : BitVec 64) (t : Bool) (x y : BitVec 64) : Rok n (v_tT n tg off t) (v_tD n d off x y) :=
  { ld := by rw [tD_len]; exact h.ld, lg := by rw [tT_len]; exact h.lg, lo := h.lo, hi := h.hi }
theorem Rok.gtag {tg d : List (List AV)} (h : Rok 4096 tg d) : g_tag 4096 tg 4096 d = true := by
  unfold g_tag; rw [h.ram]; rfl
theorem sz4_sized (k : BitVec 64) (h : k.toNat < 4) : v_sized (sz4 k) = true := by
  have : k = 0#64 ∨ k = 1#64 ∨ k = 2#64 ∨ k = 3#64 := by
    have e : k = BitVec.ofNat 64 k.toNat := by simp
    have : k.toNat = 0 ∨ k.toNat = 1 ∨ k.toNat = 2 ∨ k.toNat = 3 := by omega
    rcases this with q | q | q | q <;> rw [q] at e <;> simp [e]
  rcases this with rfl | rfl | rfl | rfl <;> rfl
theorem in_ok {o size : BitVec 64} (ho : o.toNat < 4089) (hs : v_sized size = true) : v_ok 4096 o size = true ∧ 1 ≤ size.toNat ∧ size.toNat ≤ 8 ∧ (o + size).toNat = o.toNat + size.toNat ∧ (o + size - 1#64).toNat = o.toNat + size.toNat - 1 := by
  have hn := v_sized_nat hs
  refine ⟨?_, by omega, by omega, by rw [BitVec.toNat_add]; omega, last_nat (by omega) (by omega)⟩
  unfold v_ok
  rw [hs, Bool.true_and]
  exact (v_in_iff (by decide) (by omega)).2 (by omega)
theorem tag_sT {tg : List (List AV)} {o size : BitVec 64} (hl : tg.length = 64) (ho : o.toNat < 4089) (hs : v_sized size = true) (p : Nat) :
    v_tag (v_sT 4096 tg o size) p = ((v_tag tg p && !decide (p / 16 = o.toNat / 16)) && !decide (p / 16 = (o.toNat + size.toNat - 1) / 16)) := by
  obtain ⟨h1, h2, h3, h4, h5⟩ := in_ok ho hs
  unfold v_sT
  rw [h1, cond_true, tag_clr _ _ _ (by rw [v_clr_len]; exact hl) (by omega), tag_clr _ _ _ hl (by omega)]
theorem tagged_congr {tg tg' : List (List AV)} (h : ∀ p, v_tag tg p = v_tag tg' p) (n : Nat) : v_tagged tg n = v_tagged tg' n := by
  unfold v_tagged tgs
  congr 1
  apply List.filter_congr
  intro g _
  exact h _
theorem tgs_emp (f : Nat → Bool) (k : Nat) : v_emp (tgs f k) = true ↔ ∀ j, j < k → f j = false := by
  unfold v_emp tgs
  rw [List.isEmpty_iff, List.map_eq_nil_iff, List.filter_eq_nil_iff]
  constructor
  · intro h j hj; have := h j (List.mem_range.2 hj); simpa using this
  · intro h j hj; rw [h j (List.mem_range.1 hj)]; simp
theorem okC_of {g : BitVec 64} (h : g.toNat + 16 ≤ 4096) (h16 : g.toNat % 16 = 0) : v_okC 4096 g = true := by
  unfold v_okC
  rw [Bool.and_eq_true, beq_iff_eq]
  refine ⟨(v_in_iff (n := 4096) (size := 16#64) (by decide) (by decide)).2 h, ?_⟩
  apply BitVec.eq_of_toNat_eq
  rw [sremN _ 16#64 (by decide) (by omega), BitVec.toNat_umod]
  exact h16
theorem tag_tT {g : BitVec 64} (h : g.toNat + 16 ≤ 4096) (h16 : g.toNat % 16 = 0) (p : Nat) : v_tag (v_tT 4096 zT g true) p = decide (p / 16 = g.toNat / 16) := by
  unfold v_tT
  rw [okC_of h h16, cond_true, cond_true, tag_lay _ _ _ (by rw [v_clr_len]; rfl) (by omega), tag_clr _ _ _ rfl (by omega), tag_zT]
  rfl
theorem len_emp {l : List (List AV)} (h : l.length < 2 ^ 63) : (BitVec.ofNat 64 l.length == 0#64) = v_emp l := by
  have := ofNat_beq (a := l.length) (b := 0) h (by decide)
  have e : (BitVec.ofNat 64 l.length == 0#64) = Nat.beq l.length 0 := this
  rw [e]
  cases l <;> rfl
set_option maxHeartbeats 8000000 in
theorem ramApart_core (at_ to x y g u w p q : BitVec 64) (hat : at_.toNat < 4089) (hto : to.toNat < 4089) (hx : v_sized x = true) (hy : v_sized y = true) (hg : g.toNat + 16 ≤ 4096) (hg16 : g.toNat % 16 = 0)
    (hap : ¬ (at_.slt (to + y) = true ∧ to.slt (at_ + x) = true)) :
    ∃ tg0 tg1 tg2 tgR tgS d0 d1 d2 dR, v_tT 4096 zT g true = tg0 ∧ v_tD 4096 (zB 4096) g p q = d0 ∧ v_sT 4096 tg0 at_ x = tg1 ∧ v_sD 4096 d0 at_ x u = d1 ∧ v_sT 4096 tg0 to y = tg2 ∧ v_sD 4096 d0 to y w = d2 ∧
      v_sT 4096 tg1 to y = tgR ∧ v_sD 4096 d1 to y w = dR ∧ v_sT 4096 tg2 at_ x = tgS ∧ v_sD 4096 d2 at_ x u = dR ∧
      Rok 4096 tg0 d0 ∧ Rok 4096 tg1 d1 ∧ Rok 4096 tg2 d2 ∧ Rok 4096 tgR dR ∧ Rok 4096 tgS dR ∧ v_tagged tgS 4096 = v_tagged tgR 4096 ∧ (v_tagged tgR 4096).length < 2 ^ 63 ∧
      v_emp (v_tagged tgR 4096) = (g.sle (at_ + x - 1#64) && at_.sle (g + 15#64) || g.sle (to + y - 1#64) && to.sle (g + 15#64)) := by
  obtain ⟨a1, a2, a3, a4, a5⟩ := in_ok hat hx
  obtain ⟨b1, b2, b3, b4, b5⟩ := in_ok hto hy
  have h0 : Rok 4096 (v_tT 4096 zT g true) (v_tD 4096 (zB 4096) g p q) := Rok.zero.cap g true p q
  have hd : v_sD 4096 (v_sD 4096 (v_tD 4096 (zB 4096) g p q) to y w) at_ x u = v_sD 4096 (v_sD 4096 (v_tD 4096 (zB 4096) g p q) at_ x u) to y w := by
    unfold v_sD
    rw [a1, b1]
    simp only [cond_true]
    refine put_comm _ _ _ _ _ _ _ ?_
    rw [slt_nat (by omega) (by omega), slt_nat (by omega) (by omega), decide_eq_true_eq, decide_eq_true_eq, a4, b4] at hap
    omega
  have hR := (h0.store at_ x u).store to y w
  have hS := (h0.store to y w).store at_ x u
  rw [hd] at hS
  have ht : ∀ r, v_tag (v_sT 4096 (v_sT 4096 (v_tT 4096 zT g true) to y) at_ x) r = v_tag (v_sT 4096 (v_sT 4096 (v_tT 4096 zT g true) at_ x) to y) r := by
    intro r
    rw [tag_sT (by rw [sT_len]; exact h0.lg) hat hx, tag_sT h0.lg hto hy, tag_sT (by rw [sT_len]; exact h0.lg) hto hy, tag_sT h0.lg hat hx]
    cases v_tag (v_tT 4096 zT g true) r <;> cases decide (r / 16 = to.toNat / 16) <;> cases decide (r / 16 = (to.toNat + y.toNat - 1) / 16) <;> cases decide (r / 16 = at_.toNat / 16) <;> cases decide (r / 16 = (at_.toNat + x.toNat - 1) / 16) <;> rfl
  refine ⟨_, _, _, _, _, _, _, _, _, rfl, rfl, rfl, rfl, rfl, rfl, rfl, rfl, rfl, hd, h0, h0.store at_ x u, h0.store to y w, hR, hS, tagged_congr ht _, ?_, ?_⟩
  · have := tgs_len (fun j => v_tag (v_sT 4096 (v_sT 4096 (v_tT 4096 zT g true) at_ x) to y) (16 * j)) (4096 / 16)
    unfold v_tagged
    omega
  · have hg15 : (g + 15#64).toNat = g.toNat + 15 := by rw [BitVec.toNat_add, show (15#64).toNat = 15 from rfl]; omega
    rw [Bool.eq_iff_iff]
    unfold v_tagged
    rw [tgs_emp, sle_nat (by omega) (by omega), sle_nat (by omega) (by omega), sle_nat (by omega) (by omega), sle_nat (by omega) (by omega), a5, b5, hg15]
    simp only [Bool.or_eq_true, Bool.and_eq_true, decide_eq_true_eq]
    have key : ∀ j, v_tag (v_sT 4096 (v_sT 4096 (v_tT 4096 zT g true) at_ x) to y) (16 * j) = ((((decide (j = g.toNat / 16) && !decide (j = at_.toNat / 16)) && !decide (j = (at_.toNat + x.toNat - 1) / 16)) && !decide (j = to.toNat / 16)) && !decide (j = (to.toNat + y.toNat - 1) / 16)) := by
      intro j
      rw [tag_sT (by rw [sT_len]; exact h0.lg) hto hy, tag_sT h0.lg hat hx, tag_tT hg hg16, show 16 * j / 16 = j by omega]
    constructor
    · intro h
      have hj := h (g.toNat / 16) (by omega)
      rw [key, decide_eq_true rfl, Bool.true_and] at hj
      simp only [Bool.and_eq_false_iff, Bool.not_eq_false', decide_eq_true_eq] at hj
      omega
    · intro h j hj
      rw [key]
      by_cases e : j = g.toNat / 16
      · subst e
        simp only [Bool.and_eq_false_iff, Bool.not_eq_false', decide_eq_true_eq, decide_eq_false_iff_not]
        omega
      · rw [decide_eq_false e]; rfl
set_option maxHeartbeats 8000000 in
theorem ramApart_x (a_0 a_1 a_2 : BitVec 64) (a_3 : Bool) (a_4 a_5 b_0 b_1 b_2 : BitVec 64) (b_3 : Bool) (b_4 b_5 : BitVec 64) : t_RamApart_x a_0 a_1 a_2 a_3 a_4 a_5 b_0 b_1 b_2 b_3 b_4 b_5 = some (.bool true) := by
  unfold t_RamApart_x
  have ha2 := pickLt a_2 4#64 (by decide) (by decide)
  have hb2 := pickLt b_2 4#64 (by decide) (by decide)
  have hat := pickLt a_1 4089#64 (by decide) (by decide)
  have hto := pickLt b_1 4089#64 (by decide) (by decide)
  have hgg := pickLt a_0 256#64 (by decide) (by decide)
  generalize v_kit_Pick a_2 4#64 = ka at ha2 ⊢
  generalize v_kit_Pick b_2 4#64 = kb at hb2 ⊢
  generalize v_kit_Pick a_1 4089#64 = at_ at hat ⊢
  generalize v_kit_Pick b_1 4089#64 = to at hto ⊢
  have hgm : (v_kit_Pick a_0 256#64 * 16#64).toNat = 16 * (v_kit_Pick a_0 256#64).toNat := by
    have : (256#64).toNat = 256 := rfl
    rw [BitVec.toNat_mul, show (16#64).toNat = 16 from rfl]; omega
  have hg : (v_kit_Pick a_0 256#64 * 16#64).toNat + 16 ≤ 4096 := by have : (256#64).toNat = 256 := rfl; omega
  have hg16 : (v_kit_Pick a_0 256#64 * 16#64).toNat % 16 = 0 := by omega
  generalize v_kit_Pick a_0 256#64 * 16#64 = g at hg hg16 ⊢
  have e4 : (4#64).toNat = 4 := rfl
  have hx := sz4_sized ka (by omega)
  have hy := sz4_sized kb (by omega)
  have n1 : (nonneg IntKind.i64 ka && decide (ka.toNat < 4)) = true := by rw [nonneg_lt (by omega), decide_eq_true (by omega)]; rfl
  have n2 : (nonneg IntKind.i64 kb && decide (kb.toNat < 4)) = true := by rw [nonneg_lt (by omega), decide_eq_true (by omega)]; rfl
  rw [n1, n2, decide_eq_true (show 0 + ka.toNat < 4 by omega), decide_eq_true (show 0 + kb.toNat < 4 by omega), cond_true, cond_true, cond_true, cond_true]
  generalize sz4 ka = x at hx ⊢
  generalize sz4 kb = y at hy ⊢
  have e89 : (4089#64).toNat = 4089 := rfl
  obtain ⟨a1, -⟩ := in_ok (by omega) hx (o := at_)
  obtain ⟨b1, -⟩ := in_ok (by omega) hy (o := to)
  by_cases hap : at_.slt (to + y) = true ∧ to.slt (at_ + x) = true
  · rw [hap.1, hap.2]; rfl
  · obtain ⟨tg0, tg1, tg2, tgR, tgS, d0, d1, d2, dR, e1, e2, e3, e4, e5, e6, e7, e8, e9, e10, r0, r1, r2, rR, rS, ht, hlen, he⟩ := ramApart_core at_ to x y g a_4 b_4 a_5 b_5 (by omega) (by omega) hx hy hg hg16 hap
    have m1 : g_mra (MraS.a 4096 tgR 4096 dR 4096 tgS 4096 dR x y at_ to g 0#64) = true := g_mra_ok ⟨rfl, rfl, rfl, rfl, rfl, rR, rS, rfl⟩
    have m2 : g_mrx (MrxS.a 4096 tgR 4096 dR 4096 tgS 4096 dR x y at_ to g 0#64) = true := g_mrx_ok ⟨rfl, rfl, rfl, rfl, rfl, rR, rS, rfl⟩
    simp only [e1, e2, e3, e4, e5, e6, e7, e8, e9, e10, r0.ram, r1.ram, r2.ram, rR.ram, rS.ram, rR.gtag, rS.gtag, a1, b1, ht, ss_self hlen, same_self, m1, m2, len_emp hlen, he, Bool.not_true, cond_true, cond_false]
    cases at_.slt (to + y) <;> cases to.slt (at_ + x) <;> cases g.sle (at_ + x - 1#64) <;> cases at_.sle (g + 15#64) <;> cases g.sle (to + y - 1#64) <;> cases to.sle (g + 15#64) <;> first | rfl | exact absurd ⟨rfl, rfl⟩ hap
end Go.Sx

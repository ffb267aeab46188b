/- The document's memory: granules, as answers. -/
import Derived.Test.YtkbcfbehebbmhaaVl11h
import Derived.Test.YtkbcfbehebbmhaaPlRamY
set_option linter.unusedSimpArgs false
set_option linter.unusedVariables false
set_option linter.unnecessarySimpa false
namespace Go.Sx
open Go
def v_xcT (n : Nat) (T : List (List AV)) (off : BitVec 64) : Bool := cond (v_okC n off) (cB T (off.toNat / 16)) false
def v_xcX (n : Nat) (d : List (List AV)) (off : BitVec 64) (k : Nat) : BitVec 64 := cond (v_okC n off) (v_xget d (off.toNat + k) 8) 0#64
theorem ok8 {n : Nat} {off : BitVec 64} (hn : n ≤ 65536) (h : off.toNat + 8 ≤ n) : v_ok n off 8#64 = true := by
  unfold v_ok
  rw [show v_sized 8#64 = true from rfl, Bool.true_and]
  exact (v_in_iff (off := off) (size := 8#64) hn (by rw [show (8#64).toNat = 8 from rfl]; omega)).2 h
def mxcCps : ECps MxcS MxcR := fun R z K => match z with
  | .a n t m d mt T off => cond (g_xram n t m d mt T) (K (.a (v_xcT n T off) (v_xcX n d off 0) (v_xcX n d off 8) (v_okC n off) n t m d mt T)) none
theorem mxcCps_ok : ECok mxcStep mxcCps := by
  intro R z K r h
  cases z with
  | a n t m d mt T off =>
    obtain ⟨hg, hk⟩ := condK h
    have hg' := hg
    obtain ⟨rfl, h1, h2, rfl, h4, h5, h6⟩ := g_xram_iff.1 hg
    refine ⟨_, ?_, hk⟩
    have hin := v_in_iff (n := m) (off := off) (size := 16#64) h6 (by rw [show (16#64).toNat = 16 from rfl]; omega)
    simp only [mxcStep, v_xcT, v_xcX, v_okC]
    rw [in_sle] at hin ⊢
    cases h0 : (0#64).sle off with
    | false => rfl
    | true =>
      cases h9 : off.sle (BitVec.ofNat 64 m - 16#64) with
      | false => rfl
      | true =>
        have hle : off.toNat + 16 ≤ m := hin.1 (by rw [h0, h9]; rfl)
        have e8 : (off + 8#64).toNat = off.toNat + 8 := add_nat (by rw [show (8#64).toNat = 8 from rfl]; omega)
        have hq := div16 off (by omega)
        have o1 := ok8 (n := m) (off := off) h6 (by omega)
        have o2 := ok8 (n := m) (off := off + 8#64) h6 (by omega)
        simp only [hg', hq, v_xlV, o1, o2, e8, nonneg_lt (show (off.sdiv 16#64).toNat < 2 ^ 63 by omega), decide_eq_true (show off.toNat / 16 < mt by omega), decide_eq_true (show 0 + off.toNat / 16 < mt by omega), Nat.zero_add, Bool.and_true, cond_true, cond_false, Bool.not_true, Bool.true_and]
        cases off.srem 16#64 == 0#64 <;> rfl
def v_xtT (n : Nat) (T : List (List AV)) (off : BitVec 64) (tt : Bool) : List (List AV) := cond (v_okC n off) ((v_xclr (v_xclr T off.toNat 8) (off.toNat + 8) 8).set (off.toNat / 16) [.bool tt]) T
def mxtCps : ECps MxtS MxtR := fun R z K => match z with
  | .a n t m d mt T off tt x y => cond (g_xram n t m d mt T) (K (.a (v_okC n off) n t m (v_tD n d off x y) mt (v_xtT n T off tt))) none
theorem mxtCps_ok : ECok mxtStep mxtCps := by
  intro R z K r h
  cases z with
  | a n t m d mt T off tt x y =>
    obtain ⟨hg, hk⟩ := condK h
    have hg' := hg
    obtain ⟨rfl, h1, h2, rfl, h4, h5, h6⟩ := g_xram_iff.1 hg
    refine ⟨_, ?_, hk⟩
    have hin := v_in_iff (n := m) (off := off) (size := 16#64) h6 (by rw [show (16#64).toNat = 16 from rfl]; omega)
    simp only [mxtStep, v_tD, v_xtT, v_okC]
    rw [in_sle] at hin ⊢
    cases h0 : (0#64).sle off with
    | false => rfl
    | true =>
      cases h9 : off.sle (BitVec.ofNat 64 m - 16#64) with
      | false => rfl
      | true =>
        have hle : off.toNat + 16 ≤ m := hin.1 (by rw [h0, h9]; rfl)
        have e8 : (off + 8#64).toNat = off.toNat + 8 := add_nat (by rw [show (8#64).toNat = 8 from rfl]; omega)
        have n8 : (8#64).toNat = 8 := rfl
        have hq := div16 off (by omega)
        have o1 := ok8 (n := m) (off := off) h6 (by omega)
        have o2 := ok8 (n := m) (off := off + 8#64) h6 (by omega)
        have g2 : g_xram m mt m (v_put d off.toNat 8 x) mt (v_xclr T off.toNat 8) = true := g_xram_iff.2 ⟨rfl, by rw [v_put_len]; exact h1, h2, rfl, by rw [v_xclr_len]; exact h4, h5, h6⟩
        simp only [hg', hq, v_sD, v_xsT, o1, o2, e8, n8, g2, v_xclr_len, h4, nonneg_lt (show (off.sdiv 16#64).toNat < 2 ^ 63 by omega), decide_eq_true (show off.toNat / 16 < mt by omega), decide_eq_true (show 0 + off.toNat / 16 < mt by omega), Nat.zero_add, Bool.and_true, cond_true, cond_false, Bool.not_true, Bool.true_and]
        cases off.srem 16#64 == 0#64 <;> rfl
def mxgCps : ECps MxgS MxgR := fun R x K => match x with
  | .a n t m d mt T => cond (g_xd t mt) (cond (v_emp (v_xtagged T t)) (K (.z n t m d mt T)) (K (.s n t m d mt T (v_xtagged T t).length (v_xtagged T t).length (v_xtagged T t)))) none
theorem mxgCps_ok : ECok mxgStep mxgCps := by
  intro R x K r h
  cases x with
  | a n t m d mt T =>
    obtain ⟨hg, hk⟩ := condK h
    simp only [mxgStep, hg, Bool.and_true, cond_true]
    cases he : v_emp (v_xtagged T t) with
    | true => rw [he] at hk; exact ⟨_, rfl, hk⟩
    | false => rw [he] at hk; exact ⟨_, rfl, hk⟩
end Go.Sx

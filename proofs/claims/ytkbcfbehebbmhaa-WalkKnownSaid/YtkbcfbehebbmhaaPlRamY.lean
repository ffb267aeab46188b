/- The document's memory: loads and stores, as answers. -/
import Derived.Test.YtkbcfbehebbmhaaVl11g
import Derived.Test.YtkbcfbehebbmhaaVa11
import Derived.Test.YtkbcfbehebbmhaaPlRamX
set_option linter.unusedSimpArgs false
set_option linter.unusedVariables false
set_option linter.unnecessarySimpa false
namespace Go.Sx
open Go
def g_xram (n t m : Nat) (d : List (List AV)) (mt : Nat) (T : List (List AV)) : Bool :=
  Nat.beq m n && (Nat.beq d.length n && (Nat.beq (16 * t) n && (Nat.beq mt t && (Nat.beq T.length t && (Nat.ble 4096 n && Nat.ble n 65536)))))
theorem g_xram_iff {n t m : Nat} {d : List (List AV)} {mt : Nat} {T : List (List AV)} : g_xram n t m d mt T = true ↔ m = n ∧ d.length = n ∧ 16 * t = n ∧ mt = t ∧ T.length = t ∧ 4096 ≤ n ∧ n ≤ 65536 := by
  simp only [g_xram, Bool.and_eq_true, beq_true, Nat.ble_eq]
theorem r_sized (size : BitVec 64) : v_r11_sized size = v_sized size := by
  unfold v_r11_sized v_sized
  cases size == 1#64 <;> cases size == 2#64 <;> cases size == 4#64 <;> rfl
theorem in_sle (n : Nat) (off size : BitVec 64) : v_in n off size = ((0#64).sle off && off.sle (BitVec.ofNat 64 n - size)) := by
  unfold v_in
  rw [BitVec.sle_eq_not_slt, BitVec.sle_eq_not_slt]
def v_xlV (n : Nat) (d : List (List AV)) (off size : BitVec 64) : BitVec 64 := cond (v_ok n off size) (v_xget d off.toNat size.toNat) 0#64
def mxlCps : ECps MxlS MxlR := fun R x K => match x with
  | .a n t m d mt T off size => cond (g_xram n t m d mt T) (K (.a (v_xlV n d off size) (v_ok n off size) n t m d mt T)) none
theorem mxlCps_ok : ECok mxlStep mxlCps := by
  intro R x K r h
  cases x with
  | a n t m d mt T off size =>
    obtain ⟨hg, hk⟩ := condK h
    obtain ⟨rfl, h1, h2, rfl, h4, h5, h6⟩ := g_xram_iff.1 hg
    refine ⟨_, ?_, hk⟩
    simp only [mxlStep, v_xlV, v_ok, r_sized]
    cases hs : v_sized size with
    | false => rfl
    | true =>
      have hsz := v_sized_nat hs
      have hin := v_in_iff (n := m) (off := off) (size := size) h6 (by omega)
      rw [in_sle] at hin ⊢
      rw [show size - 1#64 + 1#64 = size from BitVec.sub_add_cancel size 1#64]
      cases h0 : (0#64).sle off with
      | false => rfl
      | true =>
        cases h9 : off.sle (BitVec.ofNat 64 m - size) with
        | false => rfl
        | true =>
          have hle := hin.1 (by rw [h0, h9]; rfl)
          have hg2 : g_xa m m off size = true := g_xa_iff.2 ⟨Nat.le_refl _, h6, hle⟩
          rw [hg2]; rfl
def v_xsT (n : Nat) (T : List (List AV)) (off size : BitVec 64) : List (List AV) := cond (v_ok n off size) (v_xclr T off.toNat size.toNat) T
def mxsCps : ECps MxsS MxsR := fun R x K => match x with
  | .a n t m d mt T off size v => cond (g_xram n t m d mt T) (K (.a (v_ok n off size) n t m (v_sD n d off size v) mt (v_xsT n T off size))) none
theorem mxsCps_ok : ECok mxsStep mxsCps := by
  intro R x K r h
  cases x with
  | a n t m d mt T off size v =>
    obtain ⟨hg, hk⟩ := condK h
    obtain ⟨rfl, h1, h2, rfl, h4, h5, h6⟩ := g_xram_iff.1 hg
    refine ⟨_, ?_, hk⟩
    simp only [mxsStep, v_sD, v_xsT, v_ok, r_sized]
    cases hs : v_sized size with
    | false => rfl
    | true =>
      have hsz := v_sized_nat hs
      have hin := v_in_iff (n := m) (off := off) (size := size) h6 (by omega)
      rw [in_sle] at hin ⊢
      cases h0 : (0#64).sle off with
      | false => rfl
      | true =>
        cases h9 : off.sle (BitVec.ofNat 64 m - size) with
        | false => rfl
        | true =>
          have hle := hin.1 (by rw [h0, h9]; rfl)
          have hg2 : g_xb m mt m d mt T off size = true := g_xb_iff.2 ⟨Nat.le_refl _, h1, h6, by omega, Nat.le_refl _, h4, hle, by omega⟩
          rw [hg2]; rfl
end Go.Sx

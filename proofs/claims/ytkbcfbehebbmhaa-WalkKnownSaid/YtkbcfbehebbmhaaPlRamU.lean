/- Lists held against one another, as an answer. -/
import Derived.Test.YtkbcfbehebbmhaaVl11t
import Derived.Test.YtkbcfbehebbmhaaPlRamS
set_option linter.unusedSimpArgs false
set_option linter.unusedVariables false
set_option linter.unnecessarySimpa false
namespace Go.Sx
open Go
theorem condE {R : Type} {c : Bool} {x : Option R} {r : R} (h : cond c x none = some r) : c = true ∧ x = some r := by
  cases c with
  | false => simp at h
  | true => exact ⟨rfl, h⟩
def g_ss (na ma nb mb : Nat) : Bool := Nat.ble na ma && (Nat.ble nb mb && (Nat.blt na 9223372036854775808 && Nat.blt nb 9223372036854775808))
theorem g_ss_iff {na ma nb mb : Nat} : g_ss na ma nb mb = true ↔ na ≤ ma ∧ nb ≤ mb ∧ na < 2 ^ 63 ∧ nb < 2 ^ 63 := by
  simp only [g_ss, Bool.and_eq_true, Nat.ble_eq, Nat.blt_eq]
def v_same (da db : List (List AV)) (na nb : Nat) : Bool := Nat.beq na nb && v_eqI da db na
theorem ofNat_beq {a b : Nat} (ha : a < 2 ^ 63) (hb : b < 2 ^ 63) : (BitVec.ofNat 64 a == BitVec.ofNat 64 b) = Nat.beq a b := by
  rw [Bool.eq_iff_iff, beq_iff_eq, beq_true]
  constructor
  · intro h
    have := congrArg BitVec.toNat h
    rwa [ofNat_toNat (by omega), ofNat_toNat (by omega)] at this
  · intro h; rw [h]
def msiCps : ECps MsiS MsiR := fun R x K => match x with
  | .nn => K (.n true)
  | .rn ra ma da na => cond (Nat.blt na 9223372036854775808) (K (.o (Nat.beq na 0) ra ma da)) none
  | .nr ra ma da na => cond (Nat.blt na 9223372036854775808) (K (.o (Nat.beq na 0) ra ma da)) none
  | .rr ra ma da na rb mb db nb => cond (g_ss na ma nb mb) (K (.t (v_same da db na nb) ra ma da rb mb db)) none
theorem msiCps_ok : ECok msiStep msiCps := by
  intro R x K r h
  cases x with
  | nn => exact ⟨_, rfl, h⟩
  | rn ra ma da na =>
    obtain ⟨hg, hk⟩ := condE h
    rw [Nat.blt_eq] at hg
    refine ⟨_, ?_, hk⟩
    have e := ofNat_beq (a := na) (b := 0) hg (by decide)
    simp only [msiStep]
    rw [slt_len (by decide) hg]
    have e' : (BitVec.ofNat 64 na == 0#64) = Nat.beq na 0 := e
    rw [e']
    cases na with
    | zero => rfl
    | succ n => rfl
  | nr ra ma da na =>
    obtain ⟨hg, hk⟩ := condE h
    rw [Nat.blt_eq] at hg
    refine ⟨_, ?_, hk⟩
    have e : (0#64 == BitVec.ofNat 64 na) = Nat.beq 0 na := ofNat_beq (a := 0) (b := na) (by decide) hg
    simp only [msiStep]
    rw [e]
    cases na with
    | zero => rfl
    | succ n => rfl
  | rr ra ma da na rb mb db nb =>
    obtain ⟨hg, hk⟩ := condE h
    obtain ⟨h1, h2, h3, h4⟩ := g_ss_iff.1 hg
    refine ⟨_, ?_, hk⟩
    simp only [msiStep]
    rw [ofNat_beq h3 h4]
    unfold v_same
    cases hb : Nat.beq na nb with
    | false => rfl
    | true =>
      have e := beq_true.1 hb
      subst e
      have g1 : g_sl na ma na mb = true := g_sl_iff.2 ⟨h1, h2, rfl, h3⟩
      rw [g1]
      cases v_eqI da db na <;> rfl
end Go.Sx

/- The UART, call by call: a byte comes, loads, stores. -/
import Derived.Test.YtenimiinkhjdbaaVl14a
import Derived.Test.YtenimiinkhjdbaaPlN
set_option linter.unusedSimpArgs false
set_option linter.unusedVariables false
set_option linter.unnecessarySimpa false
namespace Go.Sx
open Go
def g_ring (q : List (List AV)) (fi cn : BitVec 64) : Bool := Nat.beq q.length 16 && (Nat.blt fi.toNat 16 && Nat.ble cn.toNat 16)
theorem g_ring_iff {q : List (List AV)} {fi cn : BitVec 64} : g_ring q fi cn = true ↔ q.length = 16 ∧ fi.toNat < 16 ∧ cn.toNat ≤ 16 := by
  simp only [g_ring, Bool.and_eq_true, beq_true, Nat.blt_eq, Nat.ble_eq]
def v_uiQ (q : List (List AV)) (fi cn : BitVec 64) (b : BitVec 8) : List (List AV) := cond (cn == 16#64) q (q.set ((fi + cn).srem 16#64).toNat [.int .u8 b])
def v_uiC (cn : BitVec 64) : BitVec 64 := cond (cn == 16#64) cn (cn + 1#64)
theorem add16 {fi cn : BitVec 64} (h1 : fi.toNat < 16) (h2 : cn.toNat ≤ 16) : (fi + cn).toNat = fi.toNat + cn.toNat := by
  rw [BitVec.toNat_add]; exact Nat.mod_eq_of_lt (by omega)
theorem srem16 {x : BitVec 64} (h : x.toNat < 100) : (x.srem 16#64).toNat = x.toNat % 16 := by
  rw [sremN x 16#64 (by decide) (by omega), BitVec.toNat_umod]; rfl
def uiCps : ECps UiS UiR := fun R x K => match x with
  | .n q fi cn en b => cond (g_ring q fi cn) (K (.n (!(cn == 16#64)) (v_uiQ q fi cn b) fi (v_uiC cn) en)) none
  | .t q fi cn en tb b => cond (g_ring q fi cn) (K (.t (!(cn == 16#64)) (v_uiQ q fi cn b) fi (v_uiC cn) en tb)) none
theorem condK {R : Type} {c : Bool} {x : Option R} {r : R} (h : cond c x none = some r) : c = true ∧ x = some r := by
  cases c with
  | false => simp at h
  | true => exact ⟨rfl, h⟩
theorem uiCps_ok : ECok uiStep uiCps := by
  intro R x K r h
  cases x with
  | n q fi cn en b =>
    obtain ⟨hg, h⟩ := condK h
    obtain ⟨h1, h2, h3⟩ := g_ring_iff.1 hg
    refine ⟨_, ?_, h⟩
    have e := srem16 (show (fi + cn).toNat < 100 by rw [add16 h2 h3]; omega)
    have hlt : ((fi + cn).srem 16#64).toNat < 16 := by rw [e]; omega
    simp only [uiStep, v_uiQ, v_uiC, h1, nonneg_lt (show ((fi + cn).srem 16#64).toNat < 2 ^ 63 by omega), decide_eq_true hlt, Bool.and_true, cond_true]
    cases cn == 16#64 <;> rfl
  | t q fi cn en tb b =>
    obtain ⟨hg, h⟩ := condK h
    obtain ⟨h1, h2, h3⟩ := g_ring_iff.1 hg
    refine ⟨_, ?_, h⟩
    have e := srem16 (show (fi + cn).toNat < 100 by rw [add16 h2 h3]; omega)
    have hlt : ((fi + cn).srem 16#64).toNat < 16 := by rw [e]; omega
    simp only [uiStep, v_uiQ, v_uiC, h1, nonneg_lt (show ((fi + cn).srem 16#64).toNat < 2 ^ 63 by omega), decide_eq_true hlt, Bool.and_true, cond_true]
    cases cn == 16#64 <;> rfl
def bQ (q : List (List AV)) (i : Nat) : BitVec 8 := asU8 ((q.getD i []).headD .any)
def v_ulN (cn off size : BitVec 64) : Bool := v_serial_there off size && (off == 0#64 && !(cn == 0#64))
def v_ulV (q : List (List AV)) (fi cn : BitVec 64) (en : Bool) (off size : BitVec 64) : BitVec 64 :=
  cond (v_serial_there off size) (cond (off == 0#64) (cond (cn == 0#64) 0#64 (BitVec.setWidth 64 (bQ q fi.toNat))) (cond (off == 1#64) (v_serial_one en) (cond (off == 5#64) (96#64 + v_serial_one ((0#64).slt cn)) 0#64))) 0#64
def v_ulF (fi cn off size : BitVec 64) : BitVec 64 := cond (v_ulN cn off size) ((fi + 1#64).srem 16#64) fi
def v_ulC (cn off size : BitVec 64) : BitVec 64 := cond (v_ulN cn off size) (cn - 1#64) cn
def ulCps : ECps UlS UlR := fun R x K => match x with
  | .n q fi cn en off size => cond (g_ring q fi cn) (K (.n (v_ulV q fi cn en off size) (v_serial_there off size) q (v_ulF fi cn off size) (v_ulC cn off size) en)) none
  | .t q fi cn en tb off size => cond (g_ring q fi cn) (K (.t (v_ulV q fi cn en off size) (v_serial_there off size) q (v_ulF fi cn off size) (v_ulC cn off size) en tb)) none
theorem ulCps_ok : ECok ulStep ulCps := by
  intro R x K r h
  cases x with
  | n q fi cn en off size =>
    obtain ⟨hg, h⟩ := condK h
    obtain ⟨h1, h2, h3⟩ := g_ring_iff.1 hg
    refine ⟨_, ?_, h⟩
    simp only [ulStep, v_ulV, v_ulF, v_ulC, v_ulN, nonneg_lt (show fi.toNat < 2 ^ 63 by omega), decide_eq_true h2, Bool.and_true, cond_true]
    cases v_serial_there off size <;> cases off == 0#64 <;> cases cn == 0#64 <;> cases off == 1#64 <;> cases off == 5#64 <;> rfl
  | t q fi cn en tb off size =>
    obtain ⟨hg, h⟩ := condK h
    obtain ⟨h1, h2, h3⟩ := g_ring_iff.1 hg
    refine ⟨_, ?_, h⟩
    simp only [ulStep, v_ulV, v_ulF, v_ulC, v_ulN, nonneg_lt (show fi.toNat < 2 ^ 63 by omega), decide_eq_true h2, Bool.and_true, cond_true]
    cases v_serial_there off size <;> cases off == 0#64 <;> cases cn == 0#64 <;> cases off == 1#64 <;> cases off == 5#64 <;> rfl
def v_usT (off size : BitVec 64) : Bool := v_serial_there off size && off == 0#64
def v_usE (en : Bool) (off size v : BitVec 64) : Bool := cond (v_serial_there off size && off == 1#64) (v &&& 1#64 == 1#64) en
def usCps : ECps UsS UsR := fun R x K => match x with
  | .n q fi cn en off size v => cond (v_usT off size) (K (.t true q fi cn en (BitVec.setWidth 8 v))) (K (.n (v_serial_there off size) q fi cn (v_usE en off size v)))
  | .t q fi cn en tb off size v => cond (v_usT off size) (K (.x true q fi cn en (BitVec.setWidth 8 v))) (K (.t (v_serial_there off size) q fi cn (v_usE en off size v) tb))
theorem usCps_ok : ECok usStep usCps := by
  intro R x K r h
  cases x with
  | n q fi cn en off size v =>
    simp only [usCps, v_usT, v_usE] at h
    simp only [usStep]
    cases h1 : v_serial_there off size <;> cases h2 : off == 0#64 <;> cases h3 : off == 1#64 <;> simp only [h1, h2, h3, Bool.true_and, Bool.false_and, cond_true, cond_false, Bool.not_true, Bool.not_false] at h ⊢ <;> exact ⟨_, rfl, h⟩
  | t q fi cn en tb off size v =>
    simp only [usCps, v_usT, v_usE] at h
    simp only [usStep]
    cases h1 : v_serial_there off size <;> cases h2 : off == 0#64 <;> cases h3 : off == 1#64 <;> simp only [h1, h2, h3, Bool.true_and, Bool.false_and, cond_true, cond_false, Bool.not_true, Bool.not_false] at h ⊢ <;> exact ⟨_, rfl, h⟩
end Go.Sx

/- The document's UART, call by call. -/
import Derived.Test.YtenimiinkhjdbaaVl14c
import Derived.Test.YtenimiinkhjdbaaPlSrB
set_option linter.unusedSimpArgs false
set_option linter.unusedVariables false
set_option linter.unnecessarySimpa false
namespace Go.Sx
open Go
def v_xiD (d : List (List AV)) (b : BitVec 8) : List (List AV) := d ++ [[.int .u8 b]]
def v_full (n : Nat) : Bool := (16#64).sle (BitVec.ofNat 64 n)
def xiCps : ECps XiS XiR := fun R x K => match x with
  | .n e to b => K (.s true 1 1 [[.int .u8 b]] e to)
  | .r n m d e to b => cond (g_row n m d) (cond (v_full n) (K (.s false n m d e to)) (K (.g true (n + 1) (n + 1) (v_xiD d b) e to))) none
theorem xiCps_ok : ECok xiStep xiCps := by
  intro R x K r h
  cases x with
  | n e to b => exact ⟨_, rfl, h⟩
  | r n m d e to b =>
    obtain ⟨hg, h⟩ := condK h
    obtain ⟨rfl, h1, h2⟩ := g_row_iff.1 hg
    simp only [xiStep]
    rw [decide_eq_true (show 0 + m ≤ m by omega), decide_eq_true h1, room_le (by omega), List.drop_zero, List.take_of_length_le (by omega)]
    unfold v_full at h
    cases hf : (16#64).sle (BitVec.ofNat 64 m) with
    | true => rw [hf] at h; exact ⟨_, rfl, h⟩
    | false => rw [hf] at h; exact ⟨_, rfl, h⟩
theorem there_not (off size : BitVec 64) : v_serial_there off size = (!(!size == 1#64) && (!off.slt 0#64 && !(7#64).slt off)) := by
  unfold v_serial_there
  rw [BitVec.sle_eq_not_slt, BitVec.sle_eq_not_slt]
  cases (size == 1#64) <;> cases off.slt 0#64 <;> rfl
def v_one (e : Bool) : BitVec 64 := cond e 1#64 0#64
def v_xdN (e : Bool) (off size : BitVec 64) : BitVec 64 := cond (v_serial_there off size) (cond (off == 0#64) 0#64 (cond (off == 1#64) (v_one e) (cond (off == 5#64) 96#64 0#64))) 0#64
def v_xdS (e : Bool) (off size : BitVec 64) : BitVec 64 := cond (v_serial_there off size) (cond (off == 1#64) (v_one e) (cond (off == 5#64) 97#64 0#64)) 0#64
def xdCps : ECps XdS XdR := fun R x K => match x with
  | .n e to off size => K (.n (v_xdN e off size) (v_serial_there off size) e to)
  | .r n m d e to off size => cond (g_row n m d && Nat.blt 0 n) (cond (v_usT off size) (cond (Nat.ble n 1) (K (.e (BitVec.setWidth 64 (bQ d 0)) true m d e to)) (K (.l (BitVec.setWidth 64 (bQ d 0)) true m d (n - 1) (n - 1) (v_r8 d 1 (n - 1)) e to)))
      (K (.s (v_xdS e off size) (v_serial_there off size) n m d e to))) none
theorem xdCps_ok : ECok xdStep xdCps := by
  intro R x K r h
  cases x with
  | n e to off size =>
    simp only [xdCps, v_xdN, v_one, there_not] at h
    simp only [xdStep]
    cases h1 : (!size == 1#64) <;> cases h2 : off.slt 0#64 <;> cases h3 : (7#64).slt off <;> cases h4 : off == 0#64 <;> cases h5 : off == 1#64 <;> cases h6 : off == 5#64 <;> cases e <;>
      simp only [h1, h2, h3, h4, h5, h6, Bool.not_true, Bool.not_false, Bool.true_and, Bool.false_and, Bool.and_true, Bool.and_false, cond_true, cond_false] at h ⊢ <;> exact ⟨_, rfl, h⟩
  | r n m d e to off size =>
    obtain ⟨hg, hk⟩ := condK h
    clear h
    simp only [Bool.and_eq_true, Nat.blt_eq] at hg
    obtain ⟨hg, hn⟩ := hg
    have hg' := hg
    obtain ⟨rfl, q1, q2⟩ := g_row_iff.1 hg
    have e0 : (0#64).slt (BitVec.ofNat 64 m) = true := by rw [slt_len (by decide) (by omega)]; exact decide_eq_true hn
    simp only [v_xdS, v_one, v_usT, there_not] at hk
    simp only [xdStep, e0, decide_eq_true hn, hg', Bool.and_true, cond_true]
    cases h1 : (!size == 1#64) <;> cases h2 : off.slt 0#64 <;> cases h3 : (7#64).slt off <;> cases h4 : off == 0#64 <;> cases h5 : off == 1#64 <;> cases h6 : off == 5#64 <;> cases h7 : Nat.ble m 1 <;> cases e <;>
      simp only [h1, h2, h3, h4, h5, h6, h7, Bool.not_true, Bool.not_false, Bool.true_and, Bool.false_and, Bool.and_true, Bool.and_false, cond_true, cond_false] at hk ⊢ <;> exact ⟨_, rfl, hk⟩
def v_xsE (e : Bool) (off size v : BitVec 64) : Bool := cond (v_serial_there off size && off == 1#64) (v % 2#64 == 1#64) e
def v_xsO (to off size v : BitVec 64) : BitVec 64 := cond (v_usT off size) (BitVec.setWidth 64 (v % 256#64)) to
def xsCps : ECps XsS XsR := fun R x K => match x with
  | .n e to off size v => K (.n (v_serial_there off size) (v_xsE e off size v) (v_xsO to off size v))
  | .r n m d e to off size v => K (.s (v_serial_there off size) n m d (v_xsE e off size v) (v_xsO to off size v))
theorem xsCps_ok : ECok xsStep xsCps := by
  intro R x K r h
  cases x with
  | n e to off size v =>
    simp only [xsCps, v_xsE, v_xsO, v_usT, there_not] at h
    simp only [xsStep]
    cases h1 : (!size == 1#64) <;> cases h2 : off.slt 0#64 <;> cases h3 : (7#64).slt off <;> cases h4 : off == 0#64 <;> cases h5 : off == 1#64 <;>
      simp only [h1, h2, h3, h4, h5, Bool.not_true, Bool.not_false, Bool.true_and, Bool.false_and, Bool.and_true, Bool.and_false, cond_true, cond_false] at h ⊢ <;> exact ⟨_, rfl, h⟩
  | r n m d e to off size v =>
    simp only [xsCps, v_xsE, v_xsO, v_usT, there_not] at h
    simp only [xsStep]
    cases h1 : (!size == 1#64) <;> cases h2 : off.slt 0#64 <;> cases h3 : (7#64).slt off <;> cases h4 : off == 0#64 <;> cases h5 : off == 1#64 <;>
      simp only [h1, h2, h3, h4, h5, Bool.not_true, Bool.not_false, Bool.true_and, Bool.false_and, Bool.and_true, Bool.and_false, cond_true, cond_false] at h ⊢ <;> exact ⟨_, rfl, h⟩
end Go.Sx

/- The interrupt controller: a store, as one answer. -/
import Derived.Test.YtaieimjeffedhaaVl12e
import Derived.Test.YtaieimjeffedhaaPlPlc3
import Derived.Test.YtaieimjeffedhaaPlPlc6
set_option linter.unusedSimpArgs false
set_option linter.unusedVariables false
set_option linter.unnecessarySimpa false
namespace Go.Sx
open Go
def v_stB (off size : BitVec 64) : Bool := !((v_plic_which off size).1 == 0#64)
def v_stP (p : PSt) (off size v : BitVec 64) : PSt :=
  let w := v_plic_which off size
  cond (w.1 == 1#64) (cond ((0#64).slt w.2) { p with pr := p.pr.set w.2.toNat [.int .u32 (BitVec.setWidth 32 (v &&& 7#64))] } p)
    (cond (w.1 == 3#64) { p with en := p.en.set w.2.toNat [.int .u32 (BitVec.setWidth 32 v &&& 4294967294#32)] }
      (cond (w.1 == 4#64) { p with th := p.th.set w.2.toNat [.int .u32 (BitVec.setWidth 32 (v &&& 7#64))] }
        (cond (w.1 == 5#64) (cond ((BitVec.setWidth 32 v).ult 32#32) { p with se := p.se &&& ~~~(1#32 <<< min (BitVec.setWidth 32 v).toNat 32 &&& cell32 p.en w.2.toNat) } p) p)))
def g_stq : StqS → Bool
  | .a pr _ _ en th _ _ _ => Nat.beq pr.length 32 && (Nat.beq en.length 2 && Nat.beq th.length 2)
theorem g_stq_ok {p : PSt} (h : POk p) (off size v : BitVec 64) : g_stq (.a p.pr p.pe p.se p.en p.th off size v) = true := by
  simp [g_stq, h.lpr, h.len, h.lth]
def stqF : StqS → StqR
  | .a pr pe se en th off size v => .r (v_stB off size) (v_stP ⟨pr, pe, se, en, th⟩ off size v).pr (v_stP ⟨pr, pe, se, en, th⟩ off size v).pe (v_stP ⟨pr, pe, se, en, th⟩ off size v).se (v_stP ⟨pr, pe, se, en, th⟩ off size v).en (v_stP ⟨pr, pe, se, en, th⟩ off size v).th
theorem stq_out (x : StqS) (h : g_stq x = true) : stqStep x = some (stqF x) := by
  cases x with
  | a pr pe se en th off size v =>
    simp only [g_stq, Bool.and_eq_true, beq_true] at h
    obtain ⟨h1, h2, h3⟩ := h
    simp only [stqStep, stqF, h1, h2, h3, v_stB]
    unfold v_stP
    have hW := which_reg off size
    generalize v_plic_which off size = W at hW ⊢
    rcases hW with w | ⟨w1, w2, _, _⟩ | ⟨w, _, _⟩ | ⟨w, _, _⟩ | ⟨w, _, _⟩ | ⟨w, _, _⟩ | ⟨w, _, _⟩ | ⟨w, _, _⟩ | ⟨w, _, _⟩
    case prio =>
      simp only [w1, nonneg_lt (show W.2.toNat < 2 ^ 63 by omega), decide_eq_true w2, BitVec.reduceBEq, cond_true, cond_false, Bool.and_true]
      cases h0 : (0#64).slt W.2 <;> rfl
    case cl0 => subst w; cases (BitVec.setWidth 32 v).ult 32#32 <;> rfl
    case cl1 => subst w; cases (BitVec.setWidth 32 v).ult 32#32 <;> rfl
    all_goals (subst w; rfl)
theorem POk.store {p : PSt} (h : POk p) (off size v : BitVec 64) : POk (v_stP p off size v) := by
  unfold v_stP
  have hW := which_reg off size
  generalize v_plic_which off size = W at hW ⊢
  rcases hW with w | ⟨w1, w2, _, _⟩ | ⟨w, _, _⟩ | ⟨w, _, _⟩ | ⟨w, _, _⟩ | ⟨w, _, _⟩ | ⟨w, _, _⟩ | ⟨w, _, _⟩ | ⟨w, _, _⟩
  case prio =>
    simp only [w1, BitVec.reduceBEq, cond_true]
    cases h0 : (0#64).slt W.2 with
    | false => exact h
    | true =>
      rw [slt_nat (by decide) (by omega), decide_eq_true_eq] at h0
      exact h.prio W.2.toNat w2 h0 _ (and7 v)
  case en0 => subst w; exact h.enable 0 (by decide) (BitVec.setWidth 32 v &&& 4294967294#32) (by simp)
  case en1 => subst w; exact h.enable 1 (by decide) (BitVec.setWidth 32 v &&& 4294967294#32) (by simp)
  case th0 => subst w; exact h.thresh 0 (by decide) _ (and7 v)
  case th1 => subst w; exact h.thresh 1 (by decide) _ (and7 v)
  case cl0 =>
    subst w
    show POk (cond ((BitVec.setWidth 32 v).ult 32#32) _ _)
    cases (BitVec.setWidth 32 v).ult 32#32 with
    | true => exact h.done (1#32 <<< min (BitVec.setWidth 32 v).toNat 32 &&& cell32 p.en 0)
    | false => exact h
  case cl1 =>
    subst w
    show POk (cond ((BitVec.setWidth 32 v).ult 32#32) _ _)
    cases (BitVec.setWidth 32 v).ult 32#32 with
    | true => exact h.done (1#32 <<< min (BitVec.setWidth 32 v).toNat 32 &&& cell32 p.en 1)
    | false => exact h
  all_goals (subst w; exact h)
end Go.Sx

/- Both interrupt controllers: lines, and whether a context is interrupted, as answers. -/
import Derived.Test.YtaieimjeffedhaaVl12v
import Derived.Test.YtaieimjeffedhaaPlPlr2
set_option linter.unusedSimpArgs false
set_option linter.unusedVariables false
set_option linter.unnecessarySimpa false
namespace Go.Sx
open Go
def g_lnq : LnqS → Bool := fun _ => true
def lnqF : LnqS → LnqR
  | .a pr pe se en th m => .r pr (m &&& ~~~(1#32 ||| se)) se en th
theorem lnq_out (x : LnqS) (h : g_lnq x = true) : lnqStep x = some (lnqF x) := by
  cases x; rfl
def v_pdB (p : PSt) (cx : BitVec 64) : Bool := ((0#64).sle cx && cx.slt 2#64) && (0#32).ult (v_best p.pr (p.pe &&& cell32 p.en cx.toNat) (cell32 p.th cx.toNat) 0#32 1#32)
def g_pdq : PdqS → Bool := fun _ => true
def pdqF : PdqS → PdqR
  | .a pr pe se en th cx => .r (v_pdB ⟨pr, pe, se, en, th⟩ cx) pr pe se en th
theorem cx_lt (cx : BitVec 64) (h0 : (0#64).sle cx = true) (h1 : cx.slt 2#64 = true) : cx.toNat < 2 := by
  rw [BitVec.sle_eq_not_slt, Bool.not_eq_true', sltR cx 0#64 (by decide)] at h0
  rw [sltR cx 2#64 (by decide)] at h1
  simp at h0 h1
  omega
theorem pdq_out (x : PdqS) (h : g_pdq x = true) : pdqStep x = some (pdqF x) := by
  cases x with
  | a pr pe se en th cx =>
    simp only [pdqStep, pdqF]
    unfold v_pdB
    cases h0 : (0#64).sle cx with
    | false => rfl
    | true =>
      cases h1 : cx.slt 2#64 with
      | false => rfl
      | true =>
        have h := cx_lt cx h0 h1
        simp only [nonneg_lt (show cx.toNat < 2 ^ 63 by omega), decide_eq_true h, Bool.and_true, cond_true]
        rfl
def g_xln : XlnS → Bool
  | .a L _ _ => Nat.beq L.length 32
def xlnF : XlnS → XlnR
  | .a L T m => .r (v_xl L m 1#64) T
theorem xln_out (x : XlnS) (h : g_xln x = true) : xlnStep x = some (xlnF x) := by
  cases x with
  | a L T m =>
    simp only [g_xln] at h
    simp only [xlnStep, xlnF, h, Bool.and_true, cond_true]
def v_xp0 (L T : List (List AV)) : Bool := v_xp L (xA L) (xT T 0)
def v_xp1 (L T : List (List AV)) : Bool := v_xp L (xB L) (xT T 1)
def g_xq0 : Xq0S → Bool := fun _ => true
def g_xq1 : Xq1S → Bool := fun _ => true
def xq0F : Xq0S → Xq0R
  | .a L T => .r (v_xp0 L T) L T
def xq1F : Xq1S → Xq1R
  | .a L T => .r (v_xp1 L T) L T
theorem xq0_out (x : Xq0S) (h : g_xq0 x = true) : xq0Step x = some (xq0F x) := by
  cases x with
  | a L T =>
    simp only [xq0Step, xq0F]
    unfold v_xp0
    show cond (v_xp L (xA L) (xT T 0)) _ _ = _
    cases v_xp L (xA L) (xT T 0) <;> rfl
theorem xq1_out (x : Xq1S) (h : g_xq1 x = true) : xq1Step x = some (xq1F x) := by
  cases x with
  | a L T =>
    simp only [xq1Step, xq1F]
    unfold v_xp1
    show cond (v_xp L (xB L) (xT T 1)) _ _ = _
    cases v_xp L (xB L) (xT T 1) <;> rfl
def g_xqo : XqoS → Bool
  | .a _ _ cx => !(cx == 0#64) && !(cx == 1#64)
def xqoF : XqoS → XqoR
  | .a L T _ => .r false L T
theorem xqo_out (x : XqoS) (h : g_xqo x = true) : xqoStep x = some (xqoF x) := by
  cases x with
  | a L T cx =>
    simp only [g_xqo, Bool.and_eq_true] at h
    simp only [xqoStep, xqoF, h.1, h.2, cond_true]
end Go.Sx

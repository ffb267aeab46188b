/- Plain laws of what is made of capabilities: each operation's answer. -/
import Derived.Test.YtgmemioomkbofaaPlR
set_option linter.unusedSimpArgs false
set_option linter.unusedVariables false
set_option linter.unnecessarySimpa false
namespace Go.Sx
open Go
theorem rg_eq {a b : Rg} (h : (a.base == b.base && (a.top == b.top && (a.over == b.over && true))) = true) : a = b := by
  cases a; cases b
  simp at h
  obtain ⟨rfl, rfl, rfl⟩ := h
  rfl
theorem keep_of (c : Cp) (b : Bool) : v_capops_keep c b = { c with tag := c.tag && b } := by
  unfold v_capops_keep; cases c with | mk tag per ty mo e b' t big ad => cases tag <;> cases b <;> rfl
theorem less_of (c : Cp) (k : BitVec 64) : v_capops_Less c k = { c with per := c.per &&& k, tag := c.tag && (c.ty == 262143#64) } := by
  unfold v_capops_Less v_capops_Sealed
  simp only [keep_of, Bool.not_not]
theorem bound_less (c : Cp) (n : BitVec 64) (ex : Bool) : (v_capops_Bound c n ex).per = c.per ∧ (v_capops_Bound c n ex).ty = c.ty ∧ (v_capops_Bound c n ex).mo = c.mo ∧ (v_capops_Bound c n ex).ad = c.ad ∧ (v_capops_Bound c n ex).e = (v_bounds_Lay c n).1.e ∧
    v_bounds_Of (v_capops_Bound c n ex) = v_bounds_Of (v_bounds_Lay c n).1 ∧ ((v_capops_Bound c n ex).tag = true → c.tag = true ∧ (c.ty == 262143#64) = true ∧ v_bounds_Within (v_bounds_Of (v_bounds_Lay c n).1) (v_bounds_Of c) = true) := by
  obtain ⟨k1, k2, k3, k4, k5⟩ := lay_keeps c n
  have key : ∀ b : Bool, (b = true → (c.ty == 262143#64) = true ∧ v_bounds_Within (v_bounds_Of (v_bounds_Lay c n).1) (v_bounds_Of c) = true) → (v_capops_keep (v_bounds_Lay c n).1 b).per = c.per ∧ (v_capops_keep (v_bounds_Lay c n).1 b).ty = c.ty ∧ (v_capops_keep (v_bounds_Lay c n).1 b).mo = c.mo ∧ (v_capops_keep (v_bounds_Lay c n).1 b).ad = c.ad ∧ (v_capops_keep (v_bounds_Lay c n).1 b).e = (v_bounds_Lay c n).1.e ∧
      v_bounds_Of (v_capops_keep (v_bounds_Lay c n).1 b) = v_bounds_Of (v_bounds_Lay c n).1 ∧ ((v_capops_keep (v_bounds_Lay c n).1 b).tag = true → c.tag = true ∧ (c.ty == 262143#64) = true ∧ v_bounds_Within (v_bounds_Of (v_bounds_Lay c n).1) (v_bounds_Of c) = true) := by
    intro b hb
    rw [keep_of]
    refine ⟨k2, k3, k4, k5, rfl, rfl, fun h => ?_⟩
    simp only [Bool.and_eq_true] at h
    exact ⟨k1 ▸ h.1, hb h.2⟩
  unfold v_capops_Bound
  cases hs : (!v_capops_Sealed c) with
  | false => exact key _ (fun h => by simp at h)
  | true =>
    have hty : (c.ty == 262143#64) = true := by simpa [v_capops_Sealed] using hs
    rw [cond_true]
    (repeat' (rw [Bool.cond_eq_ite]; split)) <;> first | exact key _ (fun h => ⟨hty, h⟩) | exact key _ (fun h => by simp at h)
theorem g_bound_ok {c : Cp} (h : c.e.toNat ≤ 52) (n : BitVec 64) (ex : Bool) : g_capops_Bound c n ex = true := by
  unfold g_capops_Bound
  simp only [g_Lay_ok, g_Of_lay, g_Of_ok h, cond_true, Bool.cond_self]
theorem bound_e (c : Cp) (n : BitVec 64) (ex : Bool) : (v_capops_Bound c n ex).e.toNat ≤ 52 := by
  rw [(bound_less c n ex).2.2.2.2.1]; exact lay_e c n
/-- The sentry of a capability. -/
def canSentry (c : Cp) : Bool := cond c.tag (cond (c.ty == 262143#64) (cond (c.per &&& 2#64 == 0#64) false true) false) false
theorem sentry_val (c : Cp) : v_capops_Sentry c = cond (canSentry c) { c with ty := 262142#64 } { c with tag := false } := by
  unfold v_capops_Sentry canSentry v_capops_Sealed v_capops_keep
  cases c with | mk tag per ty mo e b t big ad =>
  simp only
  generalize (per &&& 2#64 == 0#64) = p2
  generalize (ty == 262143#64) = y
  cases tag <;> cases y <;> cases p2 <;> rfl

theorem sealed_of (c : Cp) : v_capops_Sealed c = !(c.ty == 262143#64) := rfl
theorem fits_of (c : Cp) (a : BitVec 64) : v_bounds_Fits c a = true ↔ v_bounds_Of { c with ad := a } = v_bounds_Of c := by
  unfold v_bounds_Fits
  generalize v_bounds_Of c = r
  constructor
  · intro h; exact rg_eq h
  · intro h
    rw [show v_bounds_Of { tag := c.tag, per := c.per, ty := c.ty, mo := c.mo, e := c.e, b := c.b, t := c.t, big := c.big, ad := a } = r from h]
    simp
theorem move_of (c : Cp) (a : BitVec 64) : v_capops_Move c a = { c with ad := a, tag := c.tag && ((c.ty == 262143#64) && v_bounds_Fits c a) } := by
  unfold v_capops_Move
  simp only [keep_of, sealed_of]
  cases (c.ty == 262143#64) <;> rfl
theorem mode_of (c : Cp) (k : BitVec 64) : v_capops_Mode c k = { c with mo := k &&& 1#64, tag := c.tag && (c.ty == 262143#64) } := by
  unfold v_capops_Mode
  simp only [keep_of, sealed_of, Bool.not_not]
def canSeal (c y : Cp) : Bool := c.tag && ((c.ty == 262143#64) && (v_capops_seals y 128#64 && !((262135#64).ult y.ad)))
theorem seal_of (c y : Cp) : v_capops_Seal c y = cond (canSeal c y) { c with ty := y.ad } { c with tag := false } := by
  unfold v_capops_Seal canSeal
  simp only [keep_of, sealed_of, Bool.and_false, BitVec.setWidth_eq]
  cases c with | mk tag per ty mo e b t big ad =>
  simp only
  cases tag <;> cases (ty == 262143#64) <;> cases v_capops_seals y 128#64 <;> cases (262135#64).ult y.ad <;> rfl
def canUnseal (c y : Cp) : Bool := c.tag && (!((262135#64).slt c.ty) && (v_capops_seals y 256#64 && (y.ad == c.ty)))
theorem unseal_of (c y : Cp) : v_capops_Unseal c y = cond (canUnseal c y) { c with per := c.per &&& (y.per ||| 18446744073709551614#64), ty := 262143#64 } { c with tag := false } := by
  unfold v_capops_Unseal canUnseal
  simp only [keep_of, sealed_of, Bool.and_false, BitVec.signExtend_eq]
  cases c with | mk tag per ty mo e b t big ad =>
  simp only
  cases tag <;> cases (262135#64).slt ty <;> cases v_capops_seals y 256#64 <;> cases (y.ad == ty) <;> rfl
def canBuild (y c : Cp) : Bool := y.tag && ((y.ty == 262143#64) && (((v_bounds_Of c).over || (v_bounds_Of c).base.ule (v_bounds_Of c).top) && (v_bounds_Within (v_bounds_Of c) (v_bounds_Of y) && (c.per &&& ~~~y.per == 0#64))))
theorem build_of (y c : Cp) : v_capops_Build y c = cond (canBuild y c) { c with tag := true, ty := cond ((c.ty == 262142#64) && !(c.per &&& 2#64 == 0#64)) c.ty 262143#64 } { c with tag := false } := by
  unfold v_capops_Build canBuild
  simp only [keep_of, sealed_of, Bool.and_false]
  generalize v_bounds_Within (v_bounds_Of c) (v_bounds_Of y) = w
  generalize (v_bounds_Of c).base.ule (v_bounds_Of c).top = u
  generalize (v_bounds_Of c).over = o
  generalize (c.per &&& ~~~y.per == 0#64) = p
  cases c with | mk tag per ty mo e b t big ad =>
  simp only
  generalize (per &&& 2#64 == 0#64) = x
  cases y.tag <;> cases (y.ty == 262143#64) <;> cases o <;> cases u <;> cases w <;> cases p <;> cases h : (ty == 262142#64) <;> cases x <;> rfl
theorem seals_of (y : Cp) (p : BitVec 64) : v_capops_seals y p = (y.tag && ((y.ty == 262143#64) && (!(y.per &&& p == 0#64) && v_bounds_In (v_bounds_Of y) y.ad 1#64))) := by
  unfold v_capops_seals
  simp only [sealed_of, Bool.not_not]
  cases y.tag <;> cases (y.ty == 262143#64) <;> cases (y.per &&& p == 0#64) <;> rfl
theorem g_fits_ok {c : Cp} (h : c.e.toNat ≤ 52) (a : BitVec 64) : g_bounds_Fits c a = true := by
  unfold g_bounds_Fits
  rw [g_Of_ok h, g_Of_ok (c := { tag := c.tag, per := c.per, ty := c.ty, mo := c.mo, e := c.e, b := c.b, t := c.t, big := c.big, ad := a }) h]; rfl
theorem g_move_ok {c : Cp} (h : c.e.toNat ≤ 52) (a : BitVec 64) : g_capops_Move c a = true := by
  unfold g_capops_Move
  simp only [g_fits_ok h, cond_true, Bool.cond_self]
theorem g_seals_ok {c : Cp} (h : c.e.toNat ≤ 52) (a : BitVec 64) : g_capops_seals c a = true := by
  unfold g_capops_seals
  simp only [g_Of_ok h, cond_true, Bool.cond_self]
theorem g_seal_ok {y : Cp} (h : y.e.toNat ≤ 52) (c : Cp) : g_capops_Seal c y = true := by
  unfold g_capops_Seal
  simp only [g_seals_ok h, cond_true, Bool.cond_self]
theorem g_unseal_ok {y : Cp} (h : y.e.toNat ≤ 52) (c : Cp) : g_capops_Unseal c y = true := by
  unfold g_capops_Unseal
  simp only [g_seals_ok h, cond_true, Bool.cond_self]
theorem g_build_ok {y c : Cp} (h : y.e.toNat ≤ 52) (hc : c.e.toNat ≤ 52) : g_capops_Build y c = true := by
  unfold g_capops_Build
  simp only [g_Of_ok h, g_Of_ok hc, cond_true, Bool.cond_self]
theorem g_subset_ok {y c : Cp} (h : y.e.toNat ≤ 52) (hc : c.e.toNat ≤ 52) : g_capops_Subset y c = true := by
  unfold g_capops_Subset
  simp only [g_Of_ok h, g_Of_ok hc, cond_true, Bool.cond_self]
theorem g_from_ok {c : Cp} (h : c.e.toNat ≤ 52) (a : BitVec 64) : g_capops_From c a = true := by
  unfold g_capops_From
  simp only [g_Of_ok h, g_move_ok h, cond_true, Bool.cond_self]
theorem g_typed_ok {c : Cp} (h : c.e.toNat ≤ 52) (y : Cp) : g_capops_Typed c y = true := by
  unfold g_capops_Typed
  simp only [g_move_ok h, cond_true, Bool.cond_self]
theorem g_less_ok {y c : Cp} (h : y.e.toNat ≤ 52) (hc : c.e.toNat ≤ 52) : g_l05_less y c = true := by
  unfold g_l05_less
  simp only [g_Of_ok h, g_Of_ok hc, cond_true, Bool.cond_self]
/-- Permissions that are some of others. -/
theorem sub_iff (a b : BitVec 64) : (a &&& ~~~b == 0#64) = true ↔ ∀ i, a.getLsbD i = true → b.getLsbD i = true := by
  rw [beq_iff_eq]
  constructor
  · intro h i hi
    have := congrArg (fun x => x.getLsbD i) h
    simp only [BitVec.getLsbD_and, BitVec.getLsbD_not, BitVec.getLsbD_zero] at this
    have hlt : i < 64 := BitVec.lt_of_getLsbD hi
    simpa [hi, hlt] using this
  · intro h
    apply BitVec.eq_of_getLsbD_eq
    intro i hi
    simp only [BitVec.getLsbD_and, BitVec.getLsbD_not, BitVec.getLsbD_zero, hi, decide_true, Bool.true_and]
    cases ha : a.getLsbD i with
    | false => rfl
    | true => rw [h i ha]; rfl
theorem sub_trans {a b c : BitVec 64} (h1 : (a &&& ~~~b == 0#64) = true) (h2 : (b &&& ~~~c == 0#64) = true) : (a &&& ~~~c == 0#64) = true := by
  rw [sub_iff] at *
  exact fun i hi => h2 i (h1 i hi)
theorem sub_refl (a : BitVec 64) : (a &&& ~~~a == 0#64) = true := (sub_iff a a).2 fun _ h => h
theorem sub_and (a k : BitVec 64) : ((a &&& k) &&& ~~~a == 0#64) = true ∧ ((a &&& k) &&& ~~~k == 0#64) = true := by
  constructor <;> rw [sub_iff] <;> intro i hi <;> rw [BitVec.getLsbD_and, Bool.and_eq_true] at hi
  · exact hi.1
  · exact hi.2
end Go.Sx

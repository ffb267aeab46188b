/- Both interrupt controllers: loads and stores, as answers. -/
import Derived.Test.YtaieimjeffedhaaVl12y
import Derived.Test.YtaieimjeffedhaaPlPlr
import Derived.Test.YtaieimjeffedhaaPlPlc7
set_option linter.unusedSimpArgs false
set_option linter.unusedVariables false
set_option linter.unnecessarySimpa false
namespace Go.Sx
open Go
def v_ldV (p : PSt) (off size : BitVec 64) : BitVec 64 :=
  let w := v_plic_which off size
  cond (w.1 == 1#64) (BitVec.setWidth 64 (cell32 p.pr w.2.toNat)) (cond (w.1 == 2#64) (BitVec.setWidth 64 p.pe) (cond (w.1 == 3#64) (BitVec.setWidth 64 (cell32 p.en w.2.toNat)) (cond (w.1 == 4#64) (BitVec.setWidth 64 (cell32 p.th w.2.toNat))
    (cond (w.1 == 5#64) (BitVec.setWidth 64 (v_best p.pr (p.pe &&& cell32 p.en w.2.toNat) 0#32 0#32 1#32)) 0#64))))
def v_ldP (p : PSt) (off size : BitVec 64) : PSt := cond ((v_plic_which off size).1 == 5#64) (pClaim p (v_plic_which off size).2.toNat) p
def g_ldq : LdqS → Bool
  | .a pr _ _ en th _ _ => Nat.beq pr.length 32 && (Nat.beq en.length 2 && Nat.beq th.length 2)
def ldqF : LdqS → LdqR
  | .a pr pe se en th off size => .r (v_ldV ⟨pr, pe, se, en, th⟩ off size) (v_stB off size) (v_ldP ⟨pr, pe, se, en, th⟩ off size).pr (v_ldP ⟨pr, pe, se, en, th⟩ off size).pe (v_ldP ⟨pr, pe, se, en, th⟩ off size).se (v_ldP ⟨pr, pe, se, en, th⟩ off size).en (v_ldP ⟨pr, pe, se, en, th⟩ off size).th
theorem ldq_out (x : LdqS) (h : g_ldq x = true) : ldqStep x = some (ldqF x) := by
  cases x with
  | a pr pe se en th off size =>
    simp only [g_ldq, Bool.and_eq_true, beq_true] at h
    obtain ⟨h1, h2, h3⟩ := h
    simp only [ldqStep, ldqF, v_stB]
    unfold v_ldP v_ldV
    have hW := which_reg off size
    generalize v_plic_which off size = W at hW ⊢
    rcases hW with w | ⟨w1, w2, _, _⟩ | ⟨w, _, _⟩ | ⟨w, _, _⟩ | ⟨w, _, _⟩ | ⟨w, _, _⟩ | ⟨w, _, _⟩ | ⟨w, _, _⟩ | ⟨w, _, _⟩
    case prio => simp only [w1, nonneg_lt (show W.2.toNat < 2 ^ 63 by omega), decide_eq_true w2, BitVec.reduceBEq, cond_true, cond_false, Bool.and_true]; rfl
    case cl0 =>
      subst w
      have d0 : decide ((0#64).toNat < 2) = true := rfl
      have d1 : nonneg .i64 0#64 = true := rfl
      unfold pClaim
      simp only [BitVec.reduceBEq, d0, d1, Bool.and_true, cond_true, cond_false]
      show cond ((0#32).ult (v_best pr (pe &&& cell32 en 0) 0#32 0#32 1#32)) _ _ = _
      have e0 : (0#64).toNat = 0 := rfl
      simp only [e0]
      cases hc : (0#32).ult (v_best pr (pe &&& cell32 en 0) 0#32 0#32 1#32) <;> rfl
    case cl1 =>
      subst w
      have d0 : decide ((1#64).toNat < 2) = true := rfl
      have d1 : nonneg .i64 1#64 = true := rfl
      unfold pClaim
      simp only [BitVec.reduceBEq, d0, d1, Bool.and_true, cond_true, cond_false]
      show cond ((0#32).ult (v_best pr (pe &&& cell32 en 1) 0#32 0#32 1#32)) _ _ = _
      have e0 : (1#64).toNat = 1 := rfl
      simp only [e0]
      cases hc : (0#32).ult (v_best pr (pe &&& cell32 en 1) 0#32 0#32 1#32) <;> rfl
    all_goals (subst w; rfl)
/-! ### the document's -/
/-- Behind a claim. -/
def xClaim (L : List (List AV)) (f : Nat → Bool) : List (List AV) :=
  let s := (v_xb L f).toNat
  let L1 := L.set s (xRow (xP L s) false (xV L s) (xA L s) (xB L s))
  cond ((0#64).slt (v_xb L f)) (L1.set s (xRow (xP L1 s) (xQ L1 s) true (xA L1 s) (xB L1 s))) L
def xEn (L : List (List AV)) (c : BitVec 64) : Nat → Bool := cond (c == 0#64) (xA L) (xB L)
def v_xldV (L T : List (List AV)) (off size : BitVec 64) : BitVec 64 :=
  let w := v_plic_which off size
  cond (w.1 == 1#64) (xP L w.2.toNat) (cond (w.1 == 2#64) (v_xi (xQ L) 0#64) (cond (w.1 == 3#64) (v_xi (xEn L w.2) 0#64) (cond (w.1 == 4#64) (xT T w.2.toNat) (cond (w.1 == 5#64) (v_xb L (xEn L w.2)) 0#64))))
def v_xldL (L : List (List AV)) (off size : BitVec 64) : List (List AV) := cond ((v_plic_which off size).1 == 5#64) (xClaim L (xEn L (v_plic_which off size).2)) L
def g_xld : XldS → Bool
  | .a L _ _ _ => Nat.beq L.length 32
def xldF : XldS → XldR
  | .a L T off size => .r (v_xldV L T off size) (v_stB off size) (v_xldL L off size) T
theorem xbGo_lt (L : List (List AV)) (f : Nat → Bool) : ∀ (k : Nat) (be : BitVec 64), k ≤ 31 → be.toNat < 32 → (xbGo L f k be).toNat < 32
  | 0, be, _, h => h
  | k + 1, be, hk, h => by
    unfold xbGo
    refine xbGo_lt L f k _ (by omega) ?_
    cases xbC L f be (k + 1) with
    | true => simp only [cond_true]; rw [ofNat_toNat (by omega)]; omega
    | false => exact h
theorem v_xb_lt (L : List (List AV)) (f : Nat → Bool) : (v_xb L f).toNat < 32 := xbGo_lt L f 31 0#64 (by decide) (by decide)
theorem sext (x : BitVec 64) : BitVec.signExtend 64 x = x := BitVec.signExtend_eq x
set_option maxHeartbeats 1000000 in
theorem xld_out (x : XldS) (h : g_xld x = true) : xldStep x = some (xldF x) := by
  cases x with
  | a L T off size =>
    simp only [g_xld, beq_true] at h
    have hA := v_xb_lt L (xA L)
    have hB := v_xb_lt L (xB L)
    have fA : (fun s => ((L.getD s []).tail.tail.tail.headD AV.any).asBool) = xA L := rfl
    have fB : (fun s => ((L.getD s []).tail.tail.tail.tail.headD AV.any).asBool) = xB L := rfl
    have fQ : (fun s => ((L.getD s []).tail.headD AV.any).asBool) = xQ L := rfl
    simp only [xldStep, fA, fB, fQ, sext, List.length_set, h, nonneg_lt (show (v_xb L (xA L)).toNat < 2 ^ 63 by omega), nonneg_lt (show (v_xb L (xB L)).toNat < 2 ^ 63 by omega), decide_eq_true hA, decide_eq_true hB, Bool.and_true, cond_true]
    show _ = some (XldR.r (v_xldV L T off size) (v_stB off size) (v_xldL L off size) T)
    unfold v_xldV v_xldL v_stB
    dsimp only
    rw [which_eq, BitVec.sle_eq_not_slt]
    cases hs : (!size == 4#64) with
    | true => rfl
    | false =>
      by_cases c1 : off = 4096#64
      · subst c1; simp only [BitVec.reduceSLT, BitVec.reduceSRem, BitVec.reduceBEq, cond_true, cond_false, Bool.not_false, Bool.and_false, Bool.false_and] <;> rfl
      by_cases c2 : off = 8192#64
      · subst c2; simp only [BitVec.reduceSLT, BitVec.reduceSRem, BitVec.reduceBEq, cond_true, cond_false, Bool.not_false, Bool.and_false, Bool.false_and] <;> rfl
      by_cases c3 : off = 8320#64
      · subst c3; simp only [BitVec.reduceSLT, BitVec.reduceSRem, BitVec.reduceBEq, cond_true, cond_false, Bool.not_false, Bool.and_false, Bool.false_and] <;> rfl
      by_cases c4 : off = 2097152#64
      · subst c4; simp only [BitVec.reduceSLT, BitVec.reduceSRem, BitVec.reduceBEq, cond_true, cond_false, Bool.not_false, Bool.and_false, Bool.false_and] <;> rfl
      by_cases c5 : off = 2101248#64
      · subst c5; simp only [BitVec.reduceSLT, BitVec.reduceSRem, BitVec.reduceBEq, cond_true, cond_false, Bool.not_false, Bool.and_false, Bool.false_and] <;> rfl
      by_cases c6 : off = 2097156#64
      · subst c6; simp only [BitVec.reduceSLT, BitVec.reduceSRem, BitVec.reduceBEq, cond_true, cond_false, Bool.not_false, Bool.and_false, Bool.false_and, xEn]
        unfold xClaim
        cases hc : (0#64).slt (v_xb L (xA L)) <;> rfl
      by_cases c7 : off = 2101252#64
      · subst c7; simp only [BitVec.reduceSLT, BitVec.reduceSRem, BitVec.reduceBEq, cond_true, cond_false, Bool.not_false, Bool.and_false, Bool.false_and, xEn]
        unfold xClaim
        cases hc : (0#64).slt (v_xb L (xB L)) <;> rfl
      simp only [beq_eq_false_iff_ne.2 c1, beq_eq_false_iff_ne.2 c2, beq_eq_false_iff_ne.2 c3, beq_eq_false_iff_ne.2 c4, beq_eq_false_iff_ne.2 c5, beq_eq_false_iff_ne.2 c6, beq_eq_false_iff_ne.2 c7, cond_false]
      cases h0 : off.slt 0#64 with
      | true => rfl
      | false =>
        simp only [Bool.not_false, cond_true, cond_false]
        cases h1 : off.slt 128#64 with
        | false => rfl
        | true =>
          cases h2 : (off.srem 4#64 == 0#64) with
          | false => rfl
          | true =>
            have hW := which_reg off size
            rw [which_eq, hs, h0, h1, h2] at hW
            simp only [cond_true, cond_false, Bool.and_true] at hW
            rcases hW with w | ⟨w1, w2, _, _⟩ | ⟨w, _, _⟩ | ⟨w, _, _⟩ | ⟨w, _, _⟩ | ⟨w, _, _⟩ | ⟨w, _, _⟩ | ⟨w, _, _⟩ | ⟨w, _, _⟩
            case prio =>
              have w3 : (off.sdiv 4#64).toNat < 32 := w2
              simp only [nonneg_lt (show (off.sdiv 4#64).toNat < 2 ^ 63 by omega), decide_eq_true w3, Bool.and_true, cond_true]; rfl
            all_goals (have w' := congrArg Prod.fst w; dsimp only at w'; exact absurd w' (by decide))
/-- Behind a completion. -/
def xDone (L : List (List AV)) (f : Nat → Bool) (v : BitVec 64) : List (List AV) :=
  let m := BitVec.setWidth 64 (v % 4294967296#64)
  cond ((v % 4294967296#64).ult 32#64) (cond (f m.toNat) (L.set m.toNat (xRow (xP L m.toNat) (xQ L m.toNat) false (xA L m.toNat) (xB L m.toNat))) L) L
def v_xstL (L : List (List AV)) (off size v : BitVec 64) : List (List AV) :=
  let w := v_plic_which off size
  cond (w.1 == 1#64) (cond ((0#64).slt w.2) (L.set w.2.toNat (xRow (BitVec.setWidth 64 (v % 8#64)) (xQ L w.2.toNat) (xV L w.2.toNat) (xA L w.2.toNat) (xB L w.2.toNat))) L)
    (cond (w.1 == 3#64) (cond (w.2 == 0#64) (v_xeA L v 1#64) (v_xeB L v 1#64)) (cond (w.1 == 5#64) (xDone L (xEn L w.2) v) L))
def v_xstT (T : List (List AV)) (off size v : BitVec 64) : List (List AV) :=
  let w := v_plic_which off size
  cond (w.1 == 4#64) (T.set w.2.toNat [.int .i64 (BitVec.setWidth 64 (v % 8#64))]) T
def g_xst : XstS → Bool
  | .a L T _ _ _ => Nat.beq L.length 32 && Nat.beq T.length 2
def xstF : XstS → XstR
  | .a L T off size v => .r (v_stB off size) (v_xstL L off size v) (v_xstT T off size v)
set_option maxHeartbeats 1000000 in
theorem xst_out (x : XstS) (h : g_xst x = true) : xstStep x = some (xstF x) := by
  cases x with
  | a L T off size v =>
    simp only [g_xst, Bool.and_eq_true, beq_true] at h
    obtain ⟨h, hT⟩ := h
    have n32 : (L.length).beq 32 = true := by rw [h]; rfl
    have d0 : decide (0 < T.length) = true := by rw [hT]; rfl
    have d1 : decide (1 < T.length) = true := by rw [hT]; rfl
    have fA : ∀ s, ((L.getD s []).tail.tail.tail.headD AV.any).asBool = xA L s := fun _ => rfl
    have fB : ∀ s, ((L.getD s []).tail.tail.tail.tail.headD AV.any).asBool = xB L s := fun _ => rfl
    have fQ : ∀ s, ((L.getD s []).tail.headD AV.any).asBool = xQ L s := fun _ => rfl
    have fV : ∀ s, ((L.getD s []).tail.tail.headD AV.any).asBool = xV L s := fun _ => rfl
    have fP : ∀ s, asI64 ((L.getD s []).headD AV.any) = xP L s := fun _ => rfl
    have hD : ∀ f : Nat → Bool, (cond ((v % 4294967296#64).ult 32#64) (cond (nonneg IntKind.i64 (BitVec.setWidth 64 (v % 4294967296#64)) && decide ((BitVec.setWidth 64 (v % 4294967296#64)).toNat < 32))
        (cond (decide ((BitVec.setWidth 64 (v % 4294967296#64)).toNat < 32)) (cond (f (BitVec.setWidth 64 (v % 4294967296#64)).toNat) (cond (nonneg IntKind.i64 (BitVec.setWidth 64 (v % 4294967296#64)) && decide ((BitVec.setWidth 64 (v % 4294967296#64)).toNat < 32))
        (cond (decide ((BitVec.setWidth 64 (v % 4294967296#64)).toNat < 32) && decide ((BitVec.setWidth 64 (v % 4294967296#64)).toNat < L.length))
        (some (XstR.r true (L.set (BitVec.setWidth 64 (v % 4294967296#64)).toNat [AV.int IntKind.i64 (xP L (BitVec.setWidth 64 (v % 4294967296#64)).toNat), AV.bool (xQ L (BitVec.setWidth 64 (v % 4294967296#64)).toNat), AV.bool false, AV.bool (xA L (BitVec.setWidth 64 (v % 4294967296#64)).toNat), AV.bool (xB L (BitVec.setWidth 64 (v % 4294967296#64)).toNat)]) T)) none) none) (some (XstR.r true L T))) none) none) (some (XstR.r true L T)))
        = some (XstR.r true (xDone L f v) T) := by
      intro f
      unfold xDone
      cases hu : (v % 4294967296#64).ult 32#64 with
      | false => rfl
      | true =>
        have hm : (BitVec.setWidth 64 (v % 4294967296#64)).toNat < 32 := by
          rw [BitVec.setWidth_eq]
          rw [BitVec.ult_eq_decide, decide_eq_true_eq] at hu
          exact hu
        simp only [h, nonneg_lt (show (BitVec.setWidth 64 (v % 4294967296#64)).toNat < 2 ^ 63 by omega), decide_eq_true hm, Bool.and_true, cond_true]
        cases f (BitVec.setWidth 64 (v % 4294967296#64)).toNat <;> rfl
    simp only [xstStep, fA, fB, fQ, fV, fP]
    simp only [hD (xA L), hD (xB L), n32, d0, d1, Bool.and_true, cond_true]
    show _ = some (XstR.r (v_stB off size) (v_xstL L off size v) (v_xstT T off size v))
    unfold v_xstL v_xstT v_stB
    dsimp only
    rw [which_eq, BitVec.sle_eq_not_slt]
    cases hs : (!size == 4#64) with
    | true => rfl
    | false =>
      by_cases c1 : off = 4096#64
      · subst c1; simp only [BitVec.reduceSLT, BitVec.reduceSRem, BitVec.reduceBEq, cond_true, cond_false, Bool.not_false, Bool.and_false, Bool.false_and] <;> rfl
      by_cases c2 : off = 8192#64
      · subst c2; simp only [BitVec.reduceSLT, BitVec.reduceSRem, BitVec.reduceBEq, cond_true, cond_false, Bool.not_false, Bool.and_false, Bool.false_and] <;> rfl
      by_cases c3 : off = 8320#64
      · subst c3; simp only [BitVec.reduceSLT, BitVec.reduceSRem, BitVec.reduceBEq, cond_true, cond_false, Bool.not_false, Bool.and_false, Bool.false_and] <;> rfl
      by_cases c4 : off = 2097152#64
      · subst c4; simp only [BitVec.reduceSLT, BitVec.reduceSRem, BitVec.reduceBEq, cond_true, cond_false, Bool.not_false, Bool.and_false, Bool.false_and] <;> rfl
      by_cases c5 : off = 2101248#64
      · subst c5; simp only [BitVec.reduceSLT, BitVec.reduceSRem, BitVec.reduceBEq, cond_true, cond_false, Bool.not_false, Bool.and_false, Bool.false_and] <;> rfl
      by_cases c6 : off = 2097156#64
      · subst c6; simp only [BitVec.reduceSLT, BitVec.reduceSRem, BitVec.reduceBEq, cond_true, cond_false, Bool.not_false, Bool.and_false, Bool.false_and, xEn] <;> rfl
      by_cases c7 : off = 2101252#64
      · subst c7; simp only [BitVec.reduceSLT, BitVec.reduceSRem, BitVec.reduceBEq, cond_true, cond_false, Bool.not_false, Bool.and_false, Bool.false_and, xEn] <;> rfl
      simp only [beq_eq_false_iff_ne.2 c1, beq_eq_false_iff_ne.2 c2, beq_eq_false_iff_ne.2 c3, beq_eq_false_iff_ne.2 c4, beq_eq_false_iff_ne.2 c5, beq_eq_false_iff_ne.2 c6, beq_eq_false_iff_ne.2 c7, cond_false]
      cases h0 : off.slt 0#64 with
      | true => rfl
      | false =>
        simp only [Bool.not_false, cond_true, cond_false]
        cases h1 : off.slt 128#64 with
        | false => rfl
        | true =>
          cases h2 : (off.srem 4#64 == 0#64) with
          | false => rfl
          | true =>
            have hW := which_reg off size
            rw [which_eq, hs, h0, h1, h2] at hW
            simp only [cond_true, cond_false, Bool.and_true] at hW
            rcases hW with w | ⟨w1, w2, _, w4⟩ | ⟨w, _, _⟩ | ⟨w, _, _⟩ | ⟨w, _, _⟩ | ⟨w, _, _⟩ | ⟨w, _, _⟩ | ⟨w, _, _⟩ | ⟨w, _, _⟩
            case prio =>
              have w3 : (off.sdiv 4#64).toNat < 32 := w2
              have w5 : off.toNat = 4 * (off.sdiv 4#64).toNat := w4
              have e0 : (0#64).slt off = (0#64).slt (off.sdiv 4#64) := by
                rw [slt_nat (by decide) (by omega), slt_nat (by decide) (by omega), w5]
                simp
              simp only [h, nonneg_lt (show (off.sdiv 4#64).toNat < 2 ^ 63 by omega), decide_eq_true w3, Bool.and_true, cond_true, e0]
              cases (0#64).slt (off.sdiv 4#64) <;> rfl
            all_goals (have w' := congrArg Prod.fst w; dsimp only at w'; exact absurd w' (by decide))
end Go.Sx

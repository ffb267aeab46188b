/- Plain laws, in one text. -/
import Derived.Test.YtpofnfcbgamhpaaVa19b
import Derived.Test.YtpofnfcbgamhpaaPlHart
import Derived.Test.YtpofnfcbgamhpaaPlCap4
import Derived.Test.YtpofnfcbgamhpaaPlCap
set_option linter.unusedSimpArgs false
set_option linter.unusedVariables false
set_option linter.unnecessarySimpa false
/- Traps: what is taken, and left; in plain words. -/
namespace Go.Sx
open Go
set_option maxHeartbeats 1000000
theorem open_e (c : Cp) : (v_trap_open c).e = c.e := by unfold v_trap_open; cases (c.ty == 262142#64) <;> rfl
/-- A processor's part whose capabilities are in their places, and its privilege one that is. -/
structure EnOK (s : En) : Prop where
  pr : s.p = 0#64 ∨ s.p = 1#64 ∨ s.p = 3#64
  ks : InPl s.stcc
  km : InPl s.mtcc
  kse : InPl s.sepcc
  kme : InPl s.mepcc
  kpc : InPl s.pcc
theorem rEn_p (h : Ht) : (rEn h).p = 0#64 ∨ (rEn h).p = 1#64 ∨ (rEn h).p = 3#64 := by
  have e : (rEn h).p = cond (!h.e 0 == 0#64) (cond (!h.e 0 == 1#64) 3#64 (h.e 0)) (h.e 0) := rfl
  rw [e]
  cases h0 : (h.e 0 == 0#64) with
  | true => exact .inl (by simpa using h0)
  | false =>
    cases h1 : (h.e 0 == 1#64) with
    | true => exact .inr (.inl (by simpa using h1))
    | false => exact .inr (.inr rfl)
theorem rEn_ok (h : Ht) : EnOK (rEn h) := ⟨rEn_p h, inpl_right _, inpl_right _, inpl_right _, inpl_right _, inpl_right _⟩
theorem inpl_open {c : Cp} (h : InPl c) : InPl (v_trap_open c) := by
  unfold v_trap_open
  cases (c.ty == 262142#64)
  · exact ⟨h.e, h.b, h.t⟩
  · exact ⟨h.e, h.b, h.t⟩
theorem pick64 (c : BitVec 64) : (v_kit_Pick c 64#64).toNat < 64 := pickLt c 64#64 (by decide) (by decide)
theorem g_enter_ok {s : En} (hs : EnOK s) {c : BitVec 64} (hc : c.toNat < 64) (i : Bool) (v : BitVec 64) : g_trap_Enter s c i v = true := by
  have h1 : ∀ a, g_capops_Move (v_trap_open s.stcc) a = true := fun a => g_move_ok (by rw [open_e]; exact hs.ks.e) a
  have h2 : ∀ a, g_capops_Move (v_trap_open s.mtcc) a = true := fun a => g_move_ok (by rw [open_e]; exact hs.km.e) a
  unfold g_trap_Enter
  simp only [h1, h2, nonnegI c (Nat.lt_trans hc (by decide)), cond_true, Bool.cond_self]
theorem g_leave_ok {s : En} (hs : EnOK s) (b : Bool) : g_trap_Leave s b = true := by
  have h1 : ∀ a, g_capops_Move (v_trap_open s.sepcc) a = true := fun a => g_move_ok (by rw [open_e]; exact hs.kse.e) a
  have h2 : ∀ a, g_capops_Move (v_trap_open s.mepcc) a = true := fun a => g_move_ok (by rw [open_e]; exact hs.kme.e) a
  unfold g_trap_Leave
  simp only [h1, h2, cond_true, Bool.cond_self]
/-- Is a trap delegated? -/
def dlg (s : En) (c : BitVec 64) (i : Bool) : Bool := s.p.sle 1#64 && (cond i s.mi s.md) >>> min c.toNat 64 &&& 1#64 == 1#64
def toA (t : Cp) (c : BitVec 64) (i : Bool) : BitVec 64 := cond i (cond (t.ad &&& 1#64 == 1#64) ((t.ad &&& 18446744073709551612#64) + 4#64 * c) (t.ad &&& 18446744073709551612#64)) (t.ad &&& 18446744073709551612#64)
def noA (c : BitVec 64) (i : Bool) : BitVec 64 := cond i (c ||| 9223372036854775808#64) c
def mSup (m p : BitVec 64) : BitVec 64 := v_trap_lay (v_trap_lay (v_trap_lay m 5#64 1#64 (m >>> 1)) 1#64 1#64 0#64) 8#64 1#64 p
def mMac (m p : BitVec 64) : BitVec 64 := v_trap_lay (v_trap_lay (v_trap_lay m 7#64 1#64 (m >>> 3)) 3#64 1#64 0#64) 11#64 2#64 p
def enS (s : En) (c : BitVec 64) (i : Bool) (v : BitVec 64) : En := { pcc := v_capops_Move (v_trap_open s.stcc) (toA s.stcc c i), sepcc := s.pcc, mepcc := s.mepcc, stcc := s.stcc, mtcc := s.mtcc, p := 1#64, m := mSup s.m s.p, md := s.md, mi := s.mi, mc := s.mc, sc := noA c i, mt := s.mt, st := v, w := false }
def enM (s : En) (c : BitVec 64) (i : Bool) (v : BitVec 64) : En := { pcc := v_capops_Move (v_trap_open s.mtcc) (toA s.mtcc c i), sepcc := s.sepcc, mepcc := s.pcc, stcc := s.stcc, mtcc := s.mtcc, p := 3#64, m := mMac s.m s.p, md := s.md, mi := s.mi, mc := noA c i, sc := s.sc, mt := v, st := s.st, w := false }
theorem enter_eq (s : En) {c : BitVec 64} (hc : c.toNat < 64) (i : Bool) (v : BitVec 64) : v_trap_Enter s c i v = cond (dlg s c i) (enS s c i v) (enM s c i v) := by
  unfold v_trap_Enter dlg enS enM toA noA mSup mMac
  simp only [nonnegI c (Nat.lt_trans hc (by decide)), cond_true, BitVec.signExtend_eq]
  cases i <;> simp only [cond_true, cond_false] <;> cases s.p.sle 1#64 <;> simp only [cond_true, cond_false, Bool.true_and, Bool.false_and] <;> (try cases (s.mi >>> min c.toNat 64 &&& 1#64 == 1#64)) <;> (try cases (s.md >>> min c.toNat 64 &&& 1#64 == 1#64)) <;> (try cases (s.stcc.ad &&& 1#64 == 1#64)) <;> (try cases (s.mtcc.ad &&& 1#64 == 1#64)) <;> rfl
/-- What is left of mstatus behind a trap. -/
def lvp (s : En) (b : Bool) : BitVec 64 := cond b (s.m >>> 8 &&& 1#64) (s.m >>> 11 &&& 3#64)
def lvm (s : En) (b : Bool) : BitVec 64 := cond b (v_trap_lay (v_trap_lay (v_trap_lay s.m 1#64 1#64 (s.m >>> 5)) 5#64 1#64 1#64) 8#64 1#64 0#64) (v_trap_lay (v_trap_lay (v_trap_lay s.m 3#64 1#64 (s.m >>> 7)) 7#64 1#64 1#64) 11#64 2#64 0#64)
def lvF (s : En) (b : Bool) : Cp := cond b s.sepcc s.mepcc
theorem leave_eq (s : En) (b : Bool) : v_trap_Leave s b = { s with pcc := v_capops_Move (v_trap_open (lvF s b)) ((lvF s b).ad &&& 18446744073709551614#64), p := lvp s b, m := cond (lvp s b == 3#64) (lvm s b) (lvm s b &&& 18446744073709420543#64) } := by
  unfold v_trap_Leave lvp lvm lvF
  simp only [BitVec.setWidth_eq]
  cases b <;> simp only [cond_true, cond_false]
  · cases (s.m >>> 11 &&& 3#64 == 3#64) <;> rfl
  · cases (s.m >>> 8 &&& 1#64 == 3#64) <;> rfl
theorem delegates_plain (h : Ht) (cause : BitVec 64) (i : Bool) : t_l19_TrapDelegates h cause i = some (.bool true) := by
  unfold t_l19_TrapDelegates
  have hs := rEn_ok h
  have hc := pick64 cause
  have e0 : (v_l19_Right h).e 0 = (rEn h).p := rfl
  have e2 : (v_l19_Right h).e 2 = (rEn h).md := rfl
  have e3 : (v_l19_Right h).e 3 = (rEn h).mi := rfl
  have e8 : (v_l19_Right h).e 8 = (rEn h).mc := rfl
  have e9 : (v_l19_Right h).e 9 = (rEn h).sc := rfl
  simp only [e0, e2, e3, e8, e9]
  generalize rEn h = s at hs ⊢
  generalize v_kit_Pick cause 64#64 = c at hc ⊢
  simp only [g_enter_ok hs hc, enter_eq s hc, cond_true, BitVec.signExtend_eq, BitVec.setWidth_eq]
  have hb : ∀ x : BitVec 64, (x % 2#64 == 1#64) = (x &&& 1#64 == 1#64) := fun x => by
    have : x % 2#64 = x &&& 1#64 := by
      apply BitVec.eq_of_toNat_eq
      rw [BitVec.toNat_umod, BitVec.toNat_and]
      exact (Nat.and_one_is_mod x.toNat).symm
    rw [this]
  have hd : ∀ d, dlg s c i = d → s.p.slt 3#64 = s.p.sle 1#64 := fun d _ => by
    rcases hs.pr with e | e | e <;> rw [e] <;> decide
  have hp := hd _ rfl
  simp only [hp, hb]
  unfold dlg
  cases i <;> cases h1 : s.p.sle 1#64 <;> cases h2 : (s.mi >>> min c.toNat 64 &&& 1#64 == 1#64) <;> cases h3 : (s.md >>> min c.toNat 64 &&& 1#64 == 1#64) <;> simp [enS, enM, noA, h2, h3]
end Go.Sx

/- Bits laid into a number. -/
namespace Go.Sx
open Go
/-- A number with another's bits where a mask says so. -/
def layM (M v b : BitVec 64) : BitVec 64 := v &&& ~~~M ||| b &&& M
theorem layM_off {M k : BitVec 64} (h : M &&& k = 0#64) (v b : BitVec 64) : layM M v b &&& k = v &&& k := by
  apply BitVec.eq_of_getLsbD_eq
  intro i hi
  have h' : (M &&& k).getLsbD i = false := by rw [h]; simp
  simp only [BitVec.getLsbD_and] at h'
  simp only [layM, BitVec.getLsbD_and, BitVec.getLsbD_or, BitVec.getLsbD_not, hi, decide_true, Bool.true_and]
  revert h'
  cases v.getLsbD i <;> cases b.getLsbD i <;> cases M.getLsbD i <;> cases k.getLsbD i <;> decide
theorem layM_on {M k : BitVec 64} (h : M &&& k = k) (v b : BitVec 64) : layM M v b &&& k = b &&& k := by
  apply BitVec.eq_of_getLsbD_eq
  intro i hi
  have h' : (M &&& k).getLsbD i = k.getLsbD i := by rw [h]
  simp only [BitVec.getLsbD_and] at h'
  simp only [layM, BitVec.getLsbD_and, BitVec.getLsbD_or, BitVec.getLsbD_not, hi, decide_true, Bool.true_and]
  revert h'
  cases v.getLsbD i <;> cases b.getLsbD i <;> cases M.getLsbD i <;> cases k.getLsbD i <;> decide
theorem and_shl (b w : BitVec 64) (s : Nat) : (b &&& w) <<< s = (b <<< s) &&& (w <<< s) := by
  apply BitVec.eq_of_getLsbD_eq
  intro i hi
  simp only [BitVec.getLsbD_shiftLeft, BitVec.getLsbD_and]
  cases decide (i < 64) <;> cases decide (i < s) <;> simp
theorem lay_eq (v b : BitVec 64) (s w : BitVec 64) : v_trap_lay v s w b = layM ((1#64 <<< min w.toNat 64 - 1#64) <<< min s.toNat 64) v (b <<< min s.toNat 64) := by
  unfold v_trap_lay layM
  rw [and_shl]
theorem lay1 (v b : BitVec 64) : v_trap_lay v 1#64 1#64 b = layM 2#64 v (b <<< 1) := lay_eq v b _ _
theorem lay3 (v b : BitVec 64) : v_trap_lay v 3#64 1#64 b = layM 8#64 v (b <<< 3) := lay_eq v b _ _
theorem lay5 (v b : BitVec 64) : v_trap_lay v 5#64 1#64 b = layM 32#64 v (b <<< 5) := lay_eq v b _ _
theorem lay7 (v b : BitVec 64) : v_trap_lay v 7#64 1#64 b = layM 128#64 v (b <<< 7) := lay_eq v b _ _
theorem lay8 (v b : BitVec 64) : v_trap_lay v 8#64 1#64 b = layM 256#64 v (b <<< 8) := lay_eq v b _ _
theorem lay11 (v b : BitVec 64) : v_trap_lay v 11#64 2#64 b = layM 6144#64 v (b <<< 11) := lay_eq v b _ _
theorem xor_and0 {x y k : BitVec 64} (h : x &&& k = y &&& k) : (x ^^^ y) &&& k = 0#64 := by
  apply BitVec.eq_of_getLsbD_eq
  intro i hi
  have h' := congrArg (fun z => z.getLsbD i) h
  simp only [BitVec.getLsbD_and] at h'
  simp only [BitVec.getLsbD_and, BitVec.getLsbD_xor]
  revert h'
  cases x.getLsbD i <;> cases y.getLsbD i <;> cases k.getLsbD i <;> simp
/-- A bit of a number, by the number's parts. -/
theorem bitAt (x : BitVec 64) (n : Nat) : x >>> n % 2#64 = cond (x.getLsbD n) 1#64 0#64 := by
  apply BitVec.eq_of_toNat_eq
  rw [BitVec.toNat_umod, BitVec.toNat_ushiftRight]
  have h : x.getLsbD n = x.toNat.testBit n := rfl
  rw [h, Nat.testBit, Nat.shiftRight_eq_div_pow, Nat.and_comm, Nat.and_one_is_mod]
  cases hm : (x.toNat / 2 ^ n % 2 != 0) with
  | true => simp at hm; simp; omega
  | false => simp at hm; simp; omega
theorem layM_bit (M v b : BitVec 64) (n : Nat) (h : n < 64) : (layM M v b).getLsbD n = cond (M.getLsbD n) (b.getLsbD n) (v.getLsbD n) := by
  simp only [layM, BitVec.getLsbD_and, BitVec.getLsbD_or, BitVec.getLsbD_not, h, decide_true, Bool.true_and]
  cases v.getLsbD n <;> cases b.getLsbD n <;> cases M.getLsbD n <;> rfl
end Go.Sx

/- A trap turns of mstatus just the bits that are named (plain). -/
namespace Go.Sx
open Go
set_option maxHeartbeats 1000000
theorem mSup_off (m p : BitVec 64) : mSup m p &&& 18446744073709551325#64 = m &&& 18446744073709551325#64 := by
  unfold mSup
  rw [lay8, layM_off (by decide), lay1, layM_off (by decide), lay5, layM_off (by decide)]
theorem mMac_off (m p : BitVec 64) : mMac m p &&& 18446744073709545335#64 = m &&& 18446744073709545335#64 := by
  unfold mMac
  rw [lay11, layM_off (by decide), lay3, layM_off (by decide), lay7, layM_off (by decide)]
theorem lvm_s (s : En) : lvm s true = layM 256#64 (layM 32#64 (layM 2#64 s.m ((s.m >>> 5) <<< 1)) (1#64 <<< 5)) (0#64 <<< 8) := by
  unfold lvm; rw [cond_true, lay8, lay5, lay1]
theorem lvm_m (s : En) : lvm s false = layM 6144#64 (layM 128#64 (layM 8#64 s.m ((s.m >>> 7) <<< 3)) (1#64 <<< 7)) (0#64 <<< 11) := by
  unfold lvm; rw [cond_false, lay11, lay7, lay3]
def kOf (b : Bool) : BitVec 64 := cond b 18446744073709420253#64 18446744073709414263#64
def bkOf (b : Bool) : BitVec 64 := cond b 32#64 128#64
theorem lvm_off (s : En) (b : Bool) : lvm s b &&& kOf b = s.m &&& kOf b := by
  cases b
  · rw [lvm_m]; unfold kOf; rw [cond_false, layM_off (by decide), layM_off (by decide), layM_off (by decide)]
  · rw [lvm_s]; unfold kOf; rw [cond_true, layM_off (by decide), layM_off (by decide), layM_off (by decide)]
theorem lvm_back (s : En) (b : Bool) : lvm s b &&& bkOf b = bkOf b := by
  cases b
  · rw [lvm_m]; unfold bkOf; rw [cond_false, layM_off (by decide), layM_on (by decide)]; decide
  · rw [lvm_s]; unfold bkOf; rw [cond_true, layM_off (by decide), layM_on (by decide)]; decide
theorem lvm_17 (s : En) (b : Bool) : lvm s b >>> 17 % 2#64 = s.m >>> 17 % 2#64 := by
  rw [bitAt, bitAt]
  cases b
  · rw [lvm_m, layM_bit _ _ _ _ (by decide), layM_bit _ _ _ _ (by decide), layM_bit _ _ _ _ (by decide)]; rfl
  · rw [lvm_s, layM_bit _ _ _ _ (by decide), layM_bit _ _ _ _ (by decide), layM_bit _ _ _ _ (by decide)]; rfl
def lvm' (s : En) (b : Bool) : BitVec 64 := cond (lvp s b == 3#64) (lvm s b) (lvm s b &&& 18446744073709420543#64)
theorem lv_off (s : En) (b : Bool) : lvm' s b &&& kOf b = s.m &&& kOf b := by
  unfold lvm'
  cases (lvp s b == 3#64)
  · rw [cond_false, BitVec.and_assoc, show 18446744073709420543#64 &&& kOf b = kOf b by cases b <;> decide]; exact lvm_off s b
  · exact lvm_off s b
theorem lv_back (s : En) (b : Bool) : (lvm' s b &&& bkOf b == 0#64) = false := by
  have h : lvm' s b &&& bkOf b = bkOf b := by
    unfold lvm'
    cases (lvp s b == 3#64)
    · rw [cond_false, BitVec.and_assoc, show 18446744073709420543#64 &&& bkOf b = bkOf b by cases b <;> decide]; exact lvm_back s b
    · exact lvm_back s b
  rw [h]; cases b <;> decide
theorem lv_17 (s : En) (b : Bool) : (lvp s b == 3#64) = true → lvm' s b >>> 17 % 2#64 = s.m >>> 17 % 2#64 := fun h => by
  unfold lvm'; rw [h]; exact lvm_17 s b
theorem lv_17' (s : En) (b : Bool) : (lvp s b == 3#64) = false → lvm' s b >>> 17 % 2#64 = 0#64 := fun h => by
  unfold lvm'; rw [h, cond_false, bitAt, BitVec.getLsbD_and]
  rw [show (18446744073709420543#64).getLsbD 17 = false by decide, Bool.and_false]; rfl
theorem bits_plain (h : Ht) (cause : BitVec 64) (i sup : Bool) : t_l19_TrapBits h cause i sup = some (.bool true) := by
  unfold t_l19_TrapBits
  have hs := rEn_ok h
  have hc := pick64 cause
  have k1 : (v_l19_Right h).e 1 = (rEn h).m := rfl
  simp only [k1]
  generalize rEn h = s at hs ⊢
  generalize v_kit_Pick cause 64#64 = c at hc ⊢
  have lm : ∀ b, (v_trap_Leave s b).m = lvm' s b := fun b => by rw [leave_eq]; rfl
  have lp : ∀ b, (v_trap_Leave s b).p = lvp s b := fun b => by rw [leave_eq]
  have x1 : (((mSup s.m s.p ^^^ s.m) &&& 18446744073709551325#64) == 0#64) = true := by rw [xor_and0 (mSup_off _ _)]; rfl
  have x2 : (((mMac s.m s.p ^^^ s.m) &&& 18446744073709545335#64) == 0#64) = true := by rw [xor_and0 (mMac_off _ _)]; rfl
  have x3 : (((lvm' s true ^^^ s.m) &&& 18446744073709420253#64) == 0#64) = true := by rw [beq_iff_eq]; exact xor_and0 (lv_off s true)
  have x4 : (((lvm' s false ^^^ s.m) &&& 18446744073709414263#64) == 0#64) = true := by rw [beq_iff_eq]; exact xor_and0 (lv_off s false)
  have x5 : (lvm' s true &&& 32#64 == 0#64) = false := lv_back s true
  have x6 : (lvm' s false &&& 128#64 == 0#64) = false := lv_back s false
  have em : ∀ v, (v_trap_Enter s c i v).m = cond (dlg s c i) (mSup s.m s.p) (mMac s.m s.p) := fun v => by rw [enter_eq s hc]; cases dlg s c i <;> rfl
  have ep : ∀ v, (v_trap_Enter s c i v).p = cond (dlg s c i) 1#64 3#64 := fun v => by rw [enter_eq s hc]; cases dlg s c i <;> rfl
  simp only [g_enter_ok hs hc, g_leave_ok hs, lm, lp, em, ep, cond_true]
  have q : ∀ b, cond (lvp s b == 3#64) (cond (lvm' s b >>> 17 % 2#64 == s.m >>> 17 % 2#64) (some (AV.bool true)) (cond (!lvp s b == 3#64) (cond (lvm' s b >>> 17 % 2#64 == 0#64) (some (AV.bool true)) (some (AV.bool false))) (some (AV.bool false)))) (cond (!lvp s b == 3#64) (cond (lvm' s b >>> 17 % 2#64 == 0#64) (some (AV.bool true)) (some (AV.bool false))) (some (AV.bool false))) = some (.bool true) := fun b => by
    cases hq : (lvp s b == 3#64) with
    | true => rw [lv_17 s b hq]; simp
    | false => rw [lv_17' s b hq]; rfl
  simp only [q]
  cases dlg s c i <;> cases sup <;> simp only [cond_true, cond_false, x1, x2, x3, x4, x5, x6, Bool.not_true, Bool.not_false, beq_self_eq_true, show ((3#64 : BitVec 64) == 1#64) = false from rfl]
end Go.Sx

/- Traps that are taken, and left: the program's turns are the document's (plain). -/
namespace Go.Sx
open Go
set_option maxHeartbeats 1000000
theorem mod2 (x : BitVec 64) : x % 2#64 = x &&& 1#64 := by
  apply BitVec.eq_of_toNat_eq
  rw [BitVec.toNat_umod, BitVec.toNat_and]
  exact (Nat.and_one_is_mod x.toNat).symm
theorem open_same (c : Cp) : v_r19_Open c = v_trap_open c := rfl
theorem put_lay (v k x : BitVec 64) : v_r19_Put v k (x % 2#64) = v_trap_lay v k 1#64 x := by
  unfold v_r19_Put v_trap_lay
  rw [mod2, BitVec.signExtend_eq, show (1#64 <<< min (1#64).toNat 64 - 1#64 : BitVec 64) = 1#64 by decide]
theorem put0 (v k : BitVec 64) : v_r19_Put v k 0#64 = v_trap_lay v k 1#64 0#64 := put_lay v k 0#64
theorem put1 (v k : BitVec 64) : v_r19_Put v k 1#64 = v_trap_lay v k 1#64 1#64 := put_lay v k 1#64
theorem bitS (v k : BitVec 64) : v_r19_Bit v k = v >>> min k.toNat 64 % 2#64 := by
  unfold v_r19_Bit; rw [BitVec.signExtend_eq]
theorem shl2 (x : BitVec 64) : x >>> 1 <<< 1 = x &&& 18446744073709551614#64 := by
  apply BitVec.eq_of_getLsbD_eq
  intro i hi
  have h : ∀ j : Fin 64, (18446744073709551614#64).getLsbD j.val = !decide (j.val < 1) := by decide
  have h := h ⟨i, hi⟩
  simp only at h
  simp only [BitVec.getLsbD_shiftLeft, BitVec.getLsbD_ushiftRight, BitVec.getLsbD_and, hi, decide_true, Bool.true_and, h]
  by_cases h1 : i < 1
  · simp [h1]
  · rw [show 1 + (i - 1) = i by omega]; simp [h1]
theorem shl4 (x : BitVec 64) : x >>> 2 <<< 2 = x &&& 18446744073709551612#64 := by
  apply BitVec.eq_of_getLsbD_eq
  intro i hi
  have h : ∀ j : Fin 64, (18446744073709551612#64).getLsbD j.val = !decide (j.val < 2) := by decide
  have h := h ⟨i, hi⟩
  simp only at h
  simp only [BitVec.getLsbD_shiftLeft, BitVec.getLsbD_ushiftRight, BitVec.getLsbD_and, hi, decide_true, Bool.true_and, h]
  by_cases h1 : i < 2
  · simp [h1]
  · rw [show 2 + (i - 2) = i by omega]; simp [h1]
theorem put17 (v : BitVec 64) : v_r19_Put v 17#64 0#64 = v &&& 18446744073709420543#64 := by
  show v &&& ~~~(1#64 <<< 17) ||| 0#64 <<< 17 = _
  rw [show (0#64 <<< 17 : BitVec 64) = 0#64 by decide, BitVec.or_zero, show ~~~(1#64 <<< 17 : BitVec 64) = 18446744073709420543#64 by decide]
theorem lay17 (v : BitVec 64) : v_trap_lay v 17#64 1#64 0#64 = v &&& 18446744073709420543#64 := by rw [← put0, put17]
/-- Two bits, one by one. -/
theorem put2 (m a b p : BitVec 64) (h : (a = 0#64 ∧ b = 0#64 ∧ p = 0#64) ∨ (a = 1#64 ∧ b = 0#64 ∧ p = 1#64) ∨ (a = 1#64 ∧ b = 1#64 ∧ p = 3#64)) :
    v_r19_Put (v_r19_Put m 11#64 a) 12#64 b = v_trap_lay m 11#64 2#64 p := by
  show (m &&& ~~~(1#64 <<< 11) ||| a <<< 11) &&& ~~~(1#64 <<< 12) ||| b <<< 12 = m &&& ~~~((1#64 <<< 2 - 1#64) <<< 11) ||| (p &&& 1#64 <<< 2 - 1#64) <<< 11
  have key : ∀ (c1 c2 c3 : BitVec 64), (∀ (i : Fin 64) (f : Bool), ((f && (~~~(1#64 <<< 11) : BitVec 64).getLsbD i.val || c1.getLsbD i.val) && (~~~(1#64 <<< 12) : BitVec 64).getLsbD i.val || c2.getLsbD i.val) = (f && (~~~((1#64 <<< 2 - 1#64) <<< 11) : BitVec 64).getLsbD i.val || c3.getLsbD i.val)) → (m &&& ~~~(1#64 <<< 11) ||| c1) &&& ~~~(1#64 <<< 12) ||| c2 = m &&& ~~~((1#64 <<< 2 - 1#64) <<< 11) ||| c3 := by
    intro c1 c2 c3 hk
    apply BitVec.eq_of_getLsbD_eq
    intro i hi
    have := hk ⟨i, hi⟩ (m.getLsbD i)
    simp only at this
    rw [BitVec.getLsbD_or, BitVec.getLsbD_and, BitVec.getLsbD_or, BitVec.getLsbD_and, BitVec.getLsbD_or, BitVec.getLsbD_and]
    exact this
  rcases h with ⟨rfl, rfl, rfl⟩ | ⟨rfl, rfl, rfl⟩ | ⟨rfl, rfl, rfl⟩ <;> exact key _ _ _ (by decide +kernel)
theorem lvp_eq (m : BitVec 64) : m >>> 11 % 2#64 + 2#64 * (m >>> 12 % 2#64) = m >>> 11 &&& 3#64 := by
  apply BitVec.eq_of_toNat_eq
  have h3 : (m >>> 11 &&& 3#64).toNat = m.toNat / 2048 % 4 := by
    rw [BitVec.toNat_and, BitVec.toNat_ushiftRight, Nat.shiftRight_eq_div_pow]
    exact Nat.and_two_pow_sub_one_eq_mod (m.toNat / 2 ^ 11) 2
  rw [h3]
  simp only [BitVec.toNat_add, BitVec.toNat_mul, BitVec.toNat_umod, BitVec.toNat_ushiftRight, Nat.shiftRight_eq_div_pow, BitVec.toNat_ofNat, Nat.reducePow, Nat.reduceMod]
  omega
theorem leave_same {s : En} (hs : EnOK s) (b : Bool) : v_r19_Leave s b = v_trap_Leave s b := by
  have e1 : v_r05_Move (v_trap_open s.sepcc) (s.sepcc.ad &&& 18446744073709551614#64) = v_capops_Move (v_trap_open s.sepcc) (s.sepcc.ad &&& 18446744073709551614#64) := move_eq (inpl_open hs.kse) _
  have e2 : v_r05_Move (v_trap_open s.mepcc) (s.mepcc.ad &&& 18446744073709551614#64) = v_capops_Move (v_trap_open s.mepcc) (s.mepcc.ad &&& 18446744073709551614#64) := move_eq (inpl_open hs.kme) _
  rw [leave_eq]
  unfold v_r19_Leave lvp lvm lvF
  simp only [BitVec.setWidth_eq, open_same, shl2, put0, put1, lay17]
  have b8 : v_r19_Bit s.m 8#64 = s.m >>> 8 &&& 1#64 := (bitS _ _).trans (mod2 _)
  have p2 : (s.m >>> 8 &&& 1#64 == 3#64) = false := by
    rw [beq_eq_false_iff_ne]; intro h
    have := congrArg (fun z : BitVec 64 => z.getLsbD 1) h
    simp only [BitVec.getLsbD_and] at this
    rw [show (1#64).getLsbD 1 = false by decide, Bool.and_false] at this
    exact absurd this (by decide)
  have bp : v_r19_Bit s.m 11#64 + 2#64 * v_r19_Bit s.m 12#64 = s.m >>> 11 &&& 3#64 := by
    rw [bitS, bitS]; exact lvp_eq s.m
  have l5 : v_r19_Put s.m 1#64 (v_r19_Bit s.m 5#64) = v_trap_lay s.m 1#64 1#64 (s.m >>> 5) := by rw [bitS]; exact put_lay _ _ _
  have l7 : v_r19_Put s.m 3#64 (v_r19_Bit s.m 7#64) = v_trap_lay s.m 3#64 1#64 (s.m >>> 7) := by rw [bitS]; exact put_lay _ _ _
  have q : ∀ m : BitVec 64, v_trap_lay (v_trap_lay m 11#64 1#64 0#64) 12#64 1#64 0#64 = v_trap_lay m 11#64 2#64 0#64 := fun m => by
    have := put2 m 0#64 0#64 0#64 (.inl ⟨rfl, rfl, rfl⟩)
    rw [put0, put0] at this; exact this
  simp only [b8, bp, l5, l7, q, e1, e2]
  cases b <;> simp only [cond_true, cond_false, p2]
  cases (s.m >>> 11 &&& 3#64 == 3#64) <;> rfl
theorem at_same {c : Cp} (h : InPl c) (n : BitVec 64) (i : Bool) : v_r19_at c n i = v_capops_Move (v_trap_open c) (toA c n i) := by
  have e : ∀ a, v_r05_Move (v_trap_open c) a = v_capops_Move (v_trap_open c) a := fun a => move_eq (inpl_open h) a
  unfold v_r19_at toA
  simp only [open_same, e, shl4, mod2, BitVec.signExtend_eq]
  cases i <;> cases (c.ad &&& 1#64 == 1#64) <;> rfl
theorem enter_same {s : En} (hs : EnOK s) {c : BitVec 64} (hc : c.toNat < 64) (i : Bool) (v : BitVec 64) : v_r19_Enter s c i v = v_trap_Enter s c i v := by
  have l1 : v_r19_Put s.m 5#64 (v_r19_Bit s.m 1#64) = v_trap_lay s.m 5#64 1#64 (s.m >>> 1) := by rw [bitS]; exact put_lay _ _ _
  have l3 : v_r19_Put s.m 7#64 (v_r19_Bit s.m 3#64) = v_trap_lay s.m 7#64 1#64 (s.m >>> 3) := by rw [bitS]; exact put_lay _ _ _
  have l8 : s.p.sle 1#64 = true → ∀ m, v_r19_Put m 8#64 s.p = v_trap_lay m 8#64 1#64 s.p := fun h m => by
    rcases hs.pr with e | e | e
    · rw [e]; exact put0 _ _
    · rw [e]; exact put1 _ _
    · rw [e] at h; exact absurd h (by decide)
  have l11 : ∀ m, v_r19_Put (v_r19_Put m 11#64 (s.p.srem 2#64)) 12#64 (s.p.sdiv 2#64) = v_trap_lay m 11#64 2#64 s.p := fun m => by
    rcases hs.pr with e | e | e
    · rw [e]; exact put2 m _ _ _ (.inl ⟨by decide, by decide, rfl⟩)
    · rw [e]; exact put2 m _ _ _ (.inr (.inl ⟨by decide, by decide, rfl⟩))
    · rw [e]; exact put2 m _ _ _ (.inr (.inr ⟨by decide, by decide, rfl⟩))
  rw [enter_eq s hc]
  unfold v_r19_Enter dlg enS enM noA mSup mMac
  simp only [BitVec.signExtend_eq, l1, l3, put0, l11, at_same hs.ks, at_same hs.km, bitS, mod2]
  cases hp : s.p.sle 1#64 with
  | false => cases i <;> rfl
  | true =>
    simp only [l8 hp, Bool.true_and, cond_true]
    cases i <;> simp only [cond_true, cond_false]
    · cases (s.md >>> min c.toNat 64 &&& 1#64 == 1#64) <;> rfl
    · cases (s.mi >>> min c.toNat 64 &&& 1#64 == 1#64) <;> rfl
theorem bit22 (m : BitVec 64) : (m &&& 4194304#64 == 0#64) = !(m >>> 22 % 2#64 == 1#64) := by
  rw [bitAt]
  have h : m &&& 4194304#64 = cond (m.getLsbD 22) 4194304#64 0#64 := by
    apply BitVec.eq_of_getLsbD_eq
    intro i hi
    have hk : ∀ j : Fin 64, (4194304#64).getLsbD j.val = decide (j.val = 22) := by decide
    have hk := hk ⟨i, hi⟩
    simp only at hk
    rw [BitVec.getLsbD_and, hk]
    by_cases h1 : i = 22
    · subst h1
      cases m.getLsbD 22
      · rfl
      · rw [cond_true, show (4194304#64).getLsbD 22 = true by decide]; rfl
    · simp only [h1, decide_false, Bool.and_false]
      cases m.getLsbD 22
      · rw [cond_false]; simp
      · rw [cond_true, hk]; simp [h1]
  rw [h]; cases m.getLsbD 22 <;> rfl
theorem may_same {s : En} (hs : EnOK s) (b : Bool) (raw : BitVec 32) : v_trap_May s b raw = v_r19_May s b raw := by
  unfold v_trap_May v_r19_May v_r17_Illegal
  simp only [bit22, bitS, Bool.not_not]
  have e22 : (s.m >>> min (22#64).toNat 64 % 2#64 == 1#64) = (s.m >>> 22 % 2#64 == 1#64) := rfl
  simp only [e22]
  rcases hs.pr with e | e | e <;> simp only [e] <;> cases b <;> cases (s.m >>> 22 % 2#64 == 1#64) <;> cases (s.pcc.per &&& 512#64 == 0#64) <;> rfl
theorem turns_plain (h : Ht) (cause : BitVec 64) (i : Bool) (v : BitVec 64) (sup : Bool) (raw : BitVec 32) : t_l19_TrapTurns h cause i v sup raw = some (.bool true) := by
  have hs := rEn_ok h
  have hc := pick64 cause
  have k1 : v_trap_May (rEn h) sup raw = v_r19_May (rEn h) sup raw := may_same hs sup raw
  have k2 : v_r19_Leave (rEn h) sup = v_trap_Leave (rEn h) sup := leave_same hs sup
  have k3 : ttF h cause i v = ttE h cause i v := enter_same hs hc i v
  unfold t_l19_TrapTurns
  simp only [k1, k2, k3, g_leave_ok hs, g_enter_ok hs hc, eqCp_self, beq_self_eq_true, Bool.and_self, Bool.not_true, cond_true, cond_false]
end Go.Sx

/- Traps make no capability (plain). -/
namespace Go.Sx
open Go
set_option maxHeartbeats 1000000
theorem of_open (c : Cp) : v_bounds_Of (v_trap_open c) = v_bounds_Of c := by
  unfold v_trap_open
  cases (c.ty == 262142#64) <;> rfl
theorem ofLess {t : Cp} (ht : InPl t) (a : BitVec 64) : g_l19_of (v_capops_Move (v_trap_open t) a) t = true ∧ v_l19_of (v_capops_Move (v_trap_open t) a) t = true := by
  have g1 : g_bounds_Of (v_capops_Move (v_trap_open t) a) = true := g_Of_ok (by rw [move_of, open_e]; exact ht.e)
  have g2 : g_bounds_Of t = true := g_Of_ok ht.e
  constructor
  · unfold g_l19_of
    simp only [g1, g2, cond_true, Bool.cond_self]
  · unfold v_l19_of
    cases h : (v_capops_Move (v_trap_open t) a).tag with
    | false => rfl
    | true =>
      obtain ⟨h1, h2, h3, h4, h5⟩ := move_less h
      have e1 : t.tag = true := by
        rw [← h1]; unfold v_trap_open; cases (t.ty == 262142#64) <;> rfl
      have e2 : (v_capops_Move (v_trap_open t) a).ty = 262143#64 := by
        rw [move_of]; exact by simpa using h2
      have e3 : (v_capops_Move (v_trap_open t) a).per = t.per := by
        rw [h3]; unfold v_trap_open; cases (t.ty == 262142#64) <;> rfl
      have e4 : (v_capops_Move (v_trap_open t) a).mo = t.mo := by
        rw [move_of]; unfold v_trap_open; cases (t.ty == 262142#64) <;> rfl
      have e5 : (262142#64).sle t.ty = true := by
        revert h2; unfold v_trap_open
        cases h : (t.ty == 262142#64) with
        | true => intro _; rw [beq_iff_eq] at h; rw [h]; decide
        | false => intro h2; simp only [cond_false] at h2; rw [beq_iff_eq] at h2; rw [h2]; decide
      simp only [e1, e2, e3, e4, e5, h4, of_open, Bool.not_true, cond_false, cond_true, beq_self_eq_true, Bool.and_self]
theorem enter_pcc (s : En) {c : BitVec 64} (hc : c.toNat < 64) (i : Bool) (v : BitVec 64) : (v_trap_Enter s c i v).pcc = v_capops_Move (v_trap_open (cond (dlg s c i) s.stcc s.mtcc)) (toA (cond (dlg s c i) s.stcc s.mtcc) c i) := by
  rw [enter_eq s hc]; cases dlg s c i <;> rfl
theorem moves_plain (h : Ht) (cause : BitVec 64) (i sup : Bool) : t_l19_TrapMoves h cause i sup = some (.bool true) := by
  unfold t_l19_TrapMoves
  have hs := rEn_ok h
  have hc := pick64 cause
  have k32 : (v_l19_Right h).c 32 = (rEn h).pcc := rfl
  have k34 : (v_l19_Right h).c 34 = (rEn h).stcc := rfl
  have k37 : (v_l19_Right h).c 37 = (rEn h).sepcc := rfl
  have k38 : (v_l19_Right h).c 38 = (rEn h).mtcc := rfl
  have k41 : (v_l19_Right h).c 41 = (rEn h).mepcc := rfl
  simp only [k32, k34, k37, k38, k41]
  generalize rEn h = s at hs ⊢
  generalize v_kit_Pick cause 64#64 = c at hc ⊢
  have a1 := fun a => ofLess hs.ks a
  have a2 := fun a => ofLess hs.km a
  have a3 := fun a => ofLess hs.kse a
  have a4 := fun a => ofLess hs.kme a
  simp only [g_enter_ok hs hc, g_leave_ok hs, enter_eq s hc, leave_eq s, cond_true]
  cases dlg s c i <;> cases sup <;> simp [enS, enM, lvF, a1, a2, a3, a4, eqCp_self]
end Go.Sx

/- There and back (plain). -/
namespace Go.Sx
open Go
set_option maxHeartbeats 4000000
theorem fits_self (c : Cp) : v_bounds_Fits c c.ad = true := by
  unfold v_bounds_Fits
  simp
theorem move_inpl {c : Cp} (h : InPl c) (a : BitVec 64) : InPl (v_capops_Move c a) := by
  rw [move_of]; exact ⟨h.e, h.b, h.t⟩
theorem enter_ok {s : En} (hs : EnOK s) {c : BitVec 64} (hc : c.toNat < 64) (i : Bool) (v : BitVec 64) : EnOK (v_trap_Enter s c i v) := by
  rw [enter_eq s hc]
  cases dlg s c i
  · exact ⟨.inr (.inr rfl), hs.ks, hs.km, hs.kse, hs.kpc, move_inpl (inpl_open hs.km) _⟩
  · exact ⟨.inr (.inl rfl), hs.ks, hs.km, hs.kpc, hs.kme, move_inpl (inpl_open hs.ks) _⟩
theorem bEn_ok (h : Ht) : EnOK (bEn h) := ⟨rEn_p h, inpl_right _, inpl_right _, inpl_right _, inpl_right _, ⟨(inpl_right (h.c 32)).e, (inpl_right (h.c 32)).b, (inpl_right (h.c 32)).t⟩⟩
/-- What comes back, of a program counter. -/
theorem back_pcc (c : Cp) (hy : (c.ty == 262143#64) = true) : v_capops_Move (v_trap_open { c with ad := c.ad &&& 18446744073709551614#64 }) ((c.ad &&& 18446744073709551614#64) &&& 18446744073709551614#64) = { c with ad := c.ad &&& 18446744073709551614#64 } := by
  rw [BitVec.and_assoc, show (18446744073709551614#64 &&& 18446744073709551614#64) = 18446744073709551614#64 by decide]
  have e : v_trap_open { c with ad := c.ad &&& 18446744073709551614#64 } = { c with ad := c.ad &&& 18446744073709551614#64 } := by
    unfold v_trap_open
    rw [beq_iff_eq] at hy
    simp only [hy]
    rfl
  rw [e, move_of]
  have f := fits_self { c with ad := c.ad &&& 18446744073709551614#64 }
  simp only at f
  simp only [f, hy, Bool.and_true]
theorem back_ad (c : Cp) : (v_capops_Move (v_trap_open { c with ad := c.ad &&& 18446744073709551614#64 }) ((c.ad &&& 18446744073709551614#64) &&& 18446744073709551614#64)).ad = c.ad &&& 18446744073709551614#64 := by
  rw [move_of]
  show (c.ad &&& 18446744073709551614#64) &&& 18446744073709551614#64 = _
  rw [BitVec.and_assoc, show (18446744073709551614#64 &&& 18446744073709551614#64) = 18446744073709551614#64 by decide]
theorem getShl (x : BitVec 64) (n k : Nat) (hn : n < 64) (hk : k ≤ n) : (x <<< k).getLsbD n = x.getLsbD (n - k) := by
  rw [BitVec.getLsbD_shiftLeft]; simp [hn]; omega
/-- mstatus behind a trap to Supervisor, and left again. -/
theorem sup_bits (s : En) (c : BitVec 64) (i : Bool) (v : BitVec 64) (hp : s.p.sle 1#64 = true) (hs : EnOK s) :
    (enS s c i v).m >>> 1 % 2#64 = 0#64 ∧ (enS s c i v).m >>> 5 % 2#64 = s.m >>> 1 % 2#64 ∧ lvp (enS s c i v) true = s.p ∧ lvm' (enS s c i v) true >>> 1 % 2#64 = s.m >>> 1 % 2#64 := by
  have em : (enS s c i v).m = layM 256#64 (layM 2#64 (layM 32#64 s.m ((s.m >>> 1) <<< 5)) (0#64 <<< 1)) (s.p <<< 8) := by
    show mSup s.m s.p = _
    unfold mSup; rw [lay8, lay1, lay5]
  have b5 : (enS s c i v).m.getLsbD 5 = s.m.getLsbD 1 := by
    rw [em, layM_bit _ _ _ _ (by decide), layM_bit _ _ _ _ (by decide), layM_bit _ _ _ _ (by decide)]
    show ((s.m >>> 1) <<< 5).getLsbD 5 = _
    rw [getShl _ _ _ (by decide) (by decide), BitVec.getLsbD_ushiftRight]
  refine ⟨?_, ?_, ?_, ?_⟩
  · rw [bitAt, em, layM_bit _ _ _ _ (by decide), layM_bit _ _ _ _ (by decide)]; rfl
  · rw [bitAt, bitAt, b5]
  · show (enS s c i v).m >>> 8 &&& 1#64 = s.p
    rw [← mod2, bitAt, em, layM_bit _ _ _ _ (by decide)]
    show cond ((s.p <<< 8).getLsbD 8) 1#64 0#64 = s.p
    rw [getShl _ _ _ (by decide) (by decide)]
    rcases hs.pr with e | e | e
    · rw [e]; rfl
    · rw [e]; rfl
    · rw [e] at hp; exact absurd hp (by decide)
  · have e1 : (lvm (enS s c i v) true).getLsbD 1 = s.m.getLsbD 1 := by
      rw [lvm_s, layM_bit _ _ _ _ (by decide), layM_bit _ _ _ _ (by decide), layM_bit _ _ _ _ (by decide)]
      show (((enS s c i v).m >>> 5) <<< 1).getLsbD 1 = _
      rw [getShl _ _ _ (by decide) (by decide), BitVec.getLsbD_ushiftRight]
      exact b5
    rw [bitAt, bitAt]
    unfold lvm'
    cases (lvp (enS s c i v) true == 3#64)
    · rw [cond_false, BitVec.getLsbD_and, e1, show (18446744073709420543#64).getLsbD 1 = true by decide, Bool.and_true]
    · rw [cond_true, e1]
theorem mac_bits (s : En) (c : BitVec 64) (i : Bool) (v : BitVec 64) (hs : EnOK s) :
    (enM s c i v).m >>> 3 % 2#64 = 0#64 ∧ (enM s c i v).m >>> 7 % 2#64 = s.m >>> 3 % 2#64 ∧ lvp (enM s c i v) false = s.p ∧ lvm' (enM s c i v) false >>> 3 % 2#64 = s.m >>> 3 % 2#64 := by
  have em : (enM s c i v).m = layM 6144#64 (layM 8#64 (layM 128#64 s.m ((s.m >>> 3) <<< 7)) (0#64 <<< 3)) (s.p <<< 11) := by
    show mMac s.m s.p = _
    unfold mMac; rw [lay11, lay3, lay7]
  have b7 : (enM s c i v).m.getLsbD 7 = s.m.getLsbD 3 := by
    rw [em, layM_bit _ _ _ _ (by decide), layM_bit _ _ _ _ (by decide), layM_bit _ _ _ _ (by decide)]
    show ((s.m >>> 3) <<< 7).getLsbD 7 = _
    rw [getShl _ _ _ (by decide) (by decide), BitVec.getLsbD_ushiftRight]
  refine ⟨?_, ?_, ?_, ?_⟩
  · rw [bitAt, em, layM_bit _ _ _ _ (by decide), layM_bit _ _ _ _ (by decide)]; rfl
  · rw [bitAt, bitAt, b7]
  · have e : (enM s c i v).m >>> 11 &&& 3#64 = s.p := by
      rw [← lvp_eq, bitAt, bitAt, em, layM_bit 6144#64 _ _ 11 (by decide), layM_bit 6144#64 _ _ 12 (by decide)]
      show cond ((s.p <<< 11).getLsbD 11) 1#64 0#64 + 2#64 * cond ((s.p <<< 11).getLsbD 12) 1#64 0#64 = s.p
      rw [getShl _ _ _ (by decide) (by decide), getShl _ _ _ (by decide) (by decide)]
      rcases hs.pr with e | e | e <;> rw [e] <;> rfl
    exact e
  · have e1 : (lvm (enM s c i v) false).getLsbD 3 = s.m.getLsbD 3 := by
      rw [lvm_m, layM_bit _ _ _ _ (by decide), layM_bit _ _ _ _ (by decide), layM_bit _ _ _ _ (by decide)]
      show (((enM s c i v).m >>> 7) <<< 3).getLsbD 3 = _
      rw [getShl _ _ _ (by decide) (by decide), BitVec.getLsbD_ushiftRight]
      exact b7
    rw [bitAt, bitAt]
    unfold lvm'
    cases (lvp (enM s c i v) false == 3#64)
    · rw [cond_false, BitVec.getLsbD_and, e1, show (18446744073709420543#64).getLsbD 3 = true by decide, Bool.and_true]
    · rw [cond_true, e1]
end Go.Sx

/- There and back (plain): the law. -/
namespace Go.Sx
open Go
set_option maxHeartbeats 4000000
set_option maxRecDepth 100000
theorem sle3 {p : BitVec 64} (h : p.sle 1#64 = true) : (p == 3#64) = false := by
  rw [beq_eq_false_iff_ne]; rintro rfl; exact absurd h (by decide)
theorem back_plain (h : Ht) (cause : BitVec 64) (i : Bool) (v : BitVec 64) : t_l19_TrapBack h cause i v = some (.bool true) := by
  have hs := bEn_ok h
  have hc := pick64 cause
  have gE : g_trap_Enter (bEn h) (v_kit_Pick cause 64#64) i v = true := g_enter_ok hs hc i v
  have gL : ∀ b, g_trap_Leave (tbE h cause i v) b = true := fun b => g_leave_ok (enter_ok hs hc i v) b
  have eE : tbE h cause i v = cond (dlg (bEn h) (v_kit_Pick cause 64#64) i) (enS (bEn h) (v_kit_Pick cause 64#64) i v) (enM (bEn h) (v_kit_Pick cause 64#64) i v) := enter_eq _ hc i v
  have eL : tbL h cause i v = v_trap_Leave (tbE h cause i v) ((tbE h cause i v).p == 1#64) := rfl
  have k1 : (v_l19_Right h).e 1 = (bEn h).m := rfl
  have k0 : (v_l19_Right h).e 0 = (bEn h).p := rfl
  cases hd : dlg (bEn h) (v_kit_Pick cause 64#64) i with
  | true =>
    rw [hd, cond_true] at eE
    have hp : (bEn h).p.sle 1#64 = true := by unfold dlg at hd; exact (Bool.and_eq_true _ _ ▸ hd).1
    obtain ⟨b1, b2, b3, b4⟩ := sup_bits (bEn h) (v_kit_Pick cause 64#64) i v hp hs
    have p1 : (tbE h cause i v).p = 1#64 := by rw [eE]; rfl
    rw [p1, show ((1#64 : BitVec 64) == 1#64) = true from rfl, leave_eq, eE] at eL
    have f1 : (tbE h cause i v).m >>> 1 % 2#64 = 0#64 := by rw [eE]; exact b1
    have f2 : (tbE h cause i v).m >>> 5 % 2#64 = (v_l19_Right h).e 1 >>> 1 % 2#64 := by rw [eE]; exact b2
    have f3 : (tbE h cause i v).w = false := by rw [eE]; rfl
    have f4 : ((v_l19_Right h).e 0 == 3#64) = false := sle3 hp
    have f5 : (tbL h cause i v).p = (v_l19_Right h).e 0 := by rw [eL]; exact b3
    have f6 : (tbL h cause i v).m >>> 1 % 2#64 = (v_l19_Right h).e 1 >>> 1 % 2#64 := by rw [eL]; exact b4
    have f7 : (tbL h cause i v).pcc.ad = ((v_l19_Right h).c 32).ad &&& 18446744073709551614#64 := by rw [eL]; exact back_ad _
    have f8 : (((v_l19_Right h).c 32).ty == 262143#64) = true → (tbL h cause i v).pcc = { ((v_l19_Right h).c 32) with ad := ((v_l19_Right h).c 32).ad &&& 18446744073709551614#64 } := fun hy => by rw [eL]; exact back_pcc _ hy
    have g1 : (tbL h cause i v).stcc = (v_l19_Right h).c 34 := by rw [eL]; rfl
    have g2 : (tbL h cause i v).mtcc = (v_l19_Right h).c 38 := by rw [eL]; rfl
    have g3 : (tbL h cause i v).mepcc = (v_l19_Right h).c 41 := by rw [eL]; rfl
    have g4 : (tbL h cause i v).md = (v_l19_Right h).e 2 := by rw [eL]; rfl
    have g5 : (tbL h cause i v).mi = (v_l19_Right h).e 3 := by rw [eL]; rfl
    have g6 : (tbL h cause i v).mc = (v_l19_Right h).e 8 := by rw [eL]; rfl
    have g7 : (tbL h cause i v).mt = (v_l19_Right h).e 10 := by rw [eL]; rfl
    unfold t_l19_TrapBack
    clear eE eL k1 k0
    cases hy : (((v_l19_Right h).c 32).ty == 262143#64) with
    | false =>
      simp only [gE, gL, p1, f1, f2, f3, f4, f5, f6, f7, g1, g2, g3, g4, g5, g6, g7, hy, eqCp_self, beq_self_eq_true, Bool.and_self, Bool.not_true, cond_true, cond_false]
    | true =>
      simp only [gE, gL, p1, f1, f2, f3, f4, f5, f6, f7, f8 hy, g1, g2, g3, g4, g5, g6, g7, hy, eqCp_self, beq_self_eq_true, Bool.and_self, Bool.not_true, cond_true, cond_false]
  | false =>
    rw [hd, cond_false] at eE
    obtain ⟨b1, b2, b3, b4⟩ := mac_bits (bEn h) (v_kit_Pick cause 64#64) i v hs
    have p1 : (tbE h cause i v).p = 3#64 := by rw [eE]; rfl
    have p2 : ((3#64 : BitVec 64) == 1#64) = false := rfl
    rw [p1, p2, leave_eq, eE] at eL
    have f1 : (tbE h cause i v).m >>> 3 % 2#64 = 0#64 := by rw [eE]; exact b1
    have f2 : (tbE h cause i v).m >>> 7 % 2#64 = (v_l19_Right h).e 1 >>> 3 % 2#64 := by rw [eE]; exact b2
    have f3 : (tbE h cause i v).w = false := by rw [eE]; rfl
    have f5 : (tbL h cause i v).p = (v_l19_Right h).e 0 := by rw [eL]; exact b3
    have f6 : (tbL h cause i v).m >>> 3 % 2#64 = (v_l19_Right h).e 1 >>> 3 % 2#64 := by rw [eL]; exact b4
    have f7 : (tbL h cause i v).pcc.ad = ((v_l19_Right h).c 32).ad &&& 18446744073709551614#64 := by rw [eL]; exact back_ad _
    have f8 : (((v_l19_Right h).c 32).ty == 262143#64) = true → (tbL h cause i v).pcc = { ((v_l19_Right h).c 32) with ad := ((v_l19_Right h).c 32).ad &&& 18446744073709551614#64 } := fun hy => by rw [eL]; exact back_pcc _ hy
    have g1 : (tbL h cause i v).stcc = (v_l19_Right h).c 34 := by rw [eL]; rfl
    have g2 : (tbL h cause i v).mtcc = (v_l19_Right h).c 38 := by rw [eL]; rfl
    have g3 : (tbL h cause i v).sepcc = (v_l19_Right h).c 37 := by rw [eL]; rfl
    have g4 : (tbL h cause i v).md = (v_l19_Right h).e 2 := by rw [eL]; rfl
    have g5 : (tbL h cause i v).mi = (v_l19_Right h).e 3 := by rw [eL]; rfl
    have g6 : (tbL h cause i v).sc = (v_l19_Right h).e 9 := by rw [eL]; rfl
    have g7 : (tbL h cause i v).st = (v_l19_Right h).e 11 := by rw [eL]; rfl
    unfold t_l19_TrapBack
    clear eE eL k1 k0
    cases hy : (((v_l19_Right h).c 32).ty == 262143#64) with
    | false =>
      simp only [gE, gL, p1, p2, f1, f2, f3, f5, f6, f7, g1, g2, g3, g4, g5, g6, g7, hy, eqCp_self, beq_self_eq_true, Bool.and_self, Bool.not_true, Bool.not_false, cond_true, cond_false]
    | true =>
      simp only [gE, gL, p1, p2, f1, f2, f3, f5, f6, f7, f8 hy, g1, g2, g3, g4, g5, g6, g7, hy, eqCp_self, beq_self_eq_true, Bool.and_self, Bool.not_true, Bool.not_false, cond_true, cond_false]
theorem trapKnown_plain : t_l19_TrapKnown = some (.bool true) := rfl
end Go.Sx


/- Both UARTs, call by call: they stay alike. -/
import Derived.Test.YtenimiinkhjdbaaVl14d
import Derived.Test.YtenimiinkhjdbaaPlSr2
set_option linter.unusedSimpArgs false
set_option linter.unusedVariables false
set_option linter.unnecessarySimpa false
namespace Go.Sx
open Go
def nOk (q : List (List AV)) (fi cn : BitVec 64) : Prop := q.length = 16 ∧ fi.toNat < 16 ∧ cn = 0#64
def rOk (q : List (List AV)) (fi cn : BitVec 64) (n m : Nat) (d : List (List AV)) : Prop :=
  q.length = 16 ∧ fi.toNat < 16 ∧ cn = BitVec.ofNat 64 n ∧ 0 < n ∧ n ≤ 16 ∧ m = n ∧ d.length = n ∧ ∀ j, j < n → bQ q ((fi.toNat + j) % 16) = bQ d j
def loOk (no mo : Nat) (i : BitVec 64) : Prop := no ≤ mo ∧ no < 2 ^ 63 ∧ i.toNat ≤ no
def srOk : SrS → Prop
  | .nn _ no mo _ q fi cn en e to po yo i => nOk q fi cn ∧ to = 18446744073709551615#64 ∧ e = en ∧ yo = po ∧ loOk no mo i
  | .tn _ no mo _ q fi cn en tb e to po yo i => nOk q fi cn ∧ to = BitVec.setWidth 64 tb ∧ e = en ∧ yo = po ∧ loOk no mo i
  | .nr _ no mo _ q fi cn en n m d e to po yo i => rOk q fi cn n m d ∧ to = 18446744073709551615#64 ∧ e = en ∧ yo = po ∧ loOk no mo i
  | .tr _ no mo _ q fi cn en tb n m d e to po yo i => rOk q fi cn n m d ∧ to = BitVec.setWidth 64 tb ∧ e = en ∧ yo = po ∧ loOk no mo i
def srI : SrS → Nat
  | .nn _ no _ _ _ _ _ _ _ _ _ _ i => no - i.toNat
  | .tn _ no _ _ _ _ _ _ _ _ _ _ _ i => no - i.toNat
  | .nr _ no _ _ _ _ _ _ _ _ _ _ _ _ _ i => no - i.toNat
  | .tr _ no _ _ _ _ _ _ _ _ _ _ _ _ _ _ i => no - i.toNat
theorem nOk.ring {q : List (List AV)} {fi cn : BitVec 64} (h : nOk q fi cn) : g_ring q fi cn = true := by
  obtain ⟨h1, h2, rfl⟩ := h
  exact g_ring_iff.2 ⟨h1, h2, by decide⟩
theorem rOk.nat {q : List (List AV)} {fi cn : BitVec 64} {n m : Nat} {d : List (List AV)} (h : rOk q fi cn n m d) : cn.toNat = n := by
  obtain ⟨h1, h2, rfl, h3, h4, h5⟩ := h
  exact ofNat_toNat (by omega)
theorem rOk.ring {q : List (List AV)} {fi cn : BitVec 64} {n m : Nat} {d : List (List AV)} (h : rOk q fi cn n m d) : g_ring q fi cn = true := by
  have e := h.nat
  obtain ⟨h1, h2, h0, h3, h4, h5⟩ := h
  exact g_ring_iff.2 ⟨h1, h2, by omega⟩
theorem rOk.row {q : List (List AV)} {fi cn : BitVec 64} {n m : Nat} {d : List (List AV)} (h : rOk q fi cn n m d) : g_row n m d = true := by
  obtain ⟨h1, h2, h0, h3, h4, rfl, h6, _⟩ := h
  exact g_row_iff.2 ⟨rfl, h6, h4⟩
theorem rOk.pos {q : List (List AV)} {fi cn : BitVec 64} {n m : Nat} {d : List (List AV)} (h : rOk q fi cn n m d) : Nat.blt 0 n = true := by
  rw [Nat.blt_eq]; exact h.2.2.2.1
/-! ### a byte comes -/
theorem nOk.input {q : List (List AV)} {fi cn : BitVec 64} (h : nOk q fi cn) (b : BitVec 8) : (!(cn == 16#64)) = true ∧ v_uiC cn = 1#64 ∧ rOk (v_uiQ q fi cn b) fi (v_uiC cn) 1 1 [[.int .u8 b]] := by
  obtain ⟨h1, h2, rfl⟩ := h
  have e : v_uiC 0#64 = 1#64 := by decide
  refine ⟨by decide, e, ?_⟩
  rw [e]
  unfold v_uiQ
  rw [show (0#64 == 16#64) = false from rfl, cond_false]
  have e2 : ((fi + 0#64).srem 16#64).toNat = fi.toNat := by
    rw [srem16 (by rw [add16 h2 (by decide)]; simp; omega), add16 h2 (by decide)]; simp; omega
  rw [e2]
  refine ⟨by simpa using h1, h2, rfl, by decide, by decide, rfl, rfl, fun j hj => ?_⟩
  have : j = 0 := by omega
  subst this
  rw [Nat.add_zero, Nat.mod_eq_of_lt h2]
  unfold bQ
  rw [getD_set q fi.toNat fi.toNat _ (by omega), if_pos rfl]; rfl
theorem v_full_iff {n : Nat} (h : n ≤ 16) : v_full n = decide (n = 16) := by
  unfold v_full
  rw [sle_nat (by decide) (by rw [ofNat_toNat (by omega)]; omega)]
  congr 1
  rw [eq_iff_iff, ofNat_toNat (n := n) (by omega), show (16#64).toNat = 16 from rfl]; omega
theorem rOk.full {q : List (List AV)} {fi cn : BitVec 64} {n m : Nat} {d : List (List AV)} (h : rOk q fi cn n m d) (hf : v_full n = true) (b : BitVec 8) : (!(cn == 16#64)) = false ∧ v_uiC cn = BitVec.ofNat 64 n ∧ rOk (v_uiQ q fi cn b) fi (v_uiC cn) n m d := by
  have h' := h
  obtain ⟨h1, h2, rfl, h3, h4, rfl, h6, h7⟩ := h
  rw [v_full_iff h4, decide_eq_true_eq] at hf
  subst hf
  refine ⟨by decide, by decide, h'⟩
theorem rOk.more {q : List (List AV)} {fi cn : BitVec 64} {n m : Nat} {d : List (List AV)} (h : rOk q fi cn n m d) (hf : v_full n = false) (b : BitVec 8) :
    (!(cn == 16#64)) = true ∧ v_uiC cn = BitVec.ofNat 64 (n + 1) ∧ rOk (v_uiQ q fi cn b) fi (v_uiC cn) (n + 1) (n + 1) (v_xiD d b) := by
  obtain ⟨h1, h2, rfl, h3, h4, rfl, h6, h7⟩ := h
  rw [v_full_iff h4, decide_eq_false_iff_not] at hf
  have hn : (BitVec.ofNat 64 m).toNat = m := ofNat_toNat (by omega)
  have hne : (BitVec.ofNat 64 m == 16#64) = false := by
    rw [beq_eq_false_iff_ne]; intro e; have := congrArg BitVec.toNat e; rw [hn] at this; exact hf this
  have ec : v_uiC (BitVec.ofNat 64 m) = BitVec.ofNat 64 (m + 1) := by
    unfold v_uiC
    rw [hne, cond_false]
    apply BitVec.eq_of_toNat_eq
    rw [inc_nat (by omega), hn, ofNat_toNat (by omega)]
  refine ⟨by rw [hne]; rfl, ec, ?_⟩
  rw [ec]
  unfold v_uiQ
  rw [hne, cond_false]
  have e2 : ((fi + BitVec.ofNat 64 m).srem 16#64).toNat = (fi.toNat + m) % 16 := by
    rw [srem16 (by rw [add16 h2 (by omega), hn]; omega), add16 h2 (by omega), hn]
  rw [e2]
  refine ⟨by simpa using h1, h2, rfl, by omega, by omega, rfl, by simp [v_xiD, h6], fun j hj => ?_⟩
  unfold bQ v_xiD
  rw [getD_set q _ _ _ (by omega)]
  by_cases hjm : j = m
  · subst hjm
    rw [if_pos rfl, List.getD_eq_getElem?_getD, List.getElem?_append_right (by omega), h6]; simp
  · rw [if_neg (by omega), List.getD_eq_getElem?_getD (l := d ++ _), List.getElem?_append_left (by omega), ← List.getD_eq_getElem?_getD]
    exact h7 j (by omega)
/-! ### a load -/
theorem there_one (e : Bool) : v_serial_one e = v_one e := by cases e <;> rfl
theorem nOk.load {q : List (List AV)} {fi cn : BitVec 64} (h : nOk q fi cn) (en : Bool) (off size : BitVec 64) : v_ulV q fi cn en off size = v_xdN en off size ∧ v_ulF fi cn off size = fi ∧ v_ulC cn off size = 0#64 := by
  obtain ⟨h1, h2, rfl⟩ := h
  have e : v_ulN 0#64 off size = false := by unfold v_ulN; simp
  refine ⟨?_, by unfold v_ulF; rw [e]; rfl, by unfold v_ulC; rw [e]; rfl⟩
  unfold v_ulV v_xdN
  rw [there_one]
  have e2 : 96#64 + v_serial_one ((0#64).slt 0#64) = 96#64 := by decide
  rw [e2]
  rfl
theorem rOk.same {q : List (List AV)} {fi cn : BitVec 64} {n m : Nat} {d : List (List AV)} (h : rOk q fi cn n m d) (en : Bool) (off size : BitVec 64) (ht : v_usT off size = false) :
    v_ulV q fi cn en off size = v_xdS en off size ∧ v_ulF fi cn off size = fi ∧ v_ulC cn off size = cn := by
  have hn := h.nat
  obtain ⟨h1, h2, h0, h3, h4, rfl, h6, h7⟩ := h
  have e : v_ulN cn off size = false := by
    unfold v_ulN v_usT at *
    cases hv : v_serial_there off size with
    | false => rfl
    | true => rw [hv, Bool.true_and] at ht; rw [ht]; rfl
  refine ⟨?_, by unfold v_ulF; rw [e]; rfl, by unfold v_ulC; rw [e]; rfl⟩
  unfold v_ulV v_xdS v_usT at *
  rw [there_one]
  have e2 : (0#64).slt cn = true := by rw [slt_nat (by decide) (by omega), hn]; exact decide_eq_true h3
  rw [e2]
  cases hv : v_serial_there off size with
  | false => rfl
  | true => rw [hv, Bool.true_and] at ht; rw [ht]; rfl
theorem rOk.next {q : List (List AV)} {fi cn : BitVec 64} {n m : Nat} {d : List (List AV)} (h : rOk q fi cn n m d) (en : Bool) (off size : BitVec 64) (ht : v_usT off size = true) :
    v_ulV q fi cn en off size = BitVec.setWidth 64 (bQ d 0) ∧ v_serial_there off size = true ∧ v_ulC cn off size = BitVec.ofNat 64 (n - 1) ∧ (Nat.ble n 1 = true → nOk q (v_ulF fi cn off size) (v_ulC cn off size)) ∧
      (Nat.ble n 1 = false → rOk q (v_ulF fi cn off size) (v_ulC cn off size) (n - 1) (n - 1) (v_r8 d 1 (n - 1))) := by
  have hn := h.nat
  obtain ⟨h1, h2, h0, h3, h4, rfl, h6, h7⟩ := h
  unfold v_usT at ht
  rw [Bool.and_eq_true] at ht
  obtain ⟨t1, t2⟩ := ht
  have ec0 : (cn == 0#64) = false := by rw [beq_eq_false_iff_ne]; rintro rfl; simp at hn; omega
  have eN : v_ulN cn off size = true := by unfold v_ulN; rw [t1, t2, ec0]; rfl
  have eF : v_ulF fi cn off size = (fi + 1#64).srem 16#64 := by unfold v_ulF; rw [eN]; rfl
  have eFn : ((fi + 1#64).srem 16#64).toNat = (fi.toNat + 1) % 16 := by
    rw [srem16 (by rw [add16 h2 (by decide)]; rw [show (1#64).toNat = 1 from rfl]; omega), add16 h2 (by decide)]; rfl
  have eC : v_ulC cn off size = BitVec.ofNat 64 (m - 1) := by
    unfold v_ulC; rw [eN, cond_true]
    apply BitVec.eq_of_toNat_eq
    rw [ofNat_toNat (by omega), BitVec.toNat_sub, hn, show (1#64).toNat = 1 from rfl]
    omega
  refine ⟨?_, t1, eC, fun hb => ?_, fun hb => ?_⟩
  · unfold v_ulV
    rw [t1, t2, ec0]
    simp only [cond_true, cond_false]
    have := h7 0 h3
    rw [Nat.add_zero, Nat.mod_eq_of_lt h2] at this
    rw [this]
  · rw [Nat.ble_eq] at hb
    refine ⟨h1, by rw [eF, eFn]; omega, ?_⟩
    rw [eC, show m - 1 = 0 by omega]
  · have hb' : ¬ m ≤ 1 := by rw [← Nat.ble_eq, hb]; decide
    refine ⟨h1, by rw [eF, eFn]; omega, eC, by omega, by omega, rfl, v_r8_len _ _ _, fun j hj => ?_⟩
    rw [eF, eFn]
    have := h7 (j + 1) (by omega)
    rw [show ((fi.toNat + 1) % 16 + j) % 16 = (fi.toNat + (j + 1)) % 16 by omega, this]
    unfold bQ v_r8
    rw [List.getD_eq_getElem?_getD (l := List.map _ _), List.getElem?_map, List.getElem?_range' (by omega)]
    show bQ d (j + 1) = bQ d (1 + 1 * j)
    rw [Nat.one_mul, Nat.add_comm]
theorem st_on (en : Bool) (off size v : BitVec 64) : v_usE en off size v = v_xsE en off size v := by
  unfold v_usE v_xsE
  rw [and1]
theorem st_told (off size v to : BitVec 64) (h : v_usT off size = true) : v_xsO to off size v = BitVec.setWidth 64 (BitVec.setWidth 8 v) := by
  unfold v_xsO; rw [h, lo8]; rfl
theorem st_keep (off size v to : BitVec 64) (h : v_usT off size = false) : v_xsO to off size v = to := by unfold v_xsO; rw [h]; rfl
theorem st_there (off size : BitVec 64) (h : v_usT off size = true) : v_serial_there off size = true := by
  unfold v_usT at h; rw [Bool.and_eq_true] at h; exact h.1
theorem st_en (en : Bool) (off size v : BitVec 64) (h : v_usT off size = true) : v_xsE en off size v = en := by
  unfold v_usT at h; rw [Bool.and_eq_true, beq_iff_eq] at h
  obtain ⟨h1, rfl⟩ := h
  unfold v_xsE
  rw [show (0#64 == 1#64) = false from rfl, Bool.and_false]; rfl
theorem loOk.inc {no mo : Nat} {i : BitVec 64} (h : loOk no mo i) (hi : i.toNat < no) : loOk no mo (i + 1#64) ∧ no - (i + 1#64).toNat + 1 = no - i.toNat := by
  obtain ⟨h1, h2, h3⟩ := h
  have := inc_nat (show i.toNat < 2 ^ 63 by omega)
  exact ⟨⟨h1, h2, by omega⟩, by omega⟩
end Go.Sx

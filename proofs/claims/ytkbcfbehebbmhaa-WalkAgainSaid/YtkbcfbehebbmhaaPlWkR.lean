/- WalkAgain: what has changed. -/
import Derived.Test.YtkbcfbehebbmhaaVl21e
import Derived.Test.YtkbcfbehebbmhaaVl21f
import Derived.Test.YtkbcfbehebbmhaaPlWkL
set_option linter.unusedSimpArgs false
set_option linter.unusedVariables false
set_option linter.unnecessarySimpa false
namespace Go.Sx
open Go
def chgD (n : Nat) (d : List (List AV)) (nz : Nat) (dz : List (List AV)) (j : Nat) : Bool := !v_lV nz dz (BitVec.ofNat 64 (8 * j)) 8#64 == v_lV n d (BitVec.ofNat 64 (8 * j)) 8#64
def chgN (n : Nat) (d : List (List AV)) (nz : Nat) (dz : List (List AV)) (j f : Nat) : Nat := ((List.range' j f).filter (chgD n d nz dz)).length
theorem chgN_succ (n : Nat) (d : List (List AV)) (nz : Nat) (dz : List (List AV)) (j f : Nat) : chgN n d nz dz j (f + 1) = (if chgD n d nz dz j then 1 else 0) + chgN n d nz dz (j + 1) f := by
  unfold chgN
  rw [List.range'_succ, List.filter_cons]
  split
  · rw [List.length_cons]; omega
  · omega
def v_chg (n : Nat) (d : List (List AV)) (nz : Nat) (dz : List (List AV)) : BitVec 64 := BitVec.ofNat 64 (chgN n d nz dz 0 1536)
def g_chg (n : Nat) (tg : List (List AV)) (m : Nat) (d : List (List AV)) (nz : Nat) (tgz : List (List AV)) (mz : Nat) (dz : List (List AV)) (ch i : BitVec 64) : Bool := Nat.beq tg.length 64 && (g_ram n tg m d && (g_ram nz tgz mz dz && (ch == 0#64 && i == 0#64)))
theorem mwy_rn (x0 x1 x2 x3 x4 : BitVec 64) (n : Nat) (tg : List (List AV)) (m : Nat) (d : List (List AV)) (c0 c1 c2 : BitVec 64) (pr : List (List AV)) (p1 p2 : BitVec 32) (en th q : List (List AV)) (u1 u2 : BitVec 64) (u3 w : Bool) (nz : Nat) (tgz : List (List AV)) (mz : Nat) (dz : List (List AV)) (c0z c1z c2z : BitVec 64) (prz : List (List AV)) (p1z p2z : BitVec 32) (enz thz qz : List (List AV)) (u1z u2z : BitVec 64) (u3z wz : Bool) (y0 y1 y2 y3 why : BitVec 64)
    (hr : g_ram n tg m d = true) (hz : g_ram nz tgz mz dz = true) :
    ∀ (f j : Nat) (ch : BitVec 64), 1536 - j = f → j ≤ 1536 →
      Rn mwyStep (.a x0 x1 x2 x3 x4 n tg m d c0 c1 c2 pr p1 p2 en th q u1 u2 u3 w nz tgz mz dz c0z c1z c2z prz p1z p2z enz thz qz u1z u2z u3z wz y0 y1 y2 y3 why ch (BitVec.ofNat 64 (8 * j))) (.fine (bAsk x0 x1 x2 x3 x4) bus3 ⟨true, [.cell (.slice ⟨5, 0, 0, 1, 0⟩ 1 n), .arr [.int .u64] 64 tg]⟩ ⟨true, [.arr [.int .u8] m d]⟩ (bClint c0 c1 c2) (bPlic pr p1 p2 en th) (bUart q u1 u2 u3) (bPow w) bus10 ⟨true, [.cell (.slice ⟨12, 0, 0, 1, 0⟩ 1 nz), .arr [.int .u64] 64 tgz]⟩ ⟨true, [.arr [.int .u8] mz dz]⟩ (bClint c0z c1z c2z) (bPlic prz p1z p2z enz thz) (bUart qz u1z u2z u3z) (bPow wz) (bEnt y0 y1 y2 y3) why (ch + BitVec.ofNat 64 (chgN n d nz dz j f))) := by
  intro f
  induction f with
  | zero =>
    intro j ch hk hi
    have hN : (BitVec.ofNat 64 (8 * j)).toNat = 8 * j := ofNat_toNat (by omega)
    refine .last ?_
    simp only [mwyStep]
    rw [slt_nat (by omega) (by decide), hN, show (12288#64).toNat = 12288 from rfl, decide_eq_false (by omega)]
    rw [show ch + BitVec.ofNat 64 (chgN n d nz dz j 0) = ch from BitVec.add_zero ch]; rfl
  | succ f ih =>
    intro j ch hk hi
    have hN : (BitVec.ofNat 64 (8 * j)).toNat = 8 * j := ofNat_toNat (by omega)
    have hinc : BitVec.ofNat 64 (8 * j) + 8#64 = BitVec.ofNat 64 (8 * (j + 1)) := by
      apply BitVec.eq_of_toNat_eq
      rw [BitVec.toNat_add, hN, ofNat_toNat (n := 8 * (j + 1)) (by omega), show (8#64).toNat = 8 from rfl]; omega
    cases hq : chgD n d nz dz j with
    | true =>
      have e : ch + BitVec.ofNat 64 (chgN n d nz dz j (f + 1)) = (ch + 1#64) + BitVec.ofNat 64 (chgN n d nz dz (j + 1) f) := by
        rw [chgN_succ, hq, if_pos rfl, BitVec.ofNat_add, BitVec.add_assoc]
      rw [e]
      refine .next ?_ (ih (j + 1) (ch + 1#64) (by omega) (by omega))
      unfold chgD at hq
      simp only [mwyStep]
      rw [slt_nat (by omega) (by decide), hN, show (12288#64).toNat = 12288 from rfl, decide_eq_true (by omega), hr, hz, hq, hinc]; rfl
    | false =>
      have e : chgN n d nz dz j (f + 1) = chgN n d nz dz (j + 1) f := by
        rw [chgN_succ, hq]; simp
      rw [e]
      refine .next ?_ (ih (j + 1) ch (by omega) (by omega))
      unfold chgD at hq
      simp only [mwyStep]
      rw [slt_nat (by omega) (by decide), hN, show (12288#64).toNat = 12288 from rfl, decide_eq_true (by omega), hr, hz, hq, hinc]; rfl
noncomputable def mwyCps : Cps MwyS := fun R x K => match x with
  | .a x0 x1 x2 x3 x4 n tg m d c0 c1 c2 pr p1 p2 en th q u1 u2 u3 w nz tgz mz dz c0z c1z c2z prz p1z p2z enz thz qz u1z u2z u3z wz y0 y1 y2 y3 why ch i =>
    cond (g_chg n tg m d nz tgz mz dz ch i) (K (.exit 2) (tmOf [3, 5, 7, 9, 10, 11, 13] (mwyV (.fine (bAsk x0 x1 x2 x3 x4) bus3 ⟨true, [.cell (.slice ⟨5, 0, 0, 1, 0⟩ 1 n), .arr [.int .u64] 64 tg]⟩ ⟨true, [.arr [.int .u8] m d]⟩ (bClint c0 c1 c2) (bPlic pr p1 p2 en th) (bUart q u1 u2 u3) (bPow w) bus10 ⟨true, [.cell (.slice ⟨12, 0, 0, 1, 0⟩ 1 nz), .arr [.int .u64] 64 tgz]⟩ ⟨true, [.arr [.int .u8] mz dz]⟩ (bClint c0z c1z c2z) (bPlic prz p1z p2z enz thz) (bUart qz u1z u2z u3z) (bPow wz) (bEnt y0 y1 y2 y3) why (v_chg n d nz dz))))
      (mwyG (.fine (bAsk x0 x1 x2 x3 x4) bus3 ⟨true, [.cell (.slice ⟨5, 0, 0, 1, 0⟩ 1 n), .arr [.int .u64] 64 tg]⟩ ⟨true, [.arr [.int .u8] m d]⟩ (bClint c0 c1 c2) (bPlic pr p1 p2 en th) (bUart q u1 u2 u3) (bPow w) bus10 ⟨true, [.cell (.slice ⟨12, 0, 0, 1, 0⟩ 1 nz), .arr [.int .u64] 64 tgz]⟩ ⟨true, [.arr [.int .u8] mz dz]⟩ (bClint c0z c1z c2z) (bPlic prz p1z p2z enz thz) (bUart qz u1z u2z u3z) (bPow wz) (bEnt y0 y1 y2 y3) why (v_chg n d nz dz))) 18) none
theorem mwyCps_ok (R : Type) (x : MwyS) (K : Out → TM → Heap → Nat → Option R) (r : R) (h : mwyCps R x K = some r) : ∃ z, Rn mwyStep x z ∧ K (mwyO z) (tmOf [3, 5, 7, 9, 10, 11, 13] (mwyV z)) (mwyG z) (mwyM z) = some r := by
  cases x with
  | a x0 x1 x2 x3 x4 n tg m d c0 c1 c2 pr p1 p2 en th q u1 u2 u3 w nz tgz mz dz c0z c1z c2z prz p1z p2z enz thz qz u1z u2z u3z wz y0 y1 y2 y3 why ch i =>
    obtain ⟨hg, hk⟩ := condK h
    unfold g_chg at hg
    simp only [Bool.and_eq_true, beq_iff_eq] at hg
    obtain ⟨_, h1, h2, rfl, rfl⟩ := hg
    have := mwy_rn x0 x1 x2 x3 x4 n tg m d c0 c1 c2 pr p1 p2 en th q u1 u2 u3 w nz tgz mz dz c0z c1z c2z prz p1z p2z enz thz qz u1z u2z u3z wz y0 y1 y2 y3 why h1 h2 1536 0 0#64 rfl (by decide)
    rw [BitVec.zero_add] at this
    exact ⟨_, this, hk⟩
theorem mwb_rn (x0 x1 x2 x3 x4 : BitVec 64) (n : Nat) (tg : List (List AV)) (m : Nat) (d : List (List AV)) (c0 c1 c2 : BitVec 64) (pr : List (List AV)) (p1 p2 : BitVec 32) (en th q : List (List AV)) (u1 u2 : BitVec 64) (u3 w : Bool) (nz : Nat) (tgz : List (List AV)) (mz : Nat) (dz : List (List AV)) (c0z c1z c2z : BitVec 64) (prz : List (List AV)) (p1z p2z : BitVec 32) (enz thz qz : List (List AV)) (u1z u2z : BitVec 64) (u3z wz : Bool) (k kk : Nat) (g : List (List AV)) (y0 y1 y2 y3 why : BitVec 64)
    (hr : g_ram n tg m d = true) (hz : g_ram nz tgz mz dz = true) :
    ∀ (f j : Nat) (ch : BitVec 64), 1536 - j = f → j ≤ 1536 →
      Rn mwbStep (.a x0 x1 x2 x3 x4 n tg m d c0 c1 c2 pr p1 p2 en th q u1 u2 u3 w nz tgz mz dz c0z c1z c2z prz p1z p2z enz thz qz u1z u2z u3z wz k kk g y0 y1 y2 y3 why ch (BitVec.ofNat 64 (8 * j))) (.fine (bAsk x0 x1 x2 x3 x4) bus3 ⟨true, [.cell (.slice ⟨5, 0, 0, 1, 0⟩ 1 n), .arr [.int .u64] 64 tg]⟩ ⟨true, [.arr [.int .u8] m d]⟩ (bClint c0 c1 c2) (bPlic pr p1 p2 en th) (bUart q u1 u2 u3) (bPow w) bus10 ⟨true, [.cell (.slice ⟨12, 0, 0, 1, 0⟩ 1 nz), .arr [.int .u64] 64 tgz]⟩ ⟨true, [.arr [.int .u8] mz dz]⟩ (bClint c0z c1z c2z) (bPlic prz p1z p2z enz thz) (bUart qz u1z u2z u3z) (bPow wz) ⟨true, [.arr [.int .i64, .int .i64, .int .i64, .int .u64, .int .u64] kk g]⟩ (bEnt y0 y1 y2 y3) k why (ch + BitVec.ofNat 64 (chgN n d nz dz j f))) := by
  intro f
  induction f with
  | zero =>
    intro j ch hk hi
    have hN : (BitVec.ofNat 64 (8 * j)).toNat = 8 * j := ofNat_toNat (by omega)
    refine .last ?_
    simp only [mwbStep]
    rw [slt_nat (by omega) (by decide), hN, show (12288#64).toNat = 12288 from rfl, decide_eq_false (by omega)]
    rw [show ch + BitVec.ofNat 64 (chgN n d nz dz j 0) = ch from BitVec.add_zero ch]; rfl
  | succ f ih =>
    intro j ch hk hi
    have hN : (BitVec.ofNat 64 (8 * j)).toNat = 8 * j := ofNat_toNat (by omega)
    have hinc : BitVec.ofNat 64 (8 * j) + 8#64 = BitVec.ofNat 64 (8 * (j + 1)) := by
      apply BitVec.eq_of_toNat_eq
      rw [BitVec.toNat_add, hN, ofNat_toNat (n := 8 * (j + 1)) (by omega), show (8#64).toNat = 8 from rfl]; omega
    cases hq : chgD n d nz dz j with
    | true =>
      have e : ch + BitVec.ofNat 64 (chgN n d nz dz j (f + 1)) = (ch + 1#64) + BitVec.ofNat 64 (chgN n d nz dz (j + 1) f) := by
        rw [chgN_succ, hq, if_pos rfl, BitVec.ofNat_add, BitVec.add_assoc]
      rw [e]
      refine .next ?_ (ih (j + 1) (ch + 1#64) (by omega) (by omega))
      unfold chgD at hq
      simp only [mwbStep]
      rw [slt_nat (by omega) (by decide), hN, show (12288#64).toNat = 12288 from rfl, decide_eq_true (by omega), hr, hz, hq, hinc]; rfl
    | false =>
      have e : chgN n d nz dz j (f + 1) = chgN n d nz dz (j + 1) f := by
        rw [chgN_succ, hq]; simp
      rw [e]
      refine .next ?_ (ih (j + 1) ch (by omega) (by omega))
      unfold chgD at hq
      simp only [mwbStep]
      rw [slt_nat (by omega) (by decide), hN, show (12288#64).toNat = 12288 from rfl, decide_eq_true (by omega), hr, hz, hq, hinc]; rfl
noncomputable def mwbCps : Cps MwbS := fun R x K => match x with
  | .a x0 x1 x2 x3 x4 n tg m d c0 c1 c2 pr p1 p2 en th q u1 u2 u3 w nz tgz mz dz c0z c1z c2z prz p1z p2z enz thz qz u1z u2z u3z wz k kk g y0 y1 y2 y3 why ch i =>
    cond (g_chg n tg m d nz tgz mz dz ch i) (K (.exit 2) (tmOf [3, 5, 7, 9, 10, 11, 13] (mwbV (.fine (bAsk x0 x1 x2 x3 x4) bus3 ⟨true, [.cell (.slice ⟨5, 0, 0, 1, 0⟩ 1 n), .arr [.int .u64] 64 tg]⟩ ⟨true, [.arr [.int .u8] m d]⟩ (bClint c0 c1 c2) (bPlic pr p1 p2 en th) (bUart q u1 u2 u3) (bPow w) bus10 ⟨true, [.cell (.slice ⟨12, 0, 0, 1, 0⟩ 1 nz), .arr [.int .u64] 64 tgz]⟩ ⟨true, [.arr [.int .u8] mz dz]⟩ (bClint c0z c1z c2z) (bPlic prz p1z p2z enz thz) (bUart qz u1z u2z u3z) (bPow wz) ⟨true, [.arr [.int .i64, .int .i64, .int .i64, .int .u64, .int .u64] kk g]⟩ (bEnt y0 y1 y2 y3) k why (v_chg n d nz dz))))
      (mwbG (.fine (bAsk x0 x1 x2 x3 x4) bus3 ⟨true, [.cell (.slice ⟨5, 0, 0, 1, 0⟩ 1 n), .arr [.int .u64] 64 tg]⟩ ⟨true, [.arr [.int .u8] m d]⟩ (bClint c0 c1 c2) (bPlic pr p1 p2 en th) (bUart q u1 u2 u3) (bPow w) bus10 ⟨true, [.cell (.slice ⟨12, 0, 0, 1, 0⟩ 1 nz), .arr [.int .u64] 64 tgz]⟩ ⟨true, [.arr [.int .u8] mz dz]⟩ (bClint c0z c1z c2z) (bPlic prz p1z p2z enz thz) (bUart qz u1z u2z u3z) (bPow wz) ⟨true, [.arr [.int .i64, .int .i64, .int .i64, .int .u64, .int .u64] kk g]⟩ (bEnt y0 y1 y2 y3) k why (v_chg n d nz dz))) 19) none
theorem mwbCps_ok (R : Type) (x : MwbS) (K : Out → TM → Heap → Nat → Option R) (r : R) (h : mwbCps R x K = some r) : ∃ z, Rn mwbStep x z ∧ K (mwbO z) (tmOf [3, 5, 7, 9, 10, 11, 13] (mwbV z)) (mwbG z) (mwbM z) = some r := by
  cases x with
  | a x0 x1 x2 x3 x4 n tg m d c0 c1 c2 pr p1 p2 en th q u1 u2 u3 w nz tgz mz dz c0z c1z c2z prz p1z p2z enz thz qz u1z u2z u3z wz k kk g y0 y1 y2 y3 why ch i =>
    obtain ⟨hg, hk⟩ := condK h
    unfold g_chg at hg
    simp only [Bool.and_eq_true, beq_iff_eq] at hg
    obtain ⟨_, h1, h2, rfl, rfl⟩ := hg
    have := mwb_rn x0 x1 x2 x3 x4 n tg m d c0 c1 c2 pr p1 p2 en th q u1 u2 u3 w nz tgz mz dz c0z c1z c2z prz p1z p2z enz thz qz u1z u2z u3z wz k kk g y0 y1 y2 y3 why h1 h2 1536 0 0#64 rfl (by decide)
    rw [BitVec.zero_add] at this
    exact ⟨_, this, hk⟩
end Go.Sx

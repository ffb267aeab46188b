/- WalkAgain: what is told. -/
import Derived.Test.YtkbcfbehebbmhaaVl21d
import Derived.Test.YtkbcfbehebbmhaaPlWkL
set_option linter.unusedSimpArgs false
set_option linter.unusedVariables false
set_option linter.unnecessarySimpa false
namespace Go.Sx
open Go
def waRow (n : Nat) (va : BitVec 64) (r : List AV) : Bool := asI64 (r.headD AV.any) == 4#64 && (asI64 (r.tail.headD AV.any) == 64#64 && (asI64 (r.tail.tail.headD AV.any) == 8#64 && (asU64 (r.tail.tail.tail.headD AV.any) == va && v_reg (2147483648#64) (BitVec.signExtend 64 (BitVec.ofNat 64 n)) (asU64 (r.tail.tail.tail.tail.headD AV.any)) 8#64)))
def g_wa (n : Nat) (va : BitVec 64) (k kk : Nat) (g : List (List AV)) (i : BitVec 64) : Bool := Nat.ble k kk && (Nat.blt k 9223372036854775808 && ((List.range k).all (fun j => waRow n va (g.getD j [])) && i == 0#64))
theorem mwa_rn (x0 x1 x2 x3 x4 : BitVec 64) (n : Nat) (tg : List (List AV)) (m : Nat) (d : List (List AV)) (c0 c1 c2 : BitVec 64) (pr : List (List AV)) (p1 p2 : BitVec 32) (en th q : List (List AV)) (u1 u2 : BitVec 64) (u3 w : Bool)
    (nz : Nat) (tgz : List (List AV)) (mz : Nat) (dz : List (List AV)) (c0z c1z c2z : BitVec 64) (prz : List (List AV)) (p1z p2z : BitVec 32) (enz thz qz : List (List AV)) (u1z u2z : BitVec 64) (u3z wz : Bool)
    (k kk : Nat) (g : List (List AV)) (y0 y1 y2 y3 why : BitVec 64) (hm : k ≤ kk) (hn : k < 2 ^ 63) (hg : ∀ j, j < k → waRow n x1 (g.getD j []) = true) :
    ∀ (f : Nat) (i : BitVec 64), k - i.toNat = f → i.toNat ≤ k →
      Rn mwaStep (.a x0 x1 x2 x3 x4 n tg m d c0 c1 c2 pr p1 p2 en th q u1 u2 u3 w nz tgz mz dz c0z c1z c2z prz p1z p2z enz thz qz u1z u2z u3z wz k kk g y0 y1 y2 y3 why i)
        (.fine (bAsk x0 x1 x2 x3 x4) bus3 ⟨true, [.cell (.slice ⟨5, 0, 0, 1, 0⟩ 1 n), .arr [.int .u64] 64 tg]⟩ ⟨true, [.arr [.int .u8] m d]⟩ (bClint c0 c1 c2) (bPlic pr p1 p2 en th) (bUart q u1 u2 u3) (bPow w)
          bus10 ⟨true, [.cell (.slice ⟨12, 0, 0, 1, 0⟩ 1 nz), .arr [.int .u64] 64 tgz]⟩ ⟨true, [.arr [.int .u8] mz dz]⟩ (bClint c0z c1z c2z) (bPlic prz p1z p2z enz thz) (bUart qz u1z u2z u3z) (bPow wz)
          ⟨true, [.arr [.int .i64, .int .i64, .int .i64, .int .u64, .int .u64] kk g]⟩ (bEnt y0 y1 y2 y3) k why) := by
  intro f
  induction f with
  | zero =>
    intro i hk hi
    refine .last ?_
    simp only [mwaStep]
    rw [slt_len (show i.toNat < 2 ^ 63 by omega) hn, decide_eq_false (by omega)]; rfl
  | succ f ih =>
    intro i hk hi
    have hinc := inc_nat (show i.toNat < 2 ^ 63 by omega)
    refine .next ?_ (ih (i + 1#64) (by omega) (by omega))
    have hr := hg i.toNat (by omega)
    unfold waRow at hr
    simp only [Bool.and_eq_true] at hr
    obtain ⟨r1, r2, r3, r4, r5⟩ := hr
    simp only [mwaStep]
    rw [slt_len (show i.toNat < 2 ^ 63 by omega) hn, Nat.zero_add, decide_eq_true (show i.toNat < k by omega), nonneg_lt (by omega), decide_eq_true (show i.toNat < kk by omega), r1, r2, r3, r4, r5]; rfl
noncomputable def mwaZ (x0 x1 x2 x3 x4 : BitVec 64) (n : Nat) (tg : List (List AV)) (m : Nat) (d : List (List AV)) (c0 c1 c2 : BitVec 64) (pr : List (List AV)) (p1 p2 : BitVec 32) (en th q : List (List AV)) (u1 u2 : BitVec 64) (u3 w : Bool)
    (nz : Nat) (tgz : List (List AV)) (mz : Nat) (dz : List (List AV)) (c0z c1z c2z : BitVec 64) (prz : List (List AV)) (p1z p2z : BitVec 32) (enz thz qz : List (List AV)) (u1z u2z : BitVec 64) (u3z wz : Bool)
    (k kk : Nat) (g : List (List AV)) (y0 y1 y2 y3 why : BitVec 64) : MwaE :=
  .fine (bAsk x0 x1 x2 x3 x4) bus3 ⟨true, [.cell (.slice ⟨5, 0, 0, 1, 0⟩ 1 n), .arr [.int .u64] 64 tg]⟩ ⟨true, [.arr [.int .u8] m d]⟩ (bClint c0 c1 c2) (bPlic pr p1 p2 en th) (bUart q u1 u2 u3) (bPow w)
    bus10 ⟨true, [.cell (.slice ⟨12, 0, 0, 1, 0⟩ 1 nz), .arr [.int .u64] 64 tgz]⟩ ⟨true, [.arr [.int .u8] mz dz]⟩ (bClint c0z c1z c2z) (bPlic prz p1z p2z enz thz) (bUart qz u1z u2z u3z) (bPow wz)
    ⟨true, [.arr [.int .i64, .int .i64, .int .i64, .int .u64, .int .u64] kk g]⟩ (bEnt y0 y1 y2 y3) k why
noncomputable def mwaCps : Cps MwaS := fun R x K => match x with
  | .a x0 x1 x2 x3 x4 n tg m d c0 c1 c2 pr p1 p2 en th q u1 u2 u3 w nz tgz mz dz c0z c1z c2z prz p1z p2z enz thz qz u1z u2z u3z wz k kk g y0 y1 y2 y3 why i =>
    cond (g_wa n x1 k kk g i) (K (.exit 0) (tmOf [3, 5, 7, 9, 10, 11] (mwaV (mwaZ x0 x1 x2 x3 x4 n tg m d c0 c1 c2 pr p1 p2 en th q u1 u2 u3 w nz tgz mz dz c0z c1z c2z prz p1z p2z enz thz qz u1z u2z u3z wz k kk g y0 y1 y2 y3 why)))
      (mwaG (mwaZ x0 x1 x2 x3 x4 n tg m d c0 c1 c2 pr p1 p2 en th q u1 u2 u3 w nz tgz mz dz c0z c1z c2z prz p1z p2z enz thz qz u1z u2z u3z wz k kk g y0 y1 y2 y3 why)) 19) none
theorem mwaCps_ok (R : Type) (x : MwaS) (K : Out → TM → Heap → Nat → Option R) (r : R) (h : mwaCps R x K = some r) : ∃ z, Rn mwaStep x z ∧ K (mwaO z) (tmOf [3, 5, 7, 9, 10, 11] (mwaV z)) (mwaG z) (mwaM z) = some r := by
  cases x with
  | a x0 x1 x2 x3 x4 n tg m d c0 c1 c2 pr p1 p2 en th q u1 u2 u3 w nz tgz mz dz c0z c1z c2z prz p1z p2z enz thz qz u1z u2z u3z wz k kk g y0 y1 y2 y3 why i =>
    obtain ⟨hg, hk⟩ := condK h
    unfold g_wa at hg
    simp only [Bool.and_eq_true, beq_iff_eq] at hg
    obtain ⟨h1, h2, h3, rfl⟩ := hg
    rw [List.all_eq_true] at h3
    exact ⟨_, mwa_rn x0 x1 x2 x3 x4 n tg m d c0 c1 c2 pr p1 p2 en th q u1 u2 u3 w nz tgz mz dz c0z c1z c2z prz p1z p2z enz thz qz u1z u2z u3z wz k kk g y0 y1 y2 y3 why (Nat.le_of_ble_eq_true h1) (Nat.le_of_ble_eq_true h2) (fun j hj => h3 j (List.mem_range.2 hj)) _ 0#64 rfl (by simp), hk⟩
end Go.Sx

/- The loop that shifts a number of 65 bits up. -/
import Derived.Test.YtmlhjbdhpojjkaaSxLoop
import Derived.Test.YtmlhjbdhpojjkaaSxPlain
set_option linter.unusedSimpArgs false
set_option linter.unusedVariables false
set_option linter.unnecessarySimpa false
namespace Go.Sx
open Go
structure UpS where
  n : BitVec 64
  i : BitVec 64
  za : BitVec 64
  zb : BitVec 64
  uh : BitVec 64
  ul : BitVec 64
def upT (x : UpS) : List AV := [.int .i64 x.n, .ptr ⟨0, 0, 0, 0, 0⟩, .ptr ⟨1, 0, 0, 0, 0⟩, .int .i64 x.i]
def upH (x : UpS) : List Blk := [⟨true, [.cell (.int .u64 x.za), .cell (.int .u64 x.zb)]⟩, ⟨true, [.cell (.int .u64 x.uh), .cell (.int .u64 x.ul)]⟩]
def upNext (x : UpS) : UpS := ⟨x.n, x.i + 1#64, x.za, x.zb, x.ul >>> 63, x.ul <<< 1⟩
def upC (x : UpS) : Bool := x.i.slt x.n
def upStep (x : UpS) : UpS ⊕ UpS := cond (upC x) (.inl (upNext x)) (.inr x)
def upDec (vs : List AV) (bs : List (Option Blk)) : Option UpS := match vs, bs with
  | [.int .i64 n, .ptr ⟨0, 0, 0, 0, 0⟩, .ptr ⟨1, 0, 0, 0, 0⟩, .int .i64 i], [some ⟨true, [.cell (.int .u64 za), .cell (.int .u64 zb)]⟩, some ⟨true, [.cell (.int .u64 hi), .cell (.int .u64 lo)]⟩] => some ⟨n, i, za, zb, hi, lo⟩
  | _, _ => none
theorem upDec_ok (vs : List AV) (bs : List (Option Blk)) (x : UpS) (h : upDec vs bs = some x) : vs = upT x ∧ bs = (upH x).map some := by
  unfold upDec at h
  split at h
  · cases h; exact ⟨rfl, rfl⟩
  · simp at h
def upIter : Nat → BitVec 64 → BitVec 64 → BitVec 64 × BitVec 64
  | 0, h, l => (h, l)
  | k + 1, h, l => upIter k (l >>> 63) (l <<< 1)
def upM (x : UpS) : Nat := (x.n.toInt - x.i.toInt).toNat
def v_up_loop (x : UpS) : UpS := ⟨x.n, x.i + BitVec.ofNat 64 (upM x), x.za, x.zb, (upIter (upM x) x.uh x.ul).1, (upIter (upM x) x.uh x.ul).2⟩
theorem toInt_succ {i n : BitVec 64} (h : i.toInt < n.toInt) : (i + 1#64).toInt = i.toInt + 1 := by
  have h1 := i.isLt
  have h2 := n.isLt
  rw [BitVec.toInt_eq_toNat_cond, BitVec.toInt_eq_toNat_cond] at h
  rw [BitVec.toInt_eq_toNat_cond, BitVec.toInt_eq_toNat_cond, BitVec.toNat_add, show (1#64).toNat = 1 from rfl]
  split at h <;> split at h <;> (repeat' split) <;> omega
theorem up_whole (x : UpS) : wholeP v_up_loop upM x (upStep x) := by
  unfold upStep upC
  cases hs : x.i.slt x.n with
  | true =>
    have hlt : x.i.toInt < x.n.toInt := by simpa [BitVec.slt] using hs
    have hk : upM x = upM (upNext x) + 1 := by
      unfold upM upNext
      simp only
      rw [toInt_succ hlt]; omega
    simp only [cond_true, wholeP]
    refine ⟨by omega, ?_⟩
    unfold v_up_loop
    rw [hk]
    simp only [upIter]
    have : x.i + BitVec.ofNat 64 (upM (upNext x) + 1) = (upNext x).i + BitVec.ofNat 64 (upM (upNext x)) := by
      show _ = x.i + 1#64 + _
      rw [BitVec.add_assoc]
      congr 1
      apply BitVec.eq_of_toNat_eq
      simp only [BitVec.toNat_add, BitVec.toNat_ofNat]
      omega
    rw [this]
    rfl
  | false =>
    have hge : ¬ x.i.toInt < x.n.toInt := by simpa [BitVec.slt] using hs
    have hk : upM x = 0 := by unfold upM; omega
    simp only [cond_false, wholeP]
    unfold v_up_loop
    rw [hk]
    simp [upIter]
end Go.Sx

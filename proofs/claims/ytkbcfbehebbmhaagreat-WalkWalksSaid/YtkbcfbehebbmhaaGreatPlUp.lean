/- The loop that shifts a number of 65 bits up. -/
import Derived.Test.YtkbcfbehebbmhaaGreatSxAC
import Derived.Test.YtkbcfbehebbmhaaGreatSxAE
import Derived.Test.YtkbcfbehebbmhaaGreatSxLen2
set_option linter.unusedSimpArgs false
set_option linter.unusedVariables false
set_option linter.unnecessarySimpa false
namespace Go.Sx
open Go
structure UpS where
  n : BitVec 64
  i : BitVec 64
  za : BitVec 64
  zb : BitVec 64
  uh : BitVec 64
  ul : BitVec 64
def upT (x : UpS) : List AV := [.int .i64 x.n, .ptr ⟨0, 0, 0, 0, 0⟩, .ptr ⟨1, 0, 0, 0, 0⟩, .int .i64 x.i]
def upH (x : UpS) : List Blk := [⟨true, [.cell (.int .u64 x.za), .cell (.int .u64 x.zb)]⟩, ⟨true, [.cell (.int .u64 x.uh), .cell (.int .u64 x.ul)]⟩]
def upNext (x : UpS) : UpS := ⟨x.n, x.i + 1#64, x.za, x.zb, x.ul >>> 63, x.ul <<< 1⟩
def upC (x : UpS) : Bool := x.i.slt x.n
def upStep (x : UpS) : UpS ⊕ UpS := cond (upC x) (.inl (upNext x)) (.inr x)
def upDec (vs : List AV) (bs : List (Option Blk)) : Option UpS := match vs, bs with
  | [.int .i64 n, .ptr ⟨0, 0, 0, 0, 0⟩, .ptr ⟨1, 0, 0, 0, 0⟩, .int .i64 i], [some ⟨true, [.cell (.int .u64 za), .cell (.int .u64 zb)]⟩, some ⟨true, [.cell (.int .u64 hi), .cell (.int .u64 lo)]⟩] => some ⟨n, i, za, zb, hi, lo⟩
  | _, _ => none
theorem upDec_ok (vs : List AV) (bs : List (Option Blk)) (x : UpS) (h : upDec vs bs = some x) : vs = upT x ∧ bs = (upH x).map some := by
  unfold upDec at h
  split at h
  · cases h; exact ⟨rfl, rfl⟩
  · simp at h
def upIter : Nat → BitVec 64 → BitVec 64 → BitVec 64 × BitVec 64
  | 0, h, l => (h, l)
  | k + 1, h, l => upIter k (l >>> 63) (l <<< 1)
def upM (x : UpS) : Nat := (x.n.toInt - x.i.toInt).toNat
def v_up_loop (x : UpS) : UpS := ⟨x.n, x.i + BitVec.ofNat 64 (upM x), x.za, x.zb, (upIter (upM x) x.uh x.ul).1, (upIter (upM x) x.uh x.ul).2⟩
theorem toInt_succ {i n : BitVec 64} (h : i.toInt < n.toInt) : (i + 1#64).toInt = i.toInt + 1 := by
  have h1 := i.isLt
  have h2 := n.isLt
  rw [BitVec.toInt_eq_toNat_cond, BitVec.toInt_eq_toNat_cond] at h
  rw [BitVec.toInt_eq_toNat_cond, BitVec.toInt_eq_toNat_cond, BitVec.toNat_add, show (1#64).toNat = 1 from rfl]
  split at h <;> split at h <;> (repeat' split) <;> omega
theorem up_whole (x : UpS) : wholeP v_up_loop upM x (upStep x) := by
  unfold upStep upC
  cases hs : x.i.slt x.n with
  | true =>
    have hlt : x.i.toInt < x.n.toInt := by simpa [BitVec.slt] using hs
    have hk : upM x = upM (upNext x) + 1 := by
      unfold upM upNext
      simp only
      rw [toInt_succ hlt]; omega
    simp only [cond_true, wholeP]
    refine ⟨by omega, ?_⟩
    unfold v_up_loop
    rw [hk]
    simp only [upIter]
    have : x.i + BitVec.ofNat 64 (upM (upNext x) + 1) = (upNext x).i + BitVec.ofNat 64 (upM (upNext x)) := by
      show _ = x.i + 1#64 + _
      rw [BitVec.add_assoc]
      congr 1
      apply BitVec.eq_of_toNat_eq
      simp only [BitVec.toNat_add, BitVec.toNat_ofNat]
      omega
    rw [this]
    rfl
  | false =>
    have hge : ¬ x.i.toInt < x.n.toInt := by simpa [BitVec.slt] using hs
    have hk : upM x = 0 := by unfold upM; omega
    simp only [cond_false, wholeP]
    unfold v_up_loop
    rw [hk]
    simp [upIter]

/-- A bit of a number of 65 bits. -/
def wbit (x : W2) (i : BitVec 64) : BitVec 64 :=
 (cond (i == 64#64)
 (x.hi)
 (cond ((64#64).slt i)
  (0#64)
  (x.lo >>> min (BitVec.signExtend 64 i).toNat 64 % 2#64)))
structure CutS where
  n : BitVec 64
  a4 : BitVec 64
  a5 : Bool
  lost : Bool
  i : BitVec 64
  w : W2
def cutlT (x : CutS) : List AV := [.int .i64 x.n, .ptr ⟨0, 0, 0, 0, 0⟩, .int .i64 x.a4, .bool x.a5, .bool x.lost, .int .i64 x.i]
def cutlH (x : CutS) : List Blk := [⟨true, [.cell (.int .u64 x.w.hi), .cell (.int .u64 x.w.lo)]⟩]
def cutlC (x : CutS) : Bool := x.i.slt x.n
def cutlL (x : CutS) : Bool := x.lost
def cutlA (x : CutS) : CutS := { x with lost := true, i := x.i + 1#64 }
def cutlB (x : CutS) : CutS := { x with lost := wbit x.w x.i == 1#64, i := x.i + 1#64 }
def cutlStep (x : CutS) : CutS ⊕ CutS := cond (cutlC x) (cond (cutlL x) (.inl (cutlA x)) (.inl (cutlB x))) (.inr x)
def cutlDec (vs : List AV) (bs : List (Option Blk)) : Option CutS := match vs, bs with
  | [.int .i64 n, .ptr ⟨0, 0, 0, 0, 0⟩, .int .i64 a4, .bool a5, .bool lost, .int .i64 i], [some ⟨true, [.cell (.int .u64 hi), .cell (.int .u64 lo)]⟩] => some ⟨n, a4, a5, lost, i, ⟨hi, lo⟩⟩
  | _, _ => none
theorem cutlDec_ok (vs : List AV) (bs : List (Option Blk)) (x : CutS) (h : cutlDec vs bs = some x) : vs = cutlT x ∧ bs = (cutlH x).map some := by
  unfold cutlDec at h
  split at h
  · cases h; exact ⟨rfl, rfl⟩
  · simp at h
def cutlM (x : CutS) : Nat := (x.n.toInt - x.i.toInt).toNat
def cutAny : Nat → W2 → BitVec 64 → Bool → Bool
  | 0, _, _, l => l
  | k + 1, w, i, l => cutAny k w (i + 1#64) (cond l true (wbit w i == 1#64))
def v_cutl_loop (x : CutS) : CutS := { x with lost := cutAny (cutlM x) x.w x.i x.lost, i := x.i + BitVec.ofNat 64 (cutlM x) }
theorem add_succ (i : BitVec 64) (k : Nat) : i + BitVec.ofNat 64 (k + 1) = i + 1#64 + BitVec.ofNat 64 k := by
  rw [BitVec.add_assoc]
  congr 1
  apply BitVec.eq_of_toNat_eq
  simp only [BitVec.toNat_add, BitVec.toNat_ofNat]
  omega
theorem cutl_whole (x : CutS) : wholeP v_cutl_loop cutlM x (cutlStep x) := by
  unfold cutlStep cutlC cutlL
  cases hs : x.i.slt x.n with
  | true =>
    have hlt : x.i.toInt < x.n.toInt := by simpa [BitVec.slt] using hs
    have hk : cutlM x = (x.n.toInt - (x.i + 1#64).toInt).toNat + 1 := by
      unfold cutlM
      rw [toInt_succ hlt]; omega
    cases hl : x.lost with
    | true =>
      simp only [cond_true, wholeP]
      refine ⟨by show (x.n.toInt - (x.i + 1#64).toInt).toNat < _; omega, ?_⟩
      unfold v_cutl_loop
      rw [hk]
      simp only [cutAny, hl, cond_true]
      rw [add_succ x.i (x.n.toInt - (x.i + 1#64).toInt).toNat]
      rfl
    | false =>
      simp only [cond_true, cond_false, wholeP]
      refine ⟨by show (x.n.toInt - (x.i + 1#64).toInt).toNat < _; omega, ?_⟩
      unfold v_cutl_loop
      rw [hk]
      simp only [cutAny, hl, cond_false]
      rw [add_succ x.i (x.n.toInt - (x.i + 1#64).toInt).toNat]
      rfl
  | false =>
    have hge : ¬ x.i.toInt < x.n.toInt := by simpa [BitVec.slt] using hs
    have hk : cutlM x = 0 := by unfold cutlM; omega
    simp only [cond_false, wholeP]
    unfold v_cutl_loop
    rw [hk]
    simp [cutAny]
structure LayS where
  n : BitVec 64
  a5 : Bool
  en : BitVec 64
  e : BitVec 64
  i : BitVec 64
  c : Cp
  d : Cp
  w : W2
def cpSegs (c : Cp) : List Seg := [.cell (.bool c.tag), .cell (.int .i64 c.per), .cell (.int .i64 c.ty), .cell (.int .i64 c.mo), .cell (.int .i64 c.e), .cell (.int .i64 c.b), .cell (.int .i64 c.t), .cell (.bool c.big), .cell (.int .u64 c.ad)]
def laylT (x : LayS) : List AV := [.int .u64 x.n, .ptr ⟨0, 0, 0, 0, 0⟩, .ptr ⟨1, 0, 0, 0, 0⟩, .bool x.a5, .int .u64 x.en, .ptr ⟨2, 0, 0, 0, 0⟩, .int .i64 x.e, .int .i64 x.i]
def laylH (x : LayS) : List Blk := [⟨true, cpSegs x.c⟩, ⟨true, cpSegs x.d⟩, ⟨true, [.cell (.int .u64 x.w.hi), .cell (.int .u64 x.w.lo)]⟩]
def laylC (x : LayS) : Bool := x.i.slt 64#64
def laylL (x : LayS) : Bool := x.n >>> min (BitVec.signExtend 64 x.i).toNat 64 % 2#64 == 1#64
def laylA (x : LayS) : LayS := { x with e := x.i - 12#64, i := x.i + 1#64 }
def laylB (x : LayS) : LayS := { x with i := x.i + 1#64 }
def laylStep (x : LayS) : LayS ⊕ LayS := cond (laylC x) (cond (laylL x) (.inl (laylA x)) (.inl (laylB x))) (.inr x)
def laylDec (vs : List AV) (bs : List (Option Blk)) : Option LayS := match vs, bs with
  | [.int .u64 n, .ptr ⟨0, 0, 0, 0, 0⟩, .ptr ⟨1, 0, 0, 0, 0⟩, .bool a5, .int .u64 en, .ptr ⟨2, 0, 0, 0, 0⟩, .int .i64 e, .int .i64 i], [some ⟨true, [.cell (.bool g1), .cell (.int .i64 g2), .cell (.int .i64 g3), .cell (.int .i64 g4), .cell (.int .i64 g5), .cell (.int .i64 g6), .cell (.int .i64 g7), .cell (.bool g8), .cell (.int .u64 g9)]⟩, some ⟨true, [.cell (.bool f1), .cell (.int .i64 f2), .cell (.int .i64 f3), .cell (.int .i64 f4), .cell (.int .i64 f5), .cell (.int .i64 f6), .cell (.int .i64 f7), .cell (.bool f8), .cell (.int .u64 f9)]⟩, some ⟨true, [.cell (.int .u64 hi), .cell (.int .u64 lo)]⟩] => some ⟨n, a5, en, e, i, ⟨g1, g2, g3, g4, g5, g6, g7, g8, g9⟩, ⟨f1, f2, f3, f4, f5, f6, f7, f8, f9⟩, ⟨hi, lo⟩⟩
  | _, _ => none
theorem laylDec_ok (vs : List AV) (bs : List (Option Blk)) (x : LayS) (h : laylDec vs bs = some x) : vs = laylT x ∧ bs = (laylH x).map some := by
  unfold laylDec at h
  split at h
  · cases h; exact ⟨rfl, rfl⟩
  · simp at h
def laylM (x : LayS) : Nat := (64 - x.i.toInt).toNat
def layE : Nat → BitVec 64 → BitVec 64 → BitVec 64 → BitVec 64
  | 0, _, _, e => e
  | k + 1, n, i, e => layE k n (i + 1#64) (cond (n >>> min (BitVec.signExtend 64 i).toNat 64 % 2#64 == 1#64) (i - 12#64) e)
def v_layl_loop (x : LayS) : LayS := { x with e := layE (laylM x) x.n x.i x.e, i := x.i + BitVec.ofNat 64 (laylM x) }
theorem layl_whole (x : LayS) : wholeP v_layl_loop laylM x (laylStep x) := by
  have h64 : (64#64).toInt = 64 := by decide
  unfold laylStep laylC
  cases hs : x.i.slt 64#64 with
  | true =>
    have hlt : x.i.toInt < (64#64).toInt := by simpa [BitVec.slt] using hs
    have hk : laylM x = (64 - (x.i + 1#64).toInt).toNat + 1 := by
      unfold laylM
      rw [toInt_succ hlt]; omega
    cases hl : laylL x with
    | true =>
      simp only [cond_true, wholeP]
      refine ⟨by show (64 - (x.i + 1#64).toInt).toNat < _; omega, ?_⟩
      unfold v_layl_loop
      rw [hk]
      unfold laylL at hl
      simp only [layE, hl, cond_true]
      rw [add_succ x.i (64 - (x.i + 1#64).toInt).toNat]
      rfl
    | false =>
      simp only [cond_true, cond_false, wholeP]
      refine ⟨by show (64 - (x.i + 1#64).toInt).toNat < _; omega, ?_⟩
      unfold v_layl_loop
      rw [hk]
      unfold laylL at hl
      simp only [layE, hl, cond_false]
      rw [add_succ x.i (64 - (x.i + 1#64).toInt).toNat]
      rfl
  | false =>
    have hge : ¬ x.i.toInt < (64#64).toInt := by simpa [BitVec.slt] using hs
    have hk : laylM x = 0 := by unfold laylM; omega
    simp only [cond_false, wholeP]
    unfold v_layl_loop
    rw [hk]
    simp [layE]
end Go.Sx

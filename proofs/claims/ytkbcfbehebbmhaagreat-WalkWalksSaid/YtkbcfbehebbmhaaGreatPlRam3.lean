/- Several texts in one. -/
import Derived.Test.YtkbcfbehebbmhaaGreatSxX
import Derived.Test.YtkbcfbehebbmhaaGreatSxLen2
import Derived.Test.YtkbcfbehebbmhaaGreatSxEC
import Derived.Test.YtkbcfbehebbmhaaGreatVa03
import Derived.Test.YtkbcfbehebbmhaaGreatPlN
set_option linter.unusedSimpArgs false
set_option linter.unusedVariables false
set_option linter.unnecessarySimpa false
/- What loops do, round by round. -/
namespace Go.Sx
open Go

/-! ### bytes put together -/
inductive MglS where
  | a (rw : Bool) (m : Nat) (d : List (List AV)) (o : Nat) (n : Nat) (v : BitVec 64) (ln : BitVec 64) (ix : BitVec 64)
inductive MglE where
  | fine (rw : Bool) (m : Nat) (d : List (List AV)) (v : BitVec 64)
def mglT : MglS → List AV
  | .a _ _ _ o n v ln ix => [.int .u64 v, .slice ⟨0, 0, o, 1, 0⟩ 1 n, .int .i64 ln, .int .i64 ix]
def mglH : MglS → Heap
  | .a rw m d _ _ _ _ _ => [(0, ⟨rw, [.arr [.int .u8] m d]⟩)]
def mglN : MglS → Nat
  | .a _ _ _ _ _ _ _ _ => 1
def mglDec (vs : List AV) (H : Heap) (N : Nat) : Option MglS := match vs, H.find 0, N with
  | [.int .u64 v, .slice ⟨0, 0, o, 1, 0⟩ 1 n, .int .i64 ln, .int .i64 ix], some ⟨rw, [.arr [.int .u8] m d]⟩, 1 => some (.a rw m d o n v ln ix)
  | _, _, _ => none
theorem mglDec_ok (vs : List AV) (H : Heap) (N : Nat) (y : MglS) (h : mglDec vs H N = some y) : vs = mglT y ∧ (mglH y).sub H ∧ N = mglN y := by
  unfold mglDec at h
  split at h
  all_goals first
    | (cases h; done)
    | (cases h; refine ⟨rfl, ?_, rfl⟩; repeat (first | exact sub_nil | refine sub_cons (by assumption) ?_))
def mglO : MglE → Out
  | .fine _ _ _ _ => .exit 0
def mglV : MglE → List AV
  | .fine _ _ _ v => [.int .u64 v]
def mglG : MglE → Heap
  | .fine rw m d _ => [(0, ⟨rw, [.arr [.int .u8] m d]⟩)]
def mglM : MglE → Nat
  | .fine _ _ _ _ => 1
def mglDecE (o : Out) (vs : List AV) (H : Heap) (N : Nat) : Option MglE := match o, vs, H.find 0, N with
  | .exit 0, [.int .u64 v], some ⟨rw, [.arr [.int .u8] m d]⟩, 1 => some (.fine rw m d v)
  | _, _, _, _ => none
theorem mglDecE_ok (o : Out) (vs : List AV) (H : Heap) (N : Nat) (z : MglE) (h : mglDecE o vs H N = some z) : o = mglO z ∧ o ≠ .normal ∧ vs = mglV z ∧ (mglG z).sub H ∧ N = mglM z := by
  unfold mglDecE at h
  split at h
  all_goals first
    | (cases h; done)
    | (cases h; refine ⟨rfl, nofun, rfl, ?_, rfl⟩; repeat (first | exact sub_nil | refine sub_cons (by assumption) ?_))
noncomputable def mglStep : MglS → Option (MglS ⊕ MglE)
 | .a rw m d o n v ln ix =>
 (cond (ix.slt ln)
 (cond (nonneg IntKind.i64 ix && decide (ix.toNat < n))
 (cond (decide (o + ix.toNat < m))
 (cond (nonneg IntKind.i64 (8#64 * ix))
 (some (Sum.inl (MglS.a rw m d o n (v ||| BitVec.setWidth 64 (asU8 ((d.getD (o + ix.toNat) []).headD AV.any)) <<< min (8#64 * ix).toNat 64) ln (ix + 1#64))))
    none)
   none)
  none)
 (some (Sum.inr (MglE.fine rw m d v))))

/-! ### bytes laid -/
inductive MplS where
  | a (m : Nat) (d : List (List AV)) (o : Nat) (n : Nat) (v : BitVec 64) (ln : BitVec 64) (ix : BitVec 64)
inductive MplE where
  | fine (m : Nat) (d : List (List AV))
def mplT : MplS → List AV
  | .a _ _ o n v ln ix => [.slice ⟨0, 0, o, 1, 0⟩ 1 n, .int .u64 v, .int .i64 ln, .int .i64 ix]
def mplH : MplS → Heap
  | .a m d _ _ _ _ _ => [(0, ⟨true, [.arr [.int .u8] m d]⟩)]
def mplN : MplS → Nat
  | .a _ _ _ _ _ _ _ => 1
def mplDec (vs : List AV) (H : Heap) (N : Nat) : Option MplS := match vs, H.find 0, N with
  | [.slice ⟨0, 0, o, 1, 0⟩ 1 n, .int .u64 v, .int .i64 ln, .int .i64 ix], some ⟨true, [.arr [.int .u8] m d]⟩, 1 => some (.a m d o n v ln ix)
  | _, _, _ => none
theorem mplDec_ok (vs : List AV) (H : Heap) (N : Nat) (y : MplS) (h : mplDec vs H N = some y) : vs = mplT y ∧ (mplH y).sub H ∧ N = mplN y := by
  unfold mplDec at h
  split at h
  all_goals first
    | (cases h; done)
    | (cases h; refine ⟨rfl, ?_, rfl⟩; repeat (first | exact sub_nil | refine sub_cons (by assumption) ?_))
def mplO : MplE → Out
  | .fine _ _ => .exit 0
def mplV : MplE → List AV
  | .fine _ _ => []
def mplG : MplE → Heap
  | .fine m d => [(0, ⟨true, [.arr [.int .u8] m d]⟩)]
def mplM : MplE → Nat
  | .fine _ _ => 1
def mplDecE (o : Out) (vs : List AV) (H : Heap) (N : Nat) : Option MplE := match o, vs, H.find 0, N with
  | .exit 0, [], some ⟨true, [.arr [.int .u8] m d]⟩, 1 => some (.fine m d)
  | _, _, _, _ => none
theorem mplDecE_ok (o : Out) (vs : List AV) (H : Heap) (N : Nat) (z : MplE) (h : mplDecE o vs H N = some z) : o = mplO z ∧ o ≠ .normal ∧ vs = mplV z ∧ (mplG z).sub H ∧ N = mplM z := by
  unfold mplDecE at h
  split at h
  all_goals first
    | (cases h; done)
    | (cases h; refine ⟨rfl, nofun, rfl, ?_, rfl⟩; repeat (first | exact sub_nil | refine sub_cons (by assumption) ?_))
noncomputable def mplStep : MplS → Option (MplS ⊕ MplE)
 | .a m d o n v ln ix =>
 (cond (ix.slt ln)
 (cond (nonneg IntKind.i64 (8#64 * ix))
 (cond (nonneg IntKind.i64 ix && decide (ix.toNat < n))
 (cond (decide (o + ix.toNat < m) && decide (o + ix.toNat < d.length))
 (some (Sum.inl (MplS.a m (d.set (o + ix.toNat) [AV.int IntKind.u8 (BitVec.setWidth 8 (v >>> min (8#64 * ix).toNat 64))]) o n v ln (ix + 1#64))))
    none)
   none)
  none)
 (some (Sum.inr (MplE.fine m d))))
end Go.Sx

/- Memory: bytes put together, and laid. -/
namespace Go.Sx
open Go
theorem condK {R : Type} {c : Bool} {x : Option R} {r : R} (h : cond c x none = some r) : c = true ∧ x = some r := by
  cases c with
  | false => simp at h
  | true => exact ⟨rfl, h⟩
theorem ofNat_inc {i : Nat} (h : i < 2 ^ 63) : BitVec.ofNat 64 i + 1#64 = BitVec.ofNat 64 (i + 1) := by
  apply BitVec.eq_of_toNat_eq; rw [inc_nat (by rw [ofNat_toNat (by omega)]; exact h), ofNat_toNat (by omega), ofNat_toNat (by omega)]
theorem mul8 {i : Nat} (h : i < 2 ^ 32) : (8#64 * BitVec.ofNat 64 i).toNat = 8 * i := by
  rw [BitVec.toNat_mul, ofNat_toNat (n := i) (by omega), show (8#64).toNat = 8 from rfl]; exact Nat.mod_eq_of_lt (by omega)
def byteOf (v : BitVec 64) (i : Nat) : BitVec 8 := BitVec.setWidth 8 (v >>> min (8 * i) 64)
def v_put (d : List (List AV)) (o n : Nat) (v : BitVec 64) : List (List AV) := (List.range n).foldl (fun d i => d.set (o + i) [.int .u8 (byteOf v i)]) d
theorem v_put_succ (d : List (List AV)) (o n : Nat) (v : BitVec 64) : v_put d o (n + 1) v = (v_put d o n v).set (o + n) [.int .u8 (byteOf v n)] := by
  simp [v_put, List.range_succ, List.foldl_append]
theorem v_put_len (d : List (List AV)) (o : Nat) (v : BitVec 64) : ∀ n, (v_put d o n v).length = d.length
  | 0 => rfl
  | n + 1 => by rw [v_put_succ, List.length_set, v_put_len d o v n]
def g_put (m : Nat) (d : List (List AV)) (o n : Nat) : Bool := Nat.ble (o + n) m && (Nat.beq d.length m && Nat.ble n 16)
theorem g_put_iff {m : Nat} {d : List (List AV)} {o n : Nat} : g_put m d o n = true ↔ o + n ≤ m ∧ d.length = m ∧ n ≤ 16 := by
  simp only [g_put, Bool.and_eq_true, beq_true, Nat.ble_eq]
theorem mpl_rn (m : Nat) (d : List (List AV)) (o n : Nat) (v : BitVec 64) (h1 : o + n ≤ m) (h2 : d.length = m) (h3 : n ≤ 16) : ∀ (j i : Nat), n - i = j → i ≤ n →
    Rn mplStep (.a m (v_put d o i v) o n v (BitVec.ofNat 64 n) (BitVec.ofNat 64 i)) (.fine m (v_put d o n v)) := by
  intro j
  induction j with
  | zero =>
    intro i hj hi
    have : i = n := by omega
    subst this
    refine .last ?_
    simp only [mplStep]
    have hi : (BitVec.ofNat 64 i).toNat = i := ofNat_toNat (by omega)
    rw [slt_nat (by omega) (by omega), decide_eq_false (by omega)]; rfl
  | succ j ih =>
    intro i hj hi
    have e := ofNat_inc (i := i) (by omega)
    have hi2 : (BitVec.ofNat 64 i).toNat = i := ofNat_toNat (by omega)
    refine .next (y := .a m (v_put d o (i + 1) v) o n v (BitVec.ofNat 64 n) (BitVec.ofNat 64 (i + 1))) ?_ (ih (i + 1) (by omega) (by omega))
    simp only [mplStep]
    have h8 := mul8 (i := i) (by omega)
    rw [slt_nat (by omega) (by rw [ofNat_toNat (by omega)]; omega), nonneg_lt (by omega), nonneg_lt (by omega), h8, hi2, ofNat_toNat (n := n) (by omega), v_put_len, e, v_put_succ]
    rw [decide_eq_true (show i < n by omega), decide_eq_true (show o + i < m by omega), decide_eq_true (show o + i < d.length by omega)]
    rfl
def mplCps : Cps MplS := fun R x K => match x with
  | .a m d o n v ln ix => cond (g_put m d o n && (ln == BitVec.ofNat 64 n && ix == 0#64)) (K (.exit 0) (tmOf [] []) [(0, ⟨true, [.arr [.int .u8] m (v_put d o n v)]⟩)] 1) none
theorem mplCps_ok (R : Type) (x : MplS) (K : Out → TM → Heap → Nat → Option R) (r : R) (h : mplCps R x K = some r) : ∃ z, Rn mplStep x z ∧ K (mplO z) (tmOf [] (mplV z)) (mplG z) (mplM z) = some r := by
  cases x with
  | a m d o n v ln ix =>
    obtain ⟨hg, hk⟩ := condK h
    simp only [Bool.and_eq_true, beq_iff_eq] at hg
    obtain ⟨hg, rfl, rfl⟩ := hg
    obtain ⟨h1, h2, h3⟩ := g_put_iff.1 hg
    exact ⟨.fine m (v_put d o n v), mpl_rn m d o n v h1 h2 h3 n 0 (by omega) (by omega), hk⟩
def bA (d : List (List AV)) (i : Nat) : BitVec 8 := asU8 ((d.getD i []).headD .any)
def v_get (d : List (List AV)) (o n : Nat) : BitVec 64 := (List.range n).foldl (fun v i => v ||| BitVec.setWidth 64 (bA d (o + i)) <<< min (8 * i) 64) 0#64
theorem v_get_succ (d : List (List AV)) (o n : Nat) : v_get d o (n + 1) = v_get d o n ||| BitVec.setWidth 64 (bA d (o + n)) <<< min (8 * n) 64 := by
  simp [v_get, List.range_succ, List.foldl_append]
def g_get (m o n : Nat) : Bool := Nat.ble (o + n) m && Nat.ble n 16
theorem g_get_iff {m o n : Nat} : g_get m o n = true ↔ o + n ≤ m ∧ n ≤ 16 := by
  simp only [g_get, Bool.and_eq_true, Nat.ble_eq]
theorem mgl_rn (rw : Bool) (m : Nat) (d : List (List AV)) (o n : Nat) (h1 : o + n ≤ m) (h3 : n ≤ 16) : ∀ (j i : Nat), n - i = j → i ≤ n →
    Rn mglStep (.a rw m d o n (v_get d o i) (BitVec.ofNat 64 n) (BitVec.ofNat 64 i)) (.fine rw m d (v_get d o n)) := by
  intro j
  induction j with
  | zero =>
    intro i hj hi
    have : i = n := by omega
    subst this
    refine .last ?_
    simp only [mglStep]
    have hi : (BitVec.ofNat 64 i).toNat = i := ofNat_toNat (by omega)
    rw [slt_nat (by omega) (by omega), decide_eq_false (by omega)]; rfl
  | succ j ih =>
    intro i hj hi
    have e := ofNat_inc (i := i) (by omega)
    have hi2 : (BitVec.ofNat 64 i).toNat = i := ofNat_toNat (by omega)
    refine .next (y := .a rw m d o n (v_get d o (i + 1)) (BitVec.ofNat 64 n) (BitVec.ofNat 64 (i + 1))) ?_ (ih (i + 1) (by omega) (by omega))
    simp only [mglStep]
    have h8 := mul8 (i := i) (by omega)
    rw [slt_nat (by omega) (by rw [ofNat_toNat (by omega)]; omega), nonneg_lt (by omega), nonneg_lt (by omega), h8, hi2, ofNat_toNat (n := n) (by omega), e, v_get_succ]
    rw [decide_eq_true (show i < n by omega), decide_eq_true (show o + i < m by omega)]
    rfl
def mglCps : Cps MglS := fun R x K => match x with
  | .a rw m d o n v ln ix => cond (g_get m o n && (ln == BitVec.ofNat 64 n && (ix == 0#64 && v == 0#64))) (K (.exit 0) (tmOf [2] [.int .u64 (v_get d o n)]) [(0, ⟨rw, [.arr [.int .u8] m d]⟩)] 1) none
theorem mglCps_ok (R : Type) (x : MglS) (K : Out → TM → Heap → Nat → Option R) (r : R) (h : mglCps R x K = some r) : ∃ z, Rn mglStep x z ∧ K (mglO z) (tmOf [2] (mglV z)) (mglG z) (mglM z) = some r := by
  cases x with
  | a rw m d o n v ln ix =>
    obtain ⟨hg, hk⟩ := condK h
    simp only [Bool.and_eq_true, beq_iff_eq] at hg
    obtain ⟨hg, rfl, rfl, rfl⟩ := hg
    obtain ⟨h1, h3⟩ := g_get_iff.1 hg
    exact ⟨.fine rw m d (v_get d o n), mgl_rn rw m d o n h1 h3 n 0 (by omega) (by omega), hk⟩
end Go.Sx

/- What loops do, round by round. -/
namespace Go.Sx
open Go

/-! ### a number of bytes -/
inductive MgeS where
  | s (rw : Bool) (m : Nat) (d : List (List AV)) (o : Nat) (n : Nat)
  | z 
inductive MgeR where
  | s (rw : Bool) (m : Nat) (d : List (List AV)) (v : BitVec 64)
  | z (v : BitVec 64)
def mgeA : MgeS → List AV
  | .s _ _ _ o n => [.slice ⟨0, 0, o, 1, 0⟩ 1 n]
  | .z => [.nilslice]
def mgeH : MgeS → Heap
  | .s rw m d _ _ => [(0, ⟨rw, [.arr [.int .u8] m d]⟩)]
  | .z => []
def mgeDec (args : List AV) (H : Heap) : Option MgeS := match args, H with
  | [.slice ⟨0, 0, o, 1, 0⟩ 1 n], [(0, ⟨rw, [.arr [.int .u8] m d]⟩)] => some (.s rw m d o n)
  | [.nilslice], [] => some (.z)
  | _, _ => none
theorem mgeDec_ok (args : List AV) (H : Heap) (x : MgeS) (h : mgeDec args H = some x) : args = mgeA x ∧ H = mgeH x := by
  unfold mgeDec at h
  split at h
  all_goals first
    | (cases h; done)
    | (cases h; exact ⟨rfl, rfl⟩)
def mgeU : MgeR → AV × Eff × Nat
  | .s rw m d v => (.int .u64 v, [(0, some ⟨rw, [.arr [.int .u8] m d]⟩)], 1)
  | .z v => (.int .u64 v, [], 0)
def mgeDecR (v : AV) (e : Eff) (k : Nat) : Option MgeR := match v, e, k with
  | .int .u64 v, [(0, some ⟨rw, [.arr [.int .u8] m d]⟩)], 1 => some (.s rw m d v)
  | .int .u64 v, [], 0 => some (.z v)
  | _, _, _ => none
theorem mgeDecR_ok (v : AV) (e : Eff) (k : Nat) (z : MgeR) (h : mgeDecR v e k = some z) : (v, e, k) = mgeU z := by
  unfold mgeDecR at h
  split at h
  all_goals first
    | (cases h; done)
    | (cases h; rfl)
noncomputable def mgeStep : MgeS → Option MgeR
 | .s rw m d o n =>
 (cond (g_get m o n && (BitVec.ofNat 64 n == BitVec.ofNat 64 n && true))
 (some (MgeR.s rw m d (v_get d o n)))
 none)
 | .z =>
 (some (MgeR.z 0#64))

/-! ### a number laid -/
inductive MpuS where
  | a (m : Nat) (d : List (List AV)) (o : Nat) (n : Nat) (v : BitVec 64)
inductive MpuR where
  | a (m : Nat) (d : List (List AV))
def mpuA : MpuS → List AV
  | .a _ _ o n v => [.slice ⟨0, 0, o, 1, 0⟩ 1 n, .int .u64 v]
def mpuH : MpuS → Heap
  | .a m d _ _ _ => [(0, ⟨true, [.arr [.int .u8] m d]⟩)]
def mpuDec (args : List AV) (H : Heap) : Option MpuS := match args, H with
  | [.slice ⟨0, 0, o, 1, 0⟩ 1 n, .int .u64 v], [(0, ⟨true, [.arr [.int .u8] m d]⟩)] => some (.a m d o n v)
  | _, _ => none
theorem mpuDec_ok (args : List AV) (H : Heap) (x : MpuS) (h : mpuDec args H = some x) : args = mpuA x ∧ H = mpuH x := by
  unfold mpuDec at h
  split at h
  all_goals first
    | (cases h; done)
    | (cases h; exact ⟨rfl, rfl⟩)
def mpuU : MpuR → AV × Eff × Nat
  | .a m d => (.tup [], [(0, some ⟨true, [.arr [.int .u8] m d]⟩)], 1)
def mpuDecR (v : AV) (e : Eff) (k : Nat) : Option MpuR := match v, e, k with
  | .tup [], [(0, some ⟨true, [.arr [.int .u8] m d]⟩)], 1 => some (.a m d)
  | _, _, _ => none
theorem mpuDecR_ok (v : AV) (e : Eff) (k : Nat) (z : MpuR) (h : mpuDecR v e k = some z) : (v, e, k) = mpuU z := by
  unfold mpuDecR at h
  split at h
  all_goals first
    | (cases h; done)
    | (cases h; rfl)
noncomputable def mpuStep : MpuS → Option MpuR
 | .a m d o n v =>
 (cond (g_put m d o n && (BitVec.ofNat 64 n == BitVec.ofNat 64 n && true))
 (some (MpuR.a m (v_put d o n v)))
 none)
end Go.Sx

/- Memory: numbers of bytes. -/
namespace Go.Sx
open Go
def mpuCps : ECps MpuS MpuR := fun R x K => match x with
  | .a m d o n v => cond (g_put m d o n) (K (.a m (v_put d o n v))) none
theorem mpuCps_ok : ECok mpuStep mpuCps := by
  intro R x K r h
  cases x with
  | a m d o n v =>
    obtain ⟨hg, hk⟩ := condK h
    refine ⟨_, ?_, hk⟩
    simp only [mpuStep, hg, beq_self_eq_true, Bool.and_true, cond_true]
def mgeCps : ECps MgeS MgeR := fun R x K => match x with
  | .s rw m d o n => cond (g_get m o n) (K (.s rw m d (v_get d o n))) none
  | .z => K (.z 0#64)
theorem mgeCps_ok : ECok mgeStep mgeCps := by
  intro R x K r h
  cases x with
  | s rw m d o n =>
    obtain ⟨hg, hk⟩ := condK h
    refine ⟨_, ?_, hk⟩
    simp only [mgeStep, hg, beq_self_eq_true, Bool.and_true, cond_true]
  | z => exact ⟨_, rfl, h⟩
end Go.Sx

/- What loops do, round by round. -/
namespace Go.Sx
open Go

/-! ### a load -/
inductive MrlS where
  | a (n : Nat) (tg : List (List AV)) (m : Nat) (d : List (List AV)) (off : BitVec 64) (size : BitVec 64)
inductive MrlR where
  | a (x : BitVec 64) (r : Bool) (n2 : Nat) (tg2 : List (List AV)) (m2 : Nat) (d2 : List (List AV))
def mrlA : MrlS → List AV
  | .a _ _ _ _ off size => [.ptr ⟨0, 0, 0, 0, 0⟩, .int .i64 off, .int .i64 size]
def mrlH : MrlS → Heap
  | .a n tg m d _ _ => [(0, ⟨true, [.cell (.slice ⟨1, 0, 0, 1, 0⟩ 1 n), .arr [.int .u64] 64 tg]⟩), (1, ⟨true, [.arr [.int .u8] m d]⟩)]
def mrlDec (args : List AV) (H : Heap) : Option MrlS := match args, H with
  | [.ptr ⟨0, 0, 0, 0, 0⟩, .int .i64 off, .int .i64 size], [(0, ⟨true, [.cell (.slice ⟨1, 0, 0, 1, 0⟩ 1 n), .arr [.int .u64] 64 tg]⟩), (1, ⟨true, [.arr [.int .u8] m d]⟩)] => some (.a n tg m d off size)
  | _, _ => none
theorem mrlDec_ok (args : List AV) (H : Heap) (x : MrlS) (h : mrlDec args H = some x) : args = mrlA x ∧ H = mrlH x := by
  unfold mrlDec at h
  split at h
  all_goals first
    | (cases h; done)
    | (cases h; exact ⟨rfl, rfl⟩)
def mrlU : MrlR → AV × Eff × Nat
  | .a x r n2 tg2 m2 d2 => (.tup [.int .u64 x, .bool r], [(1, some ⟨true, [.arr [.int .u8] m2 d2]⟩), (0, some ⟨true, [.cell (.slice ⟨1, 0, 0, 1, 0⟩ 1 n2), .arr [.int .u64] 64 tg2]⟩)], 2)
def mrlDecR (v : AV) (e : Eff) (k : Nat) : Option MrlR := match v, e, k with
  | .tup [.int .u64 x, .bool r], [(1, some ⟨true, [.arr [.int .u8] m2 d2]⟩), (0, some ⟨true, [.cell (.slice ⟨1, 0, 0, 1, 0⟩ 1 n2), .arr [.int .u64] 64 tg2]⟩)], 2 => some (.a x r n2 tg2 m2 d2)
  | _, _, _ => none
theorem mrlDecR_ok (v : AV) (e : Eff) (k : Nat) (z : MrlR) (h : mrlDecR v e k = some z) : (v, e, k) = mrlU z := by
  unfold mrlDecR at h
  split at h
  all_goals first
    | (cases h; done)
    | (cases h; rfl)
noncomputable def mrlStep : MrlS → Option MrlR
 | .a n tg m d off size =>
 (cond (size == 1#64)
 (cond (off.slt 0#64)
 (some (MrlR.a (0#64) false n tg m d))
 (cond ((BitVec.ofNat 64 n - size).slt off)
 (some (MrlR.a (0#64) false n tg m d))
 (cond (nonneg IntKind.i64 off)
 (cond (decide (n ≤ n) && (decide (off.toNat < n) || off.toNat.beq 0))
 (cond (nonneg IntKind.i64 size)
 (cond (decide (size.toNat ≤ n - off.toNat) && (decide (0 < size.toNat) || true))
 (cond (g_get m (0 + off.toNat + 0) (size.toNat - 0))
 (some (MrlR.a (v_get d (0 + off.toNat + 0) (size.toNat - 0)) true n tg m d))
        none)
       none)
      none)
     none)
    none)))
 (cond (size == 2#64)
 (cond (off.slt 0#64)
 (some (MrlR.a (0#64) false n tg m d))
 (cond ((BitVec.ofNat 64 n - size).slt off)
 (some (MrlR.a (0#64) false n tg m d))
 (cond (nonneg IntKind.i64 off)
 (cond (decide (n ≤ n) && (decide (off.toNat < n) || off.toNat.beq 0))
 (cond (nonneg IntKind.i64 size)
 (cond (decide (size.toNat ≤ n - off.toNat) && (decide (0 < size.toNat) || true))
 (cond (g_get m (0 + off.toNat + 0) (size.toNat - 0))
 (some (MrlR.a (v_get d (0 + off.toNat + 0) (size.toNat - 0)) true n tg m d))
         none)
        none)
       none)
      none)
     none)))
 (cond (size == 4#64)
 (cond (off.slt 0#64)
 (some (MrlR.a (0#64) false n tg m d))
 (cond ((BitVec.ofNat 64 n - size).slt off)
 (some (MrlR.a (0#64) false n tg m d))
 (cond (nonneg IntKind.i64 off)
 (cond (decide (n ≤ n) && (decide (off.toNat < n) || off.toNat.beq 0))
 (cond (nonneg IntKind.i64 size)
 (cond (decide (size.toNat ≤ n - off.toNat) && (decide (0 < size.toNat) || true))
 (cond (g_get m (0 + off.toNat + 0) (size.toNat - 0))
 (some (MrlR.a (v_get d (0 + off.toNat + 0) (size.toNat - 0)) true n tg m d))
          none)
         none)
        none)
       none)
      none)))
 (cond (size == 8#64)
 (cond (off.slt 0#64)
 (some (MrlR.a (0#64) false n tg m d))
 (cond ((BitVec.ofNat 64 n - size).slt off)
 (some (MrlR.a (0#64) false n tg m d))
 (cond (nonneg IntKind.i64 off)
 (cond (decide (n ≤ n) && (decide (off.toNat < n) || off.toNat.beq 0))
 (cond (nonneg IntKind.i64 size)
 (cond (decide (size.toNat ≤ n - off.toNat) && (decide (0 < size.toNat) || true))
 (cond (g_get m (0 + off.toNat + 0) (size.toNat - 0))
 (some (MrlR.a (v_get d (0 + off.toNat + 0) (size.toNat - 0)) true n tg m d))
           none)
          none)
         none)
        none)
       none)))
 (some (MrlR.a (0#64) false n tg m d))))))

/-! ### a store -/
inductive MrsS where
  | a (n : Nat) (tg : List (List AV)) (m : Nat) (d : List (List AV)) (off : BitVec 64) (size : BitVec 64) (v : BitVec 64)
inductive MrsR where
  | a (r : Bool) (n2 : Nat) (tg2 : List (List AV)) (m2 : Nat) (d2 : List (List AV))
def mrsA : MrsS → List AV
  | .a _ _ _ _ off size v => [.ptr ⟨0, 0, 0, 0, 0⟩, .int .i64 off, .int .i64 size, .int .u64 v]
def mrsH : MrsS → Heap
  | .a n tg m d _ _ _ => [(0, ⟨true, [.cell (.slice ⟨1, 0, 0, 1, 0⟩ 1 n), .arr [.int .u64] 64 tg]⟩), (1, ⟨true, [.arr [.int .u8] m d]⟩)]
def mrsDec (args : List AV) (H : Heap) : Option MrsS := match args, H with
  | [.ptr ⟨0, 0, 0, 0, 0⟩, .int .i64 off, .int .i64 size, .int .u64 v], [(0, ⟨true, [.cell (.slice ⟨1, 0, 0, 1, 0⟩ 1 n), .arr [.int .u64] 64 tg]⟩), (1, ⟨true, [.arr [.int .u8] m d]⟩)] => some (.a n tg m d off size v)
  | _, _ => none
theorem mrsDec_ok (args : List AV) (H : Heap) (x : MrsS) (h : mrsDec args H = some x) : args = mrsA x ∧ H = mrsH x := by
  unfold mrsDec at h
  split at h
  all_goals first
    | (cases h; done)
    | (cases h; exact ⟨rfl, rfl⟩)
def mrsU : MrsR → AV × Eff × Nat
  | .a r n2 tg2 m2 d2 => (.bool r, [(1, some ⟨true, [.arr [.int .u8] m2 d2]⟩), (0, some ⟨true, [.cell (.slice ⟨1, 0, 0, 1, 0⟩ 1 n2), .arr [.int .u64] 64 tg2]⟩)], 2)
def mrsDecR (v : AV) (e : Eff) (k : Nat) : Option MrsR := match v, e, k with
  | .bool r, [(1, some ⟨true, [.arr [.int .u8] m2 d2]⟩), (0, some ⟨true, [.cell (.slice ⟨1, 0, 0, 1, 0⟩ 1 n2), .arr [.int .u64] 64 tg2]⟩)], 2 => some (.a r n2 tg2 m2 d2)
  | _, _, _ => none
theorem mrsDecR_ok (v : AV) (e : Eff) (k : Nat) (z : MrsR) (h : mrsDecR v e k = some z) : (v, e, k) = mrsU z := by
  unfold mrsDecR at h
  split at h
  all_goals first
    | (cases h; done)
    | (cases h; rfl)
noncomputable def mrsStep : MrsS → Option MrsR
 | .a n tg m d off size v =>
 (cond (size == 1#64)
 (cond (off.slt 0#64)
 (some (MrsR.a false n tg m d))
 (cond ((BitVec.ofNat 64 n - size).slt off)
 (some (MrsR.a false n tg m d))
 (cond (nonneg IntKind.i64 off)
 (cond (decide (n ≤ n) && (decide (off.toNat < n) || off.toNat.beq 0))
 (cond (nonneg IntKind.i64 size)
 (cond (decide (size.toNat ≤ n - off.toNat) && (decide (0 < size.toNat) || true))
 (cond (g_put m d (0 + off.toNat + 0) (size.toNat - 0))
 (cond (nonneg IntKind.i64 (((asI64 (AV.int IntKind.i64 off)).sdiv 16#64).sdiv 64#64) && decide ((((asI64 (AV.int IntKind.i64 off)).sdiv 16#64).sdiv 64#64).toNat < 64))
 (cond (nonneg IntKind.i64 (((asI64 (AV.int IntKind.i64 off)).sdiv 16#64).srem 64#64))
 (cond (decide ((((asI64 (AV.int IntKind.i64 off)).sdiv 16#64).sdiv 64#64).toNat < 64))
 (cond (decide ((((asI64 (AV.int IntKind.i64 off)).sdiv 16#64).sdiv 64#64).toNat < 64) && decide ((((asI64 (AV.int IntKind.i64 off)).sdiv 16#64).sdiv 64#64).toNat < tg.length))
 (cond (nonneg IntKind.i64 (((asI64 (AV.int IntKind.i64 (off + size - 1#64))).sdiv 16#64).sdiv 64#64) && decide ((((asI64 (AV.int IntKind.i64 (off + size - 1#64))).sdiv 16#64).sdiv 64#64).toNat < 64))
 (cond (nonneg IntKind.i64 (((asI64 (AV.int IntKind.i64 (off + size - 1#64))).sdiv 16#64).srem 64#64))
 (cond (decide ((((asI64 (AV.int IntKind.i64 (off + size - 1#64))).sdiv 16#64).sdiv 64#64).toNat < 64))
 (cond (decide ((((asI64 (AV.int IntKind.i64 (off + size - 1#64))).sdiv 16#64).sdiv 64#64).toNat < 64) && decide ((((asI64 (AV.int IntKind.i64 (off + size - 1#64))).sdiv 16#64).sdiv 64#64).toNat < (tg.set (((asI64 (AV.int IntKind.i64 off)).sdiv 16#64).sdiv 64#64).toNat [AV.int IntKind.u64 (asU64 ((tg.getD (((asI64 (AV.int IntKind.i64 off)).sdiv 16#64).sdiv 64#64).toNat []).headD AV.any) &&& ~~~(1#64 <<< min (((asI64 (AV.int IntKind.i64 off)).sdiv 16#64).srem 64#64).toNat 64))]).length))
 (some (MrsR.a true n ((tg.set (((asI64 (AV.int IntKind.i64 off)).sdiv 16#64).sdiv 64#64).toNat [AV.int IntKind.u64 (asU64 ((tg.getD (((asI64 (AV.int IntKind.i64 off)).sdiv 16#64).sdiv 64#64).toNat []).headD AV.any) &&& ~~~(1#64 <<< min (((asI64 (AV.int IntKind.i64 off)).sdiv 16#64).srem 64#64).toNat 64))]).set (((asI64 (AV.int IntKind.i64 (off + size - 1#64))).sdiv 16#64).sdiv 64#64).toNat [AV.int IntKind.u64 (asU64 (((tg.set (((asI64 (AV.int IntKind.i64 off)).sdiv 16#64).sdiv 64#64).toNat [AV.int IntKind.u64 (asU64 ((tg.getD (((asI64 (AV.int IntKind.i64 off)).sdiv 16#64).sdiv 64#64).toNat []).headD AV.any) &&& ~~~(1#64 <<< min (((asI64 (AV.int IntKind.i64 off)).sdiv 16#64).srem 64#64).toNat 64))]).getD (((asI64 (AV.int IntKind.i64 (off + size - 1#64))).sdiv 16#64).sdiv 64#64).toNat []).headD AV.any) &&& ~~~(1#64 <<< min (((asI64 (AV.int IntKind.i64 (off + size - 1#64))).sdiv 16#64).srem 64#64).toNat 64))]) m (v_put d (0 + off.toNat + 0) (size.toNat - 0) v)))
                none)
               none)
              none)
             none)
            none)
           none)
          none)
         none)
        none)
       none)
      none)
     none)
    none)))
 (cond (size == 2#64)
 (cond (off.slt 0#64)
 (some (MrsR.a false n tg m d))
 (cond ((BitVec.ofNat 64 n - size).slt off)
 (some (MrsR.a false n tg m d))
 (cond (nonneg IntKind.i64 off)
 (cond (decide (n ≤ n) && (decide (off.toNat < n) || off.toNat.beq 0))
 (cond (nonneg IntKind.i64 size)
 (cond (decide (size.toNat ≤ n - off.toNat) && (decide (0 < size.toNat) || true))
 (cond (g_put m d (0 + off.toNat + 0) (size.toNat - 0))
 (cond (nonneg IntKind.i64 (((asI64 (AV.int IntKind.i64 off)).sdiv 16#64).sdiv 64#64) && decide ((((asI64 (AV.int IntKind.i64 off)).sdiv 16#64).sdiv 64#64).toNat < 64))
 (cond (nonneg IntKind.i64 (((asI64 (AV.int IntKind.i64 off)).sdiv 16#64).srem 64#64))
 (cond (decide ((((asI64 (AV.int IntKind.i64 off)).sdiv 16#64).sdiv 64#64).toNat < 64))
 (cond (decide ((((asI64 (AV.int IntKind.i64 off)).sdiv 16#64).sdiv 64#64).toNat < 64) && decide ((((asI64 (AV.int IntKind.i64 off)).sdiv 16#64).sdiv 64#64).toNat < tg.length))
 (cond (nonneg IntKind.i64 (((asI64 (AV.int IntKind.i64 (off + size - 1#64))).sdiv 16#64).sdiv 64#64) && decide ((((asI64 (AV.int IntKind.i64 (off + size - 1#64))).sdiv 16#64).sdiv 64#64).toNat < 64))
 (cond (nonneg IntKind.i64 (((asI64 (AV.int IntKind.i64 (off + size - 1#64))).sdiv 16#64).srem 64#64))
 (cond (decide ((((asI64 (AV.int IntKind.i64 (off + size - 1#64))).sdiv 16#64).sdiv 64#64).toNat < 64))
 (cond (decide ((((asI64 (AV.int IntKind.i64 (off + size - 1#64))).sdiv 16#64).sdiv 64#64).toNat < 64) && decide ((((asI64 (AV.int IntKind.i64 (off + size - 1#64))).sdiv 16#64).sdiv 64#64).toNat < (tg.set (((asI64 (AV.int IntKind.i64 off)).sdiv 16#64).sdiv 64#64).toNat [AV.int IntKind.u64 (asU64 ((tg.getD (((asI64 (AV.int IntKind.i64 off)).sdiv 16#64).sdiv 64#64).toNat []).headD AV.any) &&& ~~~(1#64 <<< min (((asI64 (AV.int IntKind.i64 off)).sdiv 16#64).srem 64#64).toNat 64))]).length))
 (some (MrsR.a true n ((tg.set (((asI64 (AV.int IntKind.i64 off)).sdiv 16#64).sdiv 64#64).toNat [AV.int IntKind.u64 (asU64 ((tg.getD (((asI64 (AV.int IntKind.i64 off)).sdiv 16#64).sdiv 64#64).toNat []).headD AV.any) &&& ~~~(1#64 <<< min (((asI64 (AV.int IntKind.i64 off)).sdiv 16#64).srem 64#64).toNat 64))]).set (((asI64 (AV.int IntKind.i64 (off + size - 1#64))).sdiv 16#64).sdiv 64#64).toNat [AV.int IntKind.u64 (asU64 (((tg.set (((asI64 (AV.int IntKind.i64 off)).sdiv 16#64).sdiv 64#64).toNat [AV.int IntKind.u64 (asU64 ((tg.getD (((asI64 (AV.int IntKind.i64 off)).sdiv 16#64).sdiv 64#64).toNat []).headD AV.any) &&& ~~~(1#64 <<< min (((asI64 (AV.int IntKind.i64 off)).sdiv 16#64).srem 64#64).toNat 64))]).getD (((asI64 (AV.int IntKind.i64 (off + size - 1#64))).sdiv 16#64).sdiv 64#64).toNat []).headD AV.any) &&& ~~~(1#64 <<< min (((asI64 (AV.int IntKind.i64 (off + size - 1#64))).sdiv 16#64).srem 64#64).toNat 64))]) m (v_put d (0 + off.toNat + 0) (size.toNat - 0) v)))
                 none)
                none)
               none)
              none)
             none)
            none)
           none)
          none)
         none)
        none)
       none)
      none)
     none)))
 (cond (size == 4#64)
 (cond (off.slt 0#64)
 (some (MrsR.a false n tg m d))
 (cond ((BitVec.ofNat 64 n - size).slt off)
 (some (MrsR.a false n tg m d))
 (cond (nonneg IntKind.i64 off)
 (cond (decide (n ≤ n) && (decide (off.toNat < n) || off.toNat.beq 0))
 (cond (nonneg IntKind.i64 size)
 (cond (decide (size.toNat ≤ n - off.toNat) && (decide (0 < size.toNat) || true))
 (cond (g_put m d (0 + off.toNat + 0) (size.toNat - 0))
 (cond (nonneg IntKind.i64 (((asI64 (AV.int IntKind.i64 off)).sdiv 16#64).sdiv 64#64) && decide ((((asI64 (AV.int IntKind.i64 off)).sdiv 16#64).sdiv 64#64).toNat < 64))
 (cond (nonneg IntKind.i64 (((asI64 (AV.int IntKind.i64 off)).sdiv 16#64).srem 64#64))
 (cond (decide ((((asI64 (AV.int IntKind.i64 off)).sdiv 16#64).sdiv 64#64).toNat < 64))
 (cond (decide ((((asI64 (AV.int IntKind.i64 off)).sdiv 16#64).sdiv 64#64).toNat < 64) && decide ((((asI64 (AV.int IntKind.i64 off)).sdiv 16#64).sdiv 64#64).toNat < tg.length))
 (cond (nonneg IntKind.i64 (((asI64 (AV.int IntKind.i64 (off + size - 1#64))).sdiv 16#64).sdiv 64#64) && decide ((((asI64 (AV.int IntKind.i64 (off + size - 1#64))).sdiv 16#64).sdiv 64#64).toNat < 64))
 (cond (nonneg IntKind.i64 (((asI64 (AV.int IntKind.i64 (off + size - 1#64))).sdiv 16#64).srem 64#64))
 (cond (decide ((((asI64 (AV.int IntKind.i64 (off + size - 1#64))).sdiv 16#64).sdiv 64#64).toNat < 64))
 (cond (decide ((((asI64 (AV.int IntKind.i64 (off + size - 1#64))).sdiv 16#64).sdiv 64#64).toNat < 64) && decide ((((asI64 (AV.int IntKind.i64 (off + size - 1#64))).sdiv 16#64).sdiv 64#64).toNat < (tg.set (((asI64 (AV.int IntKind.i64 off)).sdiv 16#64).sdiv 64#64).toNat [AV.int IntKind.u64 (asU64 ((tg.getD (((asI64 (AV.int IntKind.i64 off)).sdiv 16#64).sdiv 64#64).toNat []).headD AV.any) &&& ~~~(1#64 <<< min (((asI64 (AV.int IntKind.i64 off)).sdiv 16#64).srem 64#64).toNat 64))]).length))
 (some (MrsR.a true n ((tg.set (((asI64 (AV.int IntKind.i64 off)).sdiv 16#64).sdiv 64#64).toNat [AV.int IntKind.u64 (asU64 ((tg.getD (((asI64 (AV.int IntKind.i64 off)).sdiv 16#64).sdiv 64#64).toNat []).headD AV.any) &&& ~~~(1#64 <<< min (((asI64 (AV.int IntKind.i64 off)).sdiv 16#64).srem 64#64).toNat 64))]).set (((asI64 (AV.int IntKind.i64 (off + size - 1#64))).sdiv 16#64).sdiv 64#64).toNat [AV.int IntKind.u64 (asU64 (((tg.set (((asI64 (AV.int IntKind.i64 off)).sdiv 16#64).sdiv 64#64).toNat [AV.int IntKind.u64 (asU64 ((tg.getD (((asI64 (AV.int IntKind.i64 off)).sdiv 16#64).sdiv 64#64).toNat []).headD AV.any) &&& ~~~(1#64 <<< min (((asI64 (AV.int IntKind.i64 off)).sdiv 16#64).srem 64#64).toNat 64))]).getD (((asI64 (AV.int IntKind.i64 (off + size - 1#64))).sdiv 16#64).sdiv 64#64).toNat []).headD AV.any) &&& ~~~(1#64 <<< min (((asI64 (AV.int IntKind.i64 (off + size - 1#64))).sdiv 16#64).srem 64#64).toNat 64))]) m (v_put d (0 + off.toNat + 0) (size.toNat - 0) v)))
                  none)
                 none)
                none)
               none)
              none)
             none)
            none)
           none)
          none)
         none)
        none)
       none)
      none)))
 (cond (size == 8#64)
 (cond (off.slt 0#64)
 (some (MrsR.a false n tg m d))
 (cond ((BitVec.ofNat 64 n - size).slt off)
 (some (MrsR.a false n tg m d))
 (cond (nonneg IntKind.i64 off)
 (cond (decide (n ≤ n) && (decide (off.toNat < n) || off.toNat.beq 0))
 (cond (nonneg IntKind.i64 size)
 (cond (decide (size.toNat ≤ n - off.toNat) && (decide (0 < size.toNat) || true))
 (cond (g_put m d (0 + off.toNat + 0) (size.toNat - 0))
 (cond (nonneg IntKind.i64 (((asI64 (AV.int IntKind.i64 off)).sdiv 16#64).sdiv 64#64) && decide ((((asI64 (AV.int IntKind.i64 off)).sdiv 16#64).sdiv 64#64).toNat < 64))
 (cond (nonneg IntKind.i64 (((asI64 (AV.int IntKind.i64 off)).sdiv 16#64).srem 64#64))
 (cond (decide ((((asI64 (AV.int IntKind.i64 off)).sdiv 16#64).sdiv 64#64).toNat < 64))
 (cond (decide ((((asI64 (AV.int IntKind.i64 off)).sdiv 16#64).sdiv 64#64).toNat < 64) && decide ((((asI64 (AV.int IntKind.i64 off)).sdiv 16#64).sdiv 64#64).toNat < tg.length))
 (cond (nonneg IntKind.i64 (((asI64 (AV.int IntKind.i64 (off + size - 1#64))).sdiv 16#64).sdiv 64#64) && decide ((((asI64 (AV.int IntKind.i64 (off + size - 1#64))).sdiv 16#64).sdiv 64#64).toNat < 64))
 (cond (nonneg IntKind.i64 (((asI64 (AV.int IntKind.i64 (off + size - 1#64))).sdiv 16#64).srem 64#64))
 (cond (decide ((((asI64 (AV.int IntKind.i64 (off + size - 1#64))).sdiv 16#64).sdiv 64#64).toNat < 64))
 (cond (decide ((((asI64 (AV.int IntKind.i64 (off + size - 1#64))).sdiv 16#64).sdiv 64#64).toNat < 64) && decide ((((asI64 (AV.int IntKind.i64 (off + size - 1#64))).sdiv 16#64).sdiv 64#64).toNat < (tg.set (((asI64 (AV.int IntKind.i64 off)).sdiv 16#64).sdiv 64#64).toNat [AV.int IntKind.u64 (asU64 ((tg.getD (((asI64 (AV.int IntKind.i64 off)).sdiv 16#64).sdiv 64#64).toNat []).headD AV.any) &&& ~~~(1#64 <<< min (((asI64 (AV.int IntKind.i64 off)).sdiv 16#64).srem 64#64).toNat 64))]).length))
 (some (MrsR.a true n ((tg.set (((asI64 (AV.int IntKind.i64 off)).sdiv 16#64).sdiv 64#64).toNat [AV.int IntKind.u64 (asU64 ((tg.getD (((asI64 (AV.int IntKind.i64 off)).sdiv 16#64).sdiv 64#64).toNat []).headD AV.any) &&& ~~~(1#64 <<< min (((asI64 (AV.int IntKind.i64 off)).sdiv 16#64).srem 64#64).toNat 64))]).set (((asI64 (AV.int IntKind.i64 (off + size - 1#64))).sdiv 16#64).sdiv 64#64).toNat [AV.int IntKind.u64 (asU64 (((tg.set (((asI64 (AV.int IntKind.i64 off)).sdiv 16#64).sdiv 64#64).toNat [AV.int IntKind.u64 (asU64 ((tg.getD (((asI64 (AV.int IntKind.i64 off)).sdiv 16#64).sdiv 64#64).toNat []).headD AV.any) &&& ~~~(1#64 <<< min (((asI64 (AV.int IntKind.i64 off)).sdiv 16#64).srem 64#64).toNat 64))]).getD (((asI64 (AV.int IntKind.i64 (off + size - 1#64))).sdiv 16#64).sdiv 64#64).toNat []).headD AV.any) &&& ~~~(1#64 <<< min (((asI64 (AV.int IntKind.i64 (off + size - 1#64))).sdiv 16#64).srem 64#64).toNat 64))]) m (v_put d (0 + off.toNat + 0) (size.toNat - 0) v)))
                   none)
                  none)
                 none)
                none)
               none)
              none)
             none)
            none)
           none)
          none)
         none)
        none)
       none)))
 (some (MrsR.a false n tg m d))))))

/-! ### a granule -/
inductive MrcS where
  | a (n : Nat) (tg : List (List AV)) (m : Nat) (d : List (List AV)) (off : BitVec 64)
inductive MrcR where
  | a (t : Bool) (x : BitVec 64) (y : BitVec 64) (r : Bool) (n2 : Nat) (tg2 : List (List AV)) (m2 : Nat) (d2 : List (List AV))
def mrcA : MrcS → List AV
  | .a _ _ _ _ off => [.ptr ⟨0, 0, 0, 0, 0⟩, .int .i64 off]
def mrcH : MrcS → Heap
  | .a n tg m d _ => [(0, ⟨true, [.cell (.slice ⟨1, 0, 0, 1, 0⟩ 1 n), .arr [.int .u64] 64 tg]⟩), (1, ⟨true, [.arr [.int .u8] m d]⟩)]
def mrcDec (args : List AV) (H : Heap) : Option MrcS := match args, H with
  | [.ptr ⟨0, 0, 0, 0, 0⟩, .int .i64 off], [(0, ⟨true, [.cell (.slice ⟨1, 0, 0, 1, 0⟩ 1 n), .arr [.int .u64] 64 tg]⟩), (1, ⟨true, [.arr [.int .u8] m d]⟩)] => some (.a n tg m d off)
  | _, _ => none
theorem mrcDec_ok (args : List AV) (H : Heap) (x : MrcS) (h : mrcDec args H = some x) : args = mrcA x ∧ H = mrcH x := by
  unfold mrcDec at h
  split at h
  all_goals first
    | (cases h; done)
    | (cases h; exact ⟨rfl, rfl⟩)
def mrcU : MrcR → AV × Eff × Nat
  | .a t x y r n2 tg2 m2 d2 => (.tup [.bool t, .int .u64 x, .int .u64 y, .bool r], [(1, some ⟨true, [.arr [.int .u8] m2 d2]⟩), (0, some ⟨true, [.cell (.slice ⟨1, 0, 0, 1, 0⟩ 1 n2), .arr [.int .u64] 64 tg2]⟩)], 2)
def mrcDecR (v : AV) (e : Eff) (k : Nat) : Option MrcR := match v, e, k with
  | .tup [.bool t, .int .u64 x, .int .u64 y, .bool r], [(1, some ⟨true, [.arr [.int .u8] m2 d2]⟩), (0, some ⟨true, [.cell (.slice ⟨1, 0, 0, 1, 0⟩ 1 n2), .arr [.int .u64] 64 tg2]⟩)], 2 => some (.a t x y r n2 tg2 m2 d2)
  | _, _, _ => none
theorem mrcDecR_ok (v : AV) (e : Eff) (k : Nat) (z : MrcR) (h : mrcDecR v e k = some z) : (v, e, k) = mrcU z := by
  unfold mrcDecR at h
  split at h
  all_goals first
    | (cases h; done)
    | (cases h; rfl)
noncomputable def mrcStep : MrcS → Option MrcR
 | .a n tg m d off =>
 (cond (off.slt 0#64)
 (some (MrcR.a false (0#64) (0#64) false n tg m d))
 (cond ((BitVec.ofNat 64 n - 16#64).slt off)
 (some (MrcR.a false (0#64) (0#64) false n tg m d))
 (cond (nonneg IntKind.i64 off)
 (cond (decide (n ≤ n) && (decide (off.toNat < n) || off.toNat.beq 0))
 (cond (decide (16 ≤ n - off.toNat) && true)
 (cond (!off.srem 16#64 == 0#64)
 (some (MrcR.a false (0#64) (0#64) false n tg m d))
 (cond (nonneg IntKind.i64 ((off.sdiv 16#64).sdiv 64#64) && decide (((off.sdiv 16#64).sdiv 64#64).toNat < 64))
 (cond (nonneg IntKind.i64 ((off.sdiv 16#64).srem 64#64))
 (cond (decide (((off.sdiv 16#64).sdiv 64#64).toNat < 64))
 (cond (g_get m (0 + off.toNat + 0 + 0) 8)
 (cond (g_get m (0 + off.toNat + 0 + 8) 8)
 (some (MrcR.a (!asU64 ((tg.getD ((off.sdiv 16#64).sdiv 64#64).toNat []).headD AV.any) &&& 1#64 <<< min ((off.sdiv 16#64).srem 64#64).toNat 64 == 0#64) (v_get d (0 + off.toNat + 0 + 0) 8) (v_get d (0 + off.toNat + 0 + 8) 8) true n tg m d))
           none)
          none)
         none)
        none)
       none))
     none)
    none)
   none)))

/-! ### a granule laid -/
inductive MrtS where
  | a (n : Nat) (tg : List (List AV)) (m : Nat) (d : List (List AV)) (off : BitVec 64) (t : Bool) (x : BitVec 64) (y : BitVec 64)
inductive MrtR where
  | a (r : Bool) (n2 : Nat) (tg2 : List (List AV)) (m2 : Nat) (d2 : List (List AV))
def mrtA : MrtS → List AV
  | .a _ _ _ _ off t x y => [.ptr ⟨0, 0, 0, 0, 0⟩, .int .i64 off, .bool t, .int .u64 x, .int .u64 y]
def mrtH : MrtS → Heap
  | .a n tg m d _ _ _ _ => [(0, ⟨true, [.cell (.slice ⟨1, 0, 0, 1, 0⟩ 1 n), .arr [.int .u64] 64 tg]⟩), (1, ⟨true, [.arr [.int .u8] m d]⟩)]
def mrtDec (args : List AV) (H : Heap) : Option MrtS := match args, H with
  | [.ptr ⟨0, 0, 0, 0, 0⟩, .int .i64 off, .bool t, .int .u64 x, .int .u64 y], [(0, ⟨true, [.cell (.slice ⟨1, 0, 0, 1, 0⟩ 1 n), .arr [.int .u64] 64 tg]⟩), (1, ⟨true, [.arr [.int .u8] m d]⟩)] => some (.a n tg m d off t x y)
  | _, _ => none
theorem mrtDec_ok (args : List AV) (H : Heap) (x : MrtS) (h : mrtDec args H = some x) : args = mrtA x ∧ H = mrtH x := by
  unfold mrtDec at h
  split at h
  all_goals first
    | (cases h; done)
    | (cases h; exact ⟨rfl, rfl⟩)
def mrtU : MrtR → AV × Eff × Nat
  | .a r n2 tg2 m2 d2 => (.bool r, [(1, some ⟨true, [.arr [.int .u8] m2 d2]⟩), (0, some ⟨true, [.cell (.slice ⟨1, 0, 0, 1, 0⟩ 1 n2), .arr [.int .u64] 64 tg2]⟩)], 2)
def mrtDecR (v : AV) (e : Eff) (k : Nat) : Option MrtR := match v, e, k with
  | .bool r, [(1, some ⟨true, [.arr [.int .u8] m2 d2]⟩), (0, some ⟨true, [.cell (.slice ⟨1, 0, 0, 1, 0⟩ 1 n2), .arr [.int .u64] 64 tg2]⟩)], 2 => some (.a r n2 tg2 m2 d2)
  | _, _, _ => none
theorem mrtDecR_ok (v : AV) (e : Eff) (k : Nat) (z : MrtR) (h : mrtDecR v e k = some z) : (v, e, k) = mrtU z := by
  unfold mrtDecR at h
  split at h
  all_goals first
    | (cases h; done)
    | (cases h; rfl)
noncomputable def mrtStep : MrtS → Option MrtR
 | .a n tg m d off t x y =>
 (cond (off.slt 0#64)
 (some (MrtR.a false n tg m d))
 (cond ((BitVec.ofNat 64 n - 16#64).slt off)
 (some (MrtR.a false n tg m d))
 (cond (nonneg IntKind.i64 off)
 (cond (decide (n ≤ n) && (decide (off.toNat < n) || off.toNat.beq 0))
 (cond (decide (16 ≤ n - off.toNat) && true)
 (cond (!off.srem 16#64 == 0#64)
 (some (MrtR.a false n tg m d))
 (cond (g_put m d (0 + off.toNat + 0 + 0) 8)
 (cond (g_put m (v_put d (0 + off.toNat + 0 + 0) 8 x) (0 + off.toNat + 0 + 8) 8)
 (cond (nonneg IntKind.i64 ((off.sdiv 16#64).sdiv 64#64) && decide (((off.sdiv 16#64).sdiv 64#64).toNat < 64))
 (cond (nonneg IntKind.i64 ((off.sdiv 16#64).srem 64#64))
 (cond (decide (((off.sdiv 16#64).sdiv 64#64).toNat < 64))
 (cond (decide (((off.sdiv 16#64).sdiv 64#64).toNat < 64) && decide (((off.sdiv 16#64).sdiv 64#64).toNat < tg.length))
 (cond (t)
 (cond (decide (((off.sdiv 16#64).sdiv 64#64).toNat < 64))
 (cond (decide (((off.sdiv 16#64).sdiv 64#64).toNat < 64) && decide (((off.sdiv 16#64).sdiv 64#64).toNat < (tg.set ((off.sdiv 16#64).sdiv 64#64).toNat [AV.int IntKind.u64 (asU64 ((tg.getD ((off.sdiv 16#64).sdiv 64#64).toNat []).headD AV.any) &&& ~~~(1#64 <<< min ((off.sdiv 16#64).srem 64#64).toNat 64))]).length))
 (some (MrtR.a true n ((tg.set ((off.sdiv 16#64).sdiv 64#64).toNat [AV.int IntKind.u64 (asU64 ((tg.getD ((off.sdiv 16#64).sdiv 64#64).toNat []).headD AV.any) &&& ~~~(1#64 <<< min ((off.sdiv 16#64).srem 64#64).toNat 64))]).set ((off.sdiv 16#64).sdiv 64#64).toNat [AV.int IntKind.u64 (asU64 (((tg.set ((off.sdiv 16#64).sdiv 64#64).toNat [AV.int IntKind.u64 (asU64 ((tg.getD ((off.sdiv 16#64).sdiv 64#64).toNat []).headD AV.any) &&& ~~~(1#64 <<< min ((off.sdiv 16#64).srem 64#64).toNat 64))]).getD ((off.sdiv 16#64).sdiv 64#64).toNat []).headD AV.any) ||| 1#64 <<< min ((off.sdiv 16#64).srem 64#64).toNat 64)]) m (v_put (v_put d (0 + off.toNat + 0 + 0) 8 x) (0 + off.toNat + 0 + 8) 8 y)))
               none)
              none)
 (some (MrtR.a true n (tg.set ((off.sdiv 16#64).sdiv 64#64).toNat [AV.int IntKind.u64 (asU64 ((tg.getD ((off.sdiv 16#64).sdiv 64#64).toNat []).headD AV.any) &&& ~~~(1#64 <<< min ((off.sdiv 16#64).srem 64#64).toNat 64))]) m (v_put (v_put d (0 + off.toNat + 0 + 0) 8 x) (0 + off.toNat + 0 + 8) 8 y))))
            none)
           none)
          none)
         none)
        none)
       none))
     none)
    none)
   none)))
end Go.Sx

/- Memory: loads and stores, as answers. -/
namespace Go.Sx
open Go
def g_ram (n : Nat) (tg : List (List AV)) (m : Nat) (d : List (List AV)) : Bool := Nat.beq m n && (Nat.beq d.length n && (Nat.beq tg.length 64 && (Nat.ble 4096 n && Nat.ble n 65536)))
theorem g_ram_iff {n : Nat} {tg : List (List AV)} {m : Nat} {d : List (List AV)} : g_ram n tg m d = true ↔ m = n ∧ d.length = n ∧ tg.length = 64 ∧ 4096 ≤ n ∧ n ≤ 65536 := by
  simp only [g_ram, Bool.and_eq_true, beq_true, Nat.ble_eq]
def v_clr (tg : List (List AV)) (o : Nat) : List (List AV) := tg.set (o / 1024) [.int .u64 (asU64 ((tg.getD (o / 1024) []).headD .any) &&& ~~~(1#64 <<< min (o / 16 % 64) 64))]
def v_lay (tg : List (List AV)) (o : Nat) : List (List AV) := tg.set (o / 1024) [.int .u64 (asU64 ((tg.getD (o / 1024) []).headD .any) ||| 1#64 <<< min (o / 16 % 64) 64)]
theorem v_clr_len (tg : List (List AV)) (o : Nat) : (v_clr tg o).length = tg.length := by simp [v_clr]
theorem v_lay_len (tg : List (List AV)) (o : Nat) : (v_lay tg o).length = tg.length := by simp [v_lay]
/-- A number's place: is it there? -/
def v_in (n : Nat) (off size : BitVec 64) : Bool := !off.slt 0#64 && !(BitVec.ofNat 64 n - size).slt off
def v_sized (size : BitVec 64) : Bool := size == 1#64 || (size == 2#64 || (size == 4#64 || size == 8#64))
def v_ok (n : Nat) (off size : BitVec 64) : Bool := v_sized size && v_in n off size
theorem v_in_iff {n : Nat} {off size : BitVec 64} (hn : n ≤ 65536) (hs : size.toNat ≤ n) : v_in n off size = true ↔ off.toNat + size.toNat ≤ n := by
  unfold v_in
  have e : (BitVec.ofNat 64 n - size).toNat = n - size.toNat := by
    rw [BitVec.toNat_sub, ofNat_toNat (n := n) (by omega)]; omega
  rw [Bool.and_eq_true, Bool.not_eq_true', Bool.not_eq_true']
  rw [sltR off 0#64 (by decide)]
  constructor
  · rintro ⟨h1, h2⟩
    have h1' : off.toNat < 2 ^ 63 := by simp at h1; omega
    rw [slt_nat (by omega) h1', decide_eq_false_iff_not, e] at h2
    omega
  · intro h
    have h1' : off.toNat < 2 ^ 63 := by omega
    refine ⟨by simp; omega, ?_⟩
    rw [slt_nat (by omega) h1', decide_eq_false_iff_not, e]
    omega
theorem v_sized_nat {size : BitVec 64} (h : v_sized size = true) : size.toNat = 1 ∨ size.toNat = 2 ∨ size.toNat = 4 ∨ size.toNat = 8 := by
  simp only [v_sized, Bool.or_eq_true, beq_iff_eq] at h
  rcases h with rfl | rfl | rfl | rfl <;> decide
theorem dq (x : BitVec 64) (h : x.toNat < 2 ^ 63) : ((x.sdiv 16#64).sdiv 64#64).toNat = x.toNat / 1024 ∧ ((x.sdiv 16#64).srem 64#64).toNat = x.toNat / 16 % 64 := by
  have h1 : x.sdiv 16#64 = x / 16#64 := sdivN x 16#64 (by decide) h
  have h2 : (x / 16#64).toNat = x.toNat / 16 := by rw [BitVec.toNat_udiv]; rfl
  rw [h1, sdivN _ 64#64 (by decide) (by omega), sremN _ 64#64 (by decide) (by omega), BitVec.toNat_udiv, BitVec.toNat_umod, h2]
  refine ⟨?_, rfl⟩
  show x.toNat / 16 / 64 = x.toNat / 1024
  rw [Nat.div_div_eq_div_mul]
theorem last_nat {off size : BitVec 64} (h : off.toNat + size.toNat < 2 ^ 63) (h1 : 1 ≤ size.toNat) : (off + size - 1#64).toNat = off.toNat + size.toNat - 1 := by
  rw [BitVec.toNat_sub, BitVec.toNat_add, show (1#64).toNat = 1 from rfl]; omega
def v_sD (n : Nat) (d : List (List AV)) (off size v : BitVec 64) : List (List AV) := cond (v_ok n off size) (v_put d off.toNat size.toNat v) d
def v_sT (n : Nat) (tg : List (List AV)) (off size : BitVec 64) : List (List AV) := cond (v_ok n off size) (v_clr (v_clr tg off.toNat) (off.toNat + size.toNat - 1)) tg
def mrsCps : ECps MrsS MrsR := fun R x K => match x with
  | .a n tg m d off size v => cond (g_ram n tg m d) (K (.a (v_ok n off size) n (v_sT n tg off size) m (v_sD n d off size v))) none
theorem mrs_in (n : Nat) (tg d : List (List AV)) (off size v : BitVec 64) (h1 : d.length = n) (h2 : tg.length = 64) (h3 : 4096 ≤ n) (h4 : n ≤ 65536) (hs : size = 1#64 ∨ size = 2#64 ∨ size = 4#64 ∨ size = 8#64) :
    mrsStep (.a n tg n d off size v) = some (.a (v_ok n off size) n (v_sT n tg off size) n (v_sD n d off size v)) := by
  have hsz : v_sized size = true := by rcases hs with rfl | rfl | rfl | rfl <;> rfl
  have hs8 : size.toNat = 1 ∨ size.toNat = 2 ∨ size.toNat = 4 ∨ size.toNat = 8 := v_sized_nat hsz
  have hin := v_in_iff (off := off) (size := size) h4 (by omega)
  have eok : v_ok n off size = v_in n off size := by unfold v_ok; rw [hsz]; rfl
  simp only [v_sT, v_sD, eok]
  have key : ∀ X : Option MrsR, (v_in n off size = true → X = some (.a true n (v_clr (v_clr tg off.toNat) (off.toNat + size.toNat - 1)) n (v_put d off.toNat size.toNat v))) →
      cond (off.slt 0#64) (some (.a false n tg n d)) (cond ((BitVec.ofNat 64 n - size).slt off) (some (.a false n tg n d)) X) =
        some (.a (v_in n off size) n (cond (v_in n off size) (v_clr (v_clr tg off.toNat) (off.toNat + size.toNat - 1)) tg) n (cond (v_in n off size) (v_put d off.toNat size.toNat v) d)) := by
    intro X hX
    unfold v_in at hX ⊢
    cases h0 : off.slt 0#64 with
    | true => rfl
    | false =>
      cases h5 : (BitVec.ofNat 64 n - size).slt off with
      | true => rfl
      | false => rw [h0, h5] at hX; simp only [cond_false, Bool.not_false, Bool.and_self, cond_true]; exact hX rfl
  have body : ∀ X : Option MrsR, (v_in n off size = true → off.toNat + size.toNat ≤ n → X = some (.a true n (v_clr (v_clr tg off.toNat) (off.toNat + size.toNat - 1)) n (v_put d off.toNat size.toNat v))) →
      (v_in n off size = true → X = some (.a true n (v_clr (v_clr tg off.toNat) (off.toNat + size.toNat - 1)) n (v_put d off.toNat size.toNat v))) := fun X h hi => h hi (hin.1 hi)
  rcases hs with hq | hq | hq | hq
  all_goals
    have q1 := congrArg (fun s => s == 1#64) hq
    have q2 := congrArg (fun s => s == 2#64) hq
    have q4 := congrArg (fun s => s == 4#64) hq
    have q8 := congrArg (fun s => s == 8#64) hq
    simp only [BitVec.reduceBEq] at q1 q2 q4 q8
    simp only [mrsStep, q1, q2, q4, q8, cond_true, cond_false]
    refine key _ (body _ fun _ hle => ?_)
    have ho : off.toNat < 2 ^ 63 := by omega
    obtain ⟨a1, a2⟩ := dq off ho
    have hl := last_nat (off := off) (size := size) (by omega) (by omega)
    obtain ⟨b1, b2⟩ := dq (off + size - 1#64) (by omega)
    rw [hl] at b1 b2
    have g1 : g_put n d off.toNat size.toNat = true := g_put_iff.2 ⟨by omega, h1, by omega⟩
    simp only [asI64_mk, a1, a2, b1, b2, g1, h2, List.length_set, nonneg_lt ho, nonneg_lt (show size.toNat < 2 ^ 63 by omega), Nat.zero_add, Nat.add_zero, Nat.sub_zero,
      decide_eq_true (show n ≤ n from Nat.le_refl _), decide_eq_true (show off.toNat < n by omega), decide_eq_true (show size.toNat ≤ n - off.toNat by omega), decide_eq_true (show 0 < size.toNat by omega),
      nonneg_lt (show ((off.sdiv 16#64).sdiv 64#64).toNat < 2 ^ 63 by omega), nonneg_lt (show ((off.sdiv 16#64).srem 64#64).toNat < 2 ^ 63 by omega),
      nonneg_lt (show (((off + size - 1#64).sdiv 16#64).sdiv 64#64).toNat < 2 ^ 63 by omega), nonneg_lt (show (((off + size - 1#64).sdiv 16#64).srem 64#64).toNat < 2 ^ 63 by omega),
      decide_eq_true (show off.toNat / 1024 < 64 by omega), decide_eq_true (show (off.toNat + size.toNat - 1) / 1024 < 64 by omega), Bool.and_true, Bool.true_and, Bool.true_or, cond_true]
    rfl
theorem mrsCps_ok : ECok mrsStep mrsCps := by
  intro R x K r h
  cases x with
  | a n tg m d off size v =>
    obtain ⟨hg, hk⟩ := condK h
    obtain ⟨rfl, h1, h2, h3, h4⟩ := g_ram_iff.1 hg
    refine ⟨_, ?_, hk⟩
    by_cases e1 : size = 1#64
    · exact mrs_in m tg d off size v h1 h2 h3 h4 (.inl e1)
    by_cases e2 : size = 2#64
    · exact mrs_in m tg d off size v h1 h2 h3 h4 (.inr (.inl e2))
    by_cases e4 : size = 4#64
    · exact mrs_in m tg d off size v h1 h2 h3 h4 (.inr (.inr (.inl e4)))
    by_cases e8 : size = 8#64
    · exact mrs_in m tg d off size v h1 h2 h3 h4 (.inr (.inr (.inr e8)))
    have hs : v_ok m off size = false := by
      unfold v_ok v_sized
      rw [beq_eq_false_iff_ne.2 e1, beq_eq_false_iff_ne.2 e2, beq_eq_false_iff_ne.2 e4, beq_eq_false_iff_ne.2 e8]; rfl
    simp only [mrsStep, v_sT, v_sD, hs, beq_eq_false_iff_ne.2 e1, beq_eq_false_iff_ne.2 e2, beq_eq_false_iff_ne.2 e4, beq_eq_false_iff_ne.2 e8, cond_false]
def v_okC (n : Nat) (off : BitVec 64) : Bool := v_in n off 16#64 && off.srem 16#64 == 0#64
def v_tT (n : Nat) (tg : List (List AV)) (off : BitVec 64) (t : Bool) : List (List AV) := cond (v_okC n off) (cond t (v_lay (v_clr tg off.toNat) off.toNat) (v_clr tg off.toNat)) tg
def v_tD (n : Nat) (d : List (List AV)) (off x y : BitVec 64) : List (List AV) := cond (v_okC n off) (v_put (v_put d off.toNat 8 x) (off.toNat + 8) 8 y) d
def mrtCps : ECps MrtS MrtR := fun R z K => match z with
  | .a n tg m d off t x y => cond (g_ram n tg m d) (K (.a (v_okC n off) n (v_tT n tg off t) m (v_tD n d off x y))) none
theorem mrtCps_ok : ECok mrtStep mrtCps := by
  intro R z K r h
  cases z with
  | a n tg m d off t x y =>
    obtain ⟨hg, hk⟩ := condK h
    obtain ⟨rfl, h1, h2, h3, h4⟩ := g_ram_iff.1 hg
    refine ⟨_, ?_, hk⟩
    have hin := v_in_iff (off := off) (size := 16#64) h4 (by rw [show (16#64).toNat = 16 from rfl]; omega)
    simp only [mrtStep, v_tT, v_tD, v_okC]
    unfold v_in at hin ⊢
    cases h0 : off.slt 0#64 with
    | true => rfl
    | false =>
      cases h5 : (BitVec.ofNat 64 m - 16#64).slt off with
      | true => rfl
      | false =>
        have hle : off.toNat + 16 ≤ m := hin.1 (by rw [h0, h5]; rfl)
        have ho : off.toNat < 2 ^ 63 := by omega
        obtain ⟨a1, a2⟩ := dq off ho
        have g1 : g_put m d off.toNat 8 = true := g_put_iff.2 ⟨by omega, h1, by omega⟩
        have g2 : g_put m (v_put d off.toNat 8 x) (off.toNat + 8) 8 = true := g_put_iff.2 ⟨by omega, by rw [v_put_len]; exact h1, by omega⟩
        simp only [a1, a2, g1, g2, h2, List.length_set, nonneg_lt ho, Nat.zero_add, Nat.add_zero,
          decide_eq_true (show m ≤ m from Nat.le_refl _), decide_eq_true (show off.toNat < m by omega), decide_eq_true (show 16 ≤ m - off.toNat by omega),
          nonneg_lt (show ((off.sdiv 16#64).sdiv 64#64).toNat < 2 ^ 63 by omega), nonneg_lt (show ((off.sdiv 16#64).srem 64#64).toNat < 2 ^ 63 by omega),
          decide_eq_true (show off.toNat / 1024 < 64 by omega), Bool.and_true, Bool.true_and, Bool.true_or, cond_true, cond_false, Bool.not_false]
        cases off.srem 16#64 == 0#64 <;> cases t <;> rfl
def v_lV (n : Nat) (d : List (List AV)) (off size : BitVec 64) : BitVec 64 := cond (v_ok n off size) (v_get d off.toNat size.toNat) 0#64
def mrlCps : ECps MrlS MrlR := fun R x K => match x with
  | .a n tg m d off size => cond (g_ram n tg m d) (K (.a (v_lV n d off size) (v_ok n off size) n tg m d)) none
theorem mrl_in (n : Nat) (tg d : List (List AV)) (off size : BitVec 64) (h1 : d.length = n) (h2 : tg.length = 64) (h3 : 4096 ≤ n) (h4 : n ≤ 65536) (hs : size = 1#64 ∨ size = 2#64 ∨ size = 4#64 ∨ size = 8#64) :
    mrlStep (.a n tg n d off size) = some (.a (v_lV n d off size) (v_ok n off size) n tg n d) := by
  have hsz : v_sized size = true := by rcases hs with rfl | rfl | rfl | rfl <;> rfl
  have hs8 : size.toNat = 1 ∨ size.toNat = 2 ∨ size.toNat = 4 ∨ size.toNat = 8 := v_sized_nat hsz
  have hin := v_in_iff (off := off) (size := size) h4 (by omega)
  have eok : v_ok n off size = v_in n off size := by unfold v_ok; rw [hsz]; rfl
  simp only [v_lV, eok]
  unfold v_in at hin ⊢
  rcases hs with hq | hq | hq | hq
  all_goals
    have q1 := congrArg (fun s => s == 1#64) hq
    have q2 := congrArg (fun s => s == 2#64) hq
    have q4 := congrArg (fun s => s == 4#64) hq
    have q8 := congrArg (fun s => s == 8#64) hq
    simp only [BitVec.reduceBEq] at q1 q2 q4 q8
    simp only [mrlStep, q1, q2, q4, q8, cond_true, cond_false]
    cases h0 : off.slt 0#64 with
    | true => rfl
    | false =>
      cases h5 : (BitVec.ofNat 64 n - size).slt off with
      | true => rfl
      | false =>
        have hle : off.toNat + size.toNat ≤ n := hin.1 (by rw [h0, h5]; rfl)
        have ho : off.toNat < 2 ^ 63 := by omega
        have g1 : g_get n off.toNat size.toNat = true := g_get_iff.2 ⟨by omega, by omega⟩
        simp only [g1, nonneg_lt ho, nonneg_lt (show size.toNat < 2 ^ 63 by omega), Nat.zero_add, Nat.add_zero, Nat.sub_zero, decide_eq_true (show n ≤ n from Nat.le_refl _), decide_eq_true (show off.toNat < n by omega),
          decide_eq_true (show size.toNat ≤ n - off.toNat by omega), decide_eq_true (show 0 < size.toNat by omega), Bool.and_true, Bool.true_and, Bool.true_or, cond_true, cond_false, Bool.not_false]
theorem mrlCps_ok : ECok mrlStep mrlCps := by
  intro R x K r h
  cases x with
  | a n tg m d off size =>
    obtain ⟨hg, hk⟩ := condK h
    obtain ⟨rfl, h1, h2, h3, h4⟩ := g_ram_iff.1 hg
    refine ⟨_, ?_, hk⟩
    by_cases e1 : size = 1#64
    · exact mrl_in m tg d off size h1 h2 h3 h4 (.inl e1)
    by_cases e2 : size = 2#64
    · exact mrl_in m tg d off size h1 h2 h3 h4 (.inr (.inl e2))
    by_cases e4 : size = 4#64
    · exact mrl_in m tg d off size h1 h2 h3 h4 (.inr (.inr (.inl e4)))
    by_cases e8 : size = 8#64
    · exact mrl_in m tg d off size h1 h2 h3 h4 (.inr (.inr (.inr e8)))
    have hs : v_ok m off size = false := by
      unfold v_ok v_sized
      rw [beq_eq_false_iff_ne.2 e1, beq_eq_false_iff_ne.2 e2, beq_eq_false_iff_ne.2 e4, beq_eq_false_iff_ne.2 e8]; rfl
    simp only [mrlStep, v_lV, hs, beq_eq_false_iff_ne.2 e1, beq_eq_false_iff_ne.2 e2, beq_eq_false_iff_ne.2 e4, beq_eq_false_iff_ne.2 e8, cond_false]
def v_tag (tg : List (List AV)) (o : Nat) : Bool := !(asU64 ((tg.getD (o / 1024) []).headD .any) &&& 1#64 <<< min (o / 16 % 64) 64 == 0#64)
def v_cT (n : Nat) (tg : List (List AV)) (off : BitVec 64) : Bool := cond (v_okC n off) (v_tag tg off.toNat) false
def v_cX (n : Nat) (d : List (List AV)) (off : BitVec 64) (k : Nat) : BitVec 64 := cond (v_okC n off) (v_get d (off.toNat + k) 8) 0#64
def mrcCps : ECps MrcS MrcR := fun R z K => match z with
  | .a n tg m d off => cond (g_ram n tg m d) (K (.a (v_cT n tg off) (v_cX n d off 0) (v_cX n d off 8) (v_okC n off) n tg m d)) none
theorem mrcCps_ok : ECok mrcStep mrcCps := by
  intro R z K r h
  cases z with
  | a n tg m d off =>
    obtain ⟨hg, hk⟩ := condK h
    obtain ⟨rfl, h1, h2, h3, h4⟩ := g_ram_iff.1 hg
    refine ⟨_, ?_, hk⟩
    have hin := v_in_iff (off := off) (size := 16#64) h4 (by rw [show (16#64).toNat = 16 from rfl]; omega)
    simp only [mrcStep, v_cT, v_cX, v_okC]
    unfold v_in at hin ⊢
    cases h0 : off.slt 0#64 with
    | true => rfl
    | false =>
      cases h5 : (BitVec.ofNat 64 m - 16#64).slt off with
      | true => rfl
      | false =>
        have hle : off.toNat + 16 ≤ m := hin.1 (by rw [h0, h5]; rfl)
        have ho : off.toNat < 2 ^ 63 := by omega
        obtain ⟨a1, a2⟩ := dq off ho
        have g1 : g_get m off.toNat 8 = true := g_get_iff.2 ⟨by omega, by omega⟩
        have g2 : g_get m (off.toNat + 8) 8 = true := g_get_iff.2 ⟨by omega, by omega⟩
        simp only [a1, a2, g1, g2, nonneg_lt ho, Nat.zero_add, Nat.add_zero,
          decide_eq_true (show m ≤ m from Nat.le_refl _), decide_eq_true (show off.toNat < m by omega), decide_eq_true (show 16 ≤ m - off.toNat by omega),
          nonneg_lt (show ((off.sdiv 16#64).sdiv 64#64).toNat < 2 ^ 63 by omega), nonneg_lt (show ((off.sdiv 16#64).srem 64#64).toNat < 2 ^ 63 by omega),
          decide_eq_true (show off.toNat / 1024 < 64 by omega), Bool.and_true, Bool.true_and, Bool.true_or, cond_true, cond_false, Bool.not_false]
        cases off.srem 16#64 == 0#64 <;> rfl
end Go.Sx


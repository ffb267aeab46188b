/- Memory: bytes put together, and laid. -/
import Derived.Test.YtkbcfbehebbmhaaVl11a
import Derived.Test.YtkbcfbehebbmhaaPlN
set_option linter.unusedSimpArgs false
set_option linter.unusedVariables false
set_option linter.unnecessarySimpa false
namespace Go.Sx
open Go
theorem condK {R : Type} {c : Bool} {x : Option R} {r : R} (h : cond c x none = some r) : c = true ∧ x = some r := by
  cases c with
  | false => simp at h
  | true => exact ⟨rfl, h⟩
theorem ofNat_inc {i : Nat} (h : i < 2 ^ 63) : BitVec.ofNat 64 i + 1#64 = BitVec.ofNat 64 (i + 1) := by
  apply BitVec.eq_of_toNat_eq; rw [inc_nat (by rw [ofNat_toNat (by omega)]; exact h), ofNat_toNat (by omega), ofNat_toNat (by omega)]
theorem mul8 {i : Nat} (h : i < 2 ^ 32) : (8#64 * BitVec.ofNat 64 i).toNat = 8 * i := by
  rw [BitVec.toNat_mul, ofNat_toNat (n := i) (by omega), show (8#64).toNat = 8 from rfl]; exact Nat.mod_eq_of_lt (by omega)
def byteOf (v : BitVec 64) (i : Nat) : BitVec 8 := BitVec.setWidth 8 (v >>> min (8 * i) 64)
def v_put (d : List (List AV)) (o n : Nat) (v : BitVec 64) : List (List AV) := (List.range n).foldl (fun d i => d.set (o + i) [.int .u8 (byteOf v i)]) d
theorem v_put_succ (d : List (List AV)) (o n : Nat) (v : BitVec 64) : v_put d o (n + 1) v = (v_put d o n v).set (o + n) [.int .u8 (byteOf v n)] := by
  simp [v_put, List.range_succ, List.foldl_append]
theorem v_put_len (d : List (List AV)) (o : Nat) (v : BitVec 64) : ∀ n, (v_put d o n v).length = d.length
  | 0 => rfl
  | n + 1 => by rw [v_put_succ, List.length_set, v_put_len d o v n]
def g_put (m : Nat) (d : List (List AV)) (o n : Nat) : Bool := Nat.ble (o + n) m && (Nat.beq d.length m && Nat.ble n 16)
theorem g_put_iff {m : Nat} {d : List (List AV)} {o n : Nat} : g_put m d o n = true ↔ o + n ≤ m ∧ d.length = m ∧ n ≤ 16 := by
  simp only [g_put, Bool.and_eq_true, beq_true, Nat.ble_eq]
theorem mpl_rn (m : Nat) (d : List (List AV)) (o n : Nat) (v : BitVec 64) (h1 : o + n ≤ m) (h2 : d.length = m) (h3 : n ≤ 16) : ∀ (j i : Nat), n - i = j → i ≤ n →
    Rn mplStep (.a m (v_put d o i v) o n v (BitVec.ofNat 64 n) (BitVec.ofNat 64 i)) (.fine m (v_put d o n v)) := by
  intro j
  induction j with
  | zero =>
    intro i hj hi
    have : i = n := by omega
    subst this
    refine .last ?_
    simp only [mplStep]
    have hi : (BitVec.ofNat 64 i).toNat = i := ofNat_toNat (by omega)
    rw [slt_nat (by omega) (by omega), decide_eq_false (by omega)]; rfl
  | succ j ih =>
    intro i hj hi
    have e := ofNat_inc (i := i) (by omega)
    have hi2 : (BitVec.ofNat 64 i).toNat = i := ofNat_toNat (by omega)
    refine .next (y := .a m (v_put d o (i + 1) v) o n v (BitVec.ofNat 64 n) (BitVec.ofNat 64 (i + 1))) ?_ (ih (i + 1) (by omega) (by omega))
    simp only [mplStep]
    have h8 := mul8 (i := i) (by omega)
    rw [slt_nat (by omega) (by rw [ofNat_toNat (by omega)]; omega), nonneg_lt (by omega), nonneg_lt (by omega), h8, hi2, ofNat_toNat (n := n) (by omega), v_put_len, e, v_put_succ]
    rw [decide_eq_true (show i < n by omega), decide_eq_true (show o + i < m by omega), decide_eq_true (show o + i < d.length by omega)]
    rfl
def mplCps : Cps MplS := fun R x K => match x with
  | .a m d o n v ln ix => cond (g_put m d o n && (ln == BitVec.ofNat 64 n && ix == 0#64)) (K (.exit 0) (tmOf [] []) [(0, ⟨true, [.arr [.int .u8] m (v_put d o n v)]⟩)] 1) none
theorem mplCps_ok (R : Type) (x : MplS) (K : Out → TM → Heap → Nat → Option R) (r : R) (h : mplCps R x K = some r) : ∃ z, Rn mplStep x z ∧ K (mplO z) (tmOf [] (mplV z)) (mplG z) (mplM z) = some r := by
  cases x with
  | a m d o n v ln ix =>
    obtain ⟨hg, hk⟩ := condK h
    simp only [Bool.and_eq_true, beq_iff_eq] at hg
    obtain ⟨hg, rfl, rfl⟩ := hg
    obtain ⟨h1, h2, h3⟩ := g_put_iff.1 hg
    exact ⟨.fine m (v_put d o n v), mpl_rn m d o n v h1 h2 h3 n 0 (by omega) (by omega), hk⟩
def bA (d : List (List AV)) (i : Nat) : BitVec 8 := asU8 ((d.getD i []).headD .any)
def v_get (d : List (List AV)) (o n : Nat) : BitVec 64 := (List.range n).foldl (fun v i => v ||| BitVec.setWidth 64 (bA d (o + i)) <<< min (8 * i) 64) 0#64
theorem v_get_succ (d : List (List AV)) (o n : Nat) : v_get d o (n + 1) = v_get d o n ||| BitVec.setWidth 64 (bA d (o + n)) <<< min (8 * n) 64 := by
  simp [v_get, List.range_succ, List.foldl_append]
def g_get (m o n : Nat) : Bool := Nat.ble (o + n) m && Nat.ble n 16
theorem g_get_iff {m o n : Nat} : g_get m o n = true ↔ o + n ≤ m ∧ n ≤ 16 := by
  simp only [g_get, Bool.and_eq_true, Nat.ble_eq]
theorem mgl_rn (rw : Bool) (m : Nat) (d : List (List AV)) (o n : Nat) (h1 : o + n ≤ m) (h3 : n ≤ 16) : ∀ (j i : Nat), n - i = j → i ≤ n →
    Rn mglStep (.a rw m d o n (v_get d o i) (BitVec.ofNat 64 n) (BitVec.ofNat 64 i)) (.fine rw m d (v_get d o n)) := by
  intro j
  induction j with
  | zero =>
    intro i hj hi
    have : i = n := by omega
    subst this
    refine .last ?_
    simp only [mglStep]
    have hi : (BitVec.ofNat 64 i).toNat = i := ofNat_toNat (by omega)
    rw [slt_nat (by omega) (by omega), decide_eq_false (by omega)]; rfl
  | succ j ih =>
    intro i hj hi
    have e := ofNat_inc (i := i) (by omega)
    have hi2 : (BitVec.ofNat 64 i).toNat = i := ofNat_toNat (by omega)
    refine .next (y := .a rw m d o n (v_get d o (i + 1)) (BitVec.ofNat 64 n) (BitVec.ofNat 64 (i + 1))) ?_ (ih (i + 1) (by omega) (by omega))
    simp only [mglStep]
    have h8 := mul8 (i := i) (by omega)
    rw [slt_nat (by omega) (by rw [ofNat_toNat (by omega)]; omega), nonneg_lt (by omega), nonneg_lt (by omega), h8, hi2, ofNat_toNat (n := n) (by omega), e, v_get_succ]
    rw [decide_eq_true (show i < n by omega), decide_eq_true (show o + i < m by omega)]
    rfl
def mglCps : Cps MglS := fun R x K => match x with
  | .a rw m d o n v ln ix => cond (g_get m o n && (ln == BitVec.ofNat 64 n && (ix == 0#64 && v == 0#64))) (K (.exit 0) (tmOf [2] [.int .u64 (v_get d o n)]) [(0, ⟨rw, [.arr [.int .u8] m d]⟩)] 1) none
theorem mglCps_ok (R : Type) (x : MglS) (K : Out → TM → Heap → Nat → Option R) (r : R) (h : mglCps R x K = some r) : ∃ z, Rn mglStep x z ∧ K (mglO z) (tmOf [2] (mglV z)) (mglG z) (mglM z) = some r := by
  cases x with
  | a rw m d o n v ln ix =>
    obtain ⟨hg, hk⟩ := condK h
    simp only [Bool.and_eq_true, beq_iff_eq] at hg
    obtain ⟨hg, rfl, rfl, rfl⟩ := hg
    obtain ⟨h1, h3⟩ := g_get_iff.1 hg
    exact ⟨.fine rw m d (v_get d o n), mgl_rn rw m d o n h1 h3 n 0 (by omega) (by omega), hk⟩
end Go.Sx

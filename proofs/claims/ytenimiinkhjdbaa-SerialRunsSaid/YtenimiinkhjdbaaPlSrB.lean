/- The document's UART: what is left. -/
import Derived.Test.YtenimiinkhjdbaaVl14b
import Derived.Test.YtenimiinkhjdbaaPlSr
set_option linter.unusedSimpArgs false
set_option linter.unusedVariables false
set_option linter.unnecessarySimpa false
namespace Go.Sx
open Go
def g_row (n m : Nat) (d : List (List AV)) : Bool := Nat.beq m n && (Nat.beq d.length n && Nat.ble n 16)
theorem g_row_iff {n m : Nat} {d : List (List AV)} : g_row n m d = true ↔ m = n ∧ d.length = n ∧ n ≤ 16 := by
  simp only [g_row, Bool.and_eq_true, beq_true, Nat.ble_eq]
theorem room_le {n b : Nat} (h : n * b ≤ 2 ^ 47) : v_room n b = true := by
  unfold v_room; exact decide_eq_true (by omega)
/-- Some rows of bytes, from one on. -/
def v_r8 (d : List (List AV)) (i k : Nat) : List (List AV) := (List.range' i k).map fun j => [.int .u8 (bQ d j)]
theorem v_r8_len (d : List (List AV)) (i k : Nat) : (v_r8 d i k).length = k := by simp [v_r8]
theorem v_r8_succ (d : List (List AV)) (i k : Nat) : v_r8 d i (k + 1) = v_r8 d i k ++ [[.int .u8 (bQ d (i + k))]] := by
  simp [v_r8, List.range'_concat]
theorem xr_s (n : Nat) (d : List (List AV)) (e : Bool) (to v : BitVec 64) (hd : d.length = n) (hn : n ≤ 16) : ∀ (j k : Nat), n - 1 - k = j → 1 ≤ k → k + 1 ≤ n →
    Rn xrStep (.s n n d e to v k k (v_r8 d 1 k) (BitVec.ofNat 64 (k + 1))) (.s n n d e to v (n - 1) (n - 1) (v_r8 d 1 (n - 1))) := by
  intro j
  induction j with
  | zero =>
    intro k hj hk hkn
    have e1 : k = n - 1 := by omega
    subst e1
    have hk1 : (BitVec.ofNat 64 (n - 1 + 1)).toNat = n := by rw [ofNat_toNat (by omega)]; omega
    refine .last ?_
    simp only [xrStep]
    rw [slt_len (by omega) (by omega), hk1, decide_eq_false (by omega)]; rfl
  | succ j ih =>
    intro k hj hk hkn
    have hk1 : (BitVec.ofNat 64 (k + 1)).toNat = k + 1 := ofNat_toNat (by omega)
    refine .next (y := .s n n d e to v (k + 1) (k + 1) (v_r8 d 1 (k + 1)) (BitVec.ofNat 64 (k + 1 + 1))) ?_ (ih (k + 1) (by omega) (by omega) (by omega))
    simp only [xrStep]
    rw [slt_len (by omega) (by omega), nonneg_lt (by omega), hk1, decide_eq_true (show k + 1 < n by omega), decide_eq_true (show 0 + (k + 1) < n by omega), decide_eq_true (show 0 + k ≤ k by omega), decide_eq_true (v_r8_len d 1 k), room_le (by omega), List.drop_zero, List.take_of_length_le (by rw [v_r8_len]; omega), v_r8_succ]
    have e2 : BitVec.ofNat 64 (k + 1) + 1#64 = BitVec.ofNat 64 (k + 1 + 1) := by
      apply BitVec.eq_of_toNat_eq; rw [inc_nat (by omega), hk1, ofNat_toNat (by omega)]
    rw [e2, show 0 + (k + 1) = 1 + k by omega]
    rfl
def xrCps : Cps XrS := fun R x K => match x with
  | .z n m d e to v i => cond (g_row n m d && i == 1#64) (cond (Nat.ble n 1)
      (K (.exit 1) (tmOf [0, 8, 9] [.ptr ⟨0, 0, 0, 0, 0⟩, .int .u64 v, .nilslice]) [(0, ⟨true, [.cell (.slice ⟨1, 0, 0, 1, 0⟩ 1 n), .cell (.bool e), .cell (.int .i64 to)]⟩), (1, ⟨true, [.arr [.int .u8] m d]⟩)] 2)
      (K (.exit 1) (tmOf [0, 8, 9] [.ptr ⟨0, 0, 0, 0, 0⟩, .int .u64 v, .slice ⟨2, 0, 0, 1, 0⟩ 1 (n - 1)]) [(0, ⟨true, [.cell (.slice ⟨1, 0, 0, 1, 0⟩ 1 n), .cell (.bool e), .cell (.int .i64 to)]⟩), (1, ⟨true, [.arr [.int .u8] m d]⟩), (2, ⟨true, [.arr [.int .u8] (n - 1) (v_r8 d 1 (n - 1))]⟩)] 3)) none
  | .s .. => none
theorem xrCps_ok (R : Type) (x : XrS) (K : Out → TM → Heap → Nat → Option R) (r : R) (h : xrCps R x K = some r) : ∃ z, Rn xrStep x z ∧ K (xrO z) (tmOf [0, 8, 9] (xrV z)) (xrG z) (xrM z) = some r := by
  cases x with
  | s => simp [xrCps] at h
  | z n m d e to v i =>
    obtain ⟨hg, hk⟩ := condK h
    clear h
    simp only [Bool.and_eq_true, beq_iff_eq] at hg
    obtain ⟨hg, rfl⟩ := hg
    obtain ⟨rfl, h1, h2⟩ := g_row_iff.1 hg
    have h1n : (1#64).toNat = 1 := rfl
    cases hb : Nat.ble m 1 with
    | true =>
      rw [hb] at hk
      rw [Nat.ble_eq] at hb
      refine ⟨.z m m d e to v, .last ?_, hk⟩
      simp only [xrStep]
      rw [slt_len (by decide) (by omega), h1n, decide_eq_false (by omega)]; rfl
    | false =>
      rw [hb] at hk
      have hb' : ¬ m ≤ 1 := by rw [← Nat.ble_eq, hb]; decide
      refine ⟨.s m m d e to v (m - 1) (m - 1) (v_r8 d 1 (m - 1)), .next (y := .s m m d e to v 1 1 (v_r8 d 1 1) (BitVec.ofNat 64 2)) ?_ (xr_s m d e to v h1 h2 _ 1 rfl (by decide) (by omega)), hk⟩
      simp only [xrStep]
      rw [slt_len (by decide) (by omega), nonneg_lt (by decide), h1n, decide_eq_true (show 1 < m by omega)]
      exact congrArg (fun g => some (Sum.inl (XrS.s m m d e to v 1 1 g (BitVec.ofNat 64 2)))) (show [[AV.int .u8 (bQ d 1)]] = v_r8 d 1 1 from rfl)
end Go.Sx

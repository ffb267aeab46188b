/- A memory alone. -/
import Derived.Test.YtkbcfbehebbmhaaGreatPlRamR
set_option linter.unusedSimpArgs false
set_option linter.unusedVariables false
set_option linter.unnecessarySimpa false
namespace Go.Sx
open Go
/-- A memory. -/
structure Rok (n : Nat) (tg d : List (List AV)) : Prop where
  ld : d.length = n
  lg : tg.length = 64
  lo : 4096 ≤ n
  hi : n ≤ 65536
theorem Rok.ram {n : Nat} {tg d : List (List AV)} (h : Rok n tg d) : g_ram n tg n d = true := g_ram_iff.2 ⟨rfl, h.ld, h.lg, h.lo, h.hi⟩
theorem sT_len (n : Nat) (tg : List (List AV)) (off size : BitVec 64) : (v_sT n tg off size).length = tg.length := by
  unfold v_sT; cases v_ok n off size <;> simp only [cond_true, cond_false, v_clr_len]
theorem sD_len (n : Nat) (d : List (List AV)) (off size v : BitVec 64) : (v_sD n d off size v).length = d.length := by
  unfold v_sD; cases v_ok n off size <;> simp only [cond_true, cond_false, v_put_len]
theorem Rok.store {n : Nat} {tg d : List (List AV)} (h : Rok n tg d) (off size v : BitVec 64) : Rok n (v_sT n tg off size) (v_sD n d off size v) :=
  { ld := by rw [sD_len]; exact h.ld, lg := by rw [sT_len]; exact h.lg, lo := h.lo, hi := h.hi }
theorem Rok.zero : Rok 4096 zT (zB 4096) := { ld := List.length_replicate, lg := rfl, lo := by decide, hi := by decide }
theorem bA_set (d : List (List AV)) (i j : Nat) (b : BitVec 8) (h : i < d.length) : bA (d.set i [.int .u8 b]) j = if j = i then b else bA d j := by
  unfold bA
  rw [getD_set d i j _ h]
  split <;> rfl
theorem bA_put (d : List (List AV)) (o : Nat) (v : BitVec 64) (j : Nat) : ∀ n, o + n ≤ d.length → bA (v_put d o n v) j = if o ≤ j ∧ j < o + n then byteOf v (j - o) else bA d j
  | 0, h => by rw [if_neg (by omega)]; rfl
  | n + 1, h => by
    rw [v_put_succ, bA_set _ _ _ _ (by rw [v_put_len]; omega), bA_put d o v j n (by omega)]
    by_cases e : j = o + n
    · subst e; rw [if_pos rfl, if_pos (by omega), Nat.add_sub_cancel_left]
    · rw [if_neg e]
      by_cases q : o ≤ j ∧ j < o + n
      · rw [if_pos q, if_pos (by omega)]
      · rw [if_neg q, if_neg (by omega)]
theorem ok1 {n : Nat} {i : BitVec 64} (hn : n ≤ 65536) (h : i.toNat < n) : v_ok n i 1#64 = true := by
  unfold v_ok
  rw [show v_sized 1#64 = true from rfl, Bool.true_and]
  exact (v_in_iff (off := i) (size := 1#64) hn (by rw [show (1#64).toNat = 1 from rfl]; omega)).2 h
theorem lV1 {n : Nat} {d : List (List AV)} {i : BitVec 64} (hn : n ≤ 65536) (h : i.toNat < n) : v_lV n d i 1#64 = BitVec.setWidth 64 (bA d i.toNat) := by
  unfold v_lV
  rw [ok1 hn h, cond_true]
  show v_get d i.toNat 1 = _
  rw [v_get_succ]
  show 0#64 ||| BitVec.setWidth 64 (bA d (i.toNat + 0)) <<< 0 = _
  rw [BitVec.shiftLeft_zero, BitVec.zero_or, Nat.add_zero]
theorem w88 (b : BitVec 8) : BitVec.setWidth 8 (BitVec.setWidth 64 b) = b := by
  apply BitVec.eq_of_toNat_eq
  have := b.isLt
  rw [BitVec.toNat_setWidth, BitVec.toNat_setWidth]; omega
end Go.Sx

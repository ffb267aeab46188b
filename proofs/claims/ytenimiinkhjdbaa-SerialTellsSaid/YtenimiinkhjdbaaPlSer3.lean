/- The UART's laws: what is told: the law. -/
import Derived.Test.YtenimiinkhjdbaaVm14
import Derived.Test.YtenimiinkhjdbaaPlN
set_option linter.unusedSimpArgs false
set_option linter.unusedVariables false
set_option linter.unnecessarySimpa false
namespace Go.Sx
open Go
theorem serialPower_r (off size v : BitVec 64) (n : Nat) (d : List (List AV)) (hl : d.length = n) (hf : fitsAll [.int .u64] d = true) (hn : n < 2 ^ 63) : t_SerialPower_r off size v n d = some (.bool true) := by
  have h3 : (BitVec.setWidth 32 v == 21845#32) = (v % 4294967296#64 == 21845#64) := lo32 _ 21845#32
  unfold t_SerialPower_r
  have hn' : n < 9223372036854775808 := hn
  simp only [h3, hn', Nat.le_refl, true_and, decide_true, Bool.and_true, cond_true]
  generalize (v % 4294967296#64 == 21845#64) = c
  generalize (off == 0#64) = a
  generalize (size == 4#64) = b
  cases a <;> cases b <;> cases c <;> rfl
theorem serialPower_n (off size v : BitVec 64) : t_SerialPower_n off size v = some (.bool true) := by
  have h3 : (BitVec.setWidth 32 v == 21845#32) = (v % 4294967296#64 == 21845#64) := lo32 _ 21845#32
  unfold t_SerialPower_n
  simp only [h3]
  generalize (v % 4294967296#64 == 21845#64) = c
  generalize (off == 0#64) = a
  generalize (size == 4#64) = b
  cases a <;> cases b <;> cases c <;> rfl
theorem serialTells_rrr (n0 : Nat) (d0 : List (List AV)) (n1 : Nat) (d1 : List (List AV)) (n2 : Nat) (d2 : List (List AV)) (came : BitVec 8) (hl0 : d0.length = n0) (hf0 : fitsAll [.int .i64] d0 = true) (k0 : n0 < 2 ^ 63)
    (hl1 : d1.length = n1) (hf1 : fitsAll [.int .i64] d1 = true) (k1 : n1 < 2 ^ 63) (hl2 : d2.length = n2) (hf2 : fitsAll [.int .u64] d2 = true) (k2 : n2 < 2 ^ 63) : t_SerialTells_rrr n0 d0 n1 d1 n2 d2 came = some (.bool true) := by
  have h : ∀ q fi en, g_tl (.a n0 n0 d0 n1 n1 d1 n2 n2 d2 came q fi 1#64 en 18446744073709551615#64 0#64) = true := fun q fi en => by
    exact g_tl_ok ⟨Nat.le_refl _, Nat.le_refl _, Nat.le_refl _, by decide, k0, k1, k2, rfl, rfl⟩
  unfold t_SerialTells_rrr
  simp only [h, asU8_mk, beq_self_eq_true, cond_true, Bool.cond_self]
theorem serialTells_rrn (n0 : Nat) (d0 : List (List AV)) (n1 : Nat) (d1 : List (List AV)) (came : BitVec 8) (hl0 : d0.length = n0) (hf0 : fitsAll [.int .i64] d0 = true) (k0 : n0 < 2 ^ 63)
    (hl1 : d1.length = n1) (hf1 : fitsAll [.int .i64] d1 = true) (k1 : n1 < 2 ^ 63) : t_SerialTells_rrn n0 d0 n1 d1 came = some (.bool true) := by
  unfold t_SerialTells_rrn; simp only [asU8_mk, beq_self_eq_true, cond_true]
theorem serialTells_rnr (n0 : Nat) (d0 : List (List AV)) (n2 : Nat) (d2 : List (List AV)) (came : BitVec 8) (hl0 : d0.length = n0) (hf0 : fitsAll [.int .i64] d0 = true) (k0 : n0 < 2 ^ 63)
    (hl2 : d2.length = n2) (hf2 : fitsAll [.int .u64] d2 = true) (k2 : n2 < 2 ^ 63) : t_SerialTells_rnr n0 d0 n2 d2 came = some (.bool true) := by
  unfold t_SerialTells_rnr; simp only [asU8_mk, beq_self_eq_true, cond_true]
  cases (0#64).slt (BitVec.ofNat 64 n2) <;> cases (0#64).slt (BitVec.ofNat 64 n0) <;> rfl
theorem serialTells_rnn (n0 : Nat) (d0 : List (List AV)) (came : BitVec 8) (hl0 : d0.length = n0) (hf0 : fitsAll [.int .i64] d0 = true) (k0 : n0 < 2 ^ 63) : t_SerialTells_rnn n0 d0 came = some (.bool true) := by
  unfold t_SerialTells_rnn; simp only [asU8_mk, beq_self_eq_true, cond_true]
theorem serialTells_nrr (n1 : Nat) (d1 : List (List AV)) (n2 : Nat) (d2 : List (List AV)) (came : BitVec 8) (hl1 : d1.length = n1) (hf1 : fitsAll [.int .i64] d1 = true) (k1 : n1 < 2 ^ 63)
    (hl2 : d2.length = n2) (hf2 : fitsAll [.int .u64] d2 = true) (k2 : n2 < 2 ^ 63) : t_SerialTells_nrr n1 d1 n2 d2 came = some (.bool true) := by
  unfold t_SerialTells_nrr; simp only [asU8_mk, beq_self_eq_true, cond_true]
  cases (0#64).slt (BitVec.ofNat 64 n2) <;> rfl
theorem serialTells_nrn (n1 : Nat) (d1 : List (List AV)) (came : BitVec 8) (hl1 : d1.length = n1) (hf1 : fitsAll [.int .i64] d1 = true) (k1 : n1 < 2 ^ 63) : t_SerialTells_nrn n1 d1 came = some (.bool true) := by
  unfold t_SerialTells_nrn; simp only [asU8_mk, beq_self_eq_true, cond_true]
theorem serialTells_nnr (n2 : Nat) (d2 : List (List AV)) (came : BitVec 8) (hl2 : d2.length = n2) (hf2 : fitsAll [.int .u64] d2 = true) (k2 : n2 < 2 ^ 63) : t_SerialTells_nnr n2 d2 came = some (.bool true) := by
  unfold t_SerialTells_nnr; simp only [asU8_mk, beq_self_eq_true, cond_true]
  cases (0#64).slt (BitVec.ofNat 64 n2) <;> rfl
theorem serialTells_nnn (came : BitVec 8) : t_SerialTells_nnn came = some (.bool true) := by
  unfold t_SerialTells_nnn; simp only [asU8_mk, beq_self_eq_true, cond_true]
end Go.Sx

/- How many bits a number has: the table of the library's. -/
import Derived.Test.YtenimiinkhjdbaaSxW
set_option linter.unusedSimpArgs false
set_option linter.unusedVariables false
set_option linter.unnecessarySimpa false
namespace Go.Sx
open Go
def blen (n : Nat) : Nat := if n = 0 then 0 else Nat.log2 n + 1
theorem blen_shift {n k : Nat} (h : 2 ^ k ≤ n) : blen n = k + blen (n / 2 ^ k) := by
  have hp : 0 < 2 ^ k := Nat.two_pow_pos k
  have h1 : n ≠ 0 := by omega
  have h2 : n / 2 ^ k ≠ 0 := by
    have := Nat.div_pos h hp
    omega
  unfold blen
  rw [if_neg h1, if_neg h2]
  have : Nat.log2 n = k + Nat.log2 (n / 2 ^ k) := by
    have h3 := (Nat.log2_eq_iff h2 (k := Nat.log2 (n / 2 ^ k))).1 rfl
    rw [Nat.log2_eq_iff h1]
    have e := Nat.div_add_mod n (2 ^ k)
    have hm := Nat.mod_lt n hp
    constructor
    · rw [Nat.pow_add]
      calc 2 ^ k * 2 ^ (n / 2 ^ k).log2 ≤ 2 ^ k * (n / 2 ^ k) := Nat.mul_le_mul_left _ h3.1
        _ ≤ n := by omega
    · rw [Nat.add_assoc, Nat.pow_add]
      calc n < 2 ^ k * (n / 2 ^ k + 1) := by rw [Nat.mul_add]; omega
        _ ≤ 2 ^ k * 2 ^ ((n / 2 ^ k).log2 + 1) := Nat.mul_le_mul_left _ h3.2
  omega

def tb : ByteArray := ByteArray.mk ((List.replicate 1 (0:UInt8) ++ List.replicate 1 1 ++ List.replicate 2 2 ++ List.replicate 4 3 ++ List.replicate 8 4 ++ List.replicate 16 5 ++ List.replicate 32 6 ++ List.replicate 64 7 ++ List.replicate 128 8).toArray)
set_option maxRecDepth 100000
theorem tb_ok : ∀ i : Fin 256, (byteAt tb i.val).toNat = blen i.val := by decide +kernel
theorem tb_size : tb.size = 256 := by decide +kernel
def lleaf (k : BitVec 64) (y : BitVec 64) : Option AV := cond (nonneg .u8 (BitVec.setWidth 8 y) && decide ((BitVec.setWidth 8 y).toNat < tb.size)) (some (.int .i64 (k + BitVec.setWidth 64 (byteAt tb (BitVec.setWidth 8 y).toNat)))) none
/-- What the library's Len64 goes through. -/
def ltree (a : BitVec 64) : Option AV :=
  cond ((4294967296#64).ule a)
    (cond ((65536#64).ule (a >>> 32)) (cond ((256#64).ule (a >>> 32 >>> 16)) (lleaf 56#64 (a >>> 32 >>> 16 >>> 8)) (lleaf 48#64 (a >>> 32 >>> 16))) (cond ((256#64).ule (a >>> 32)) (lleaf 40#64 (a >>> 32 >>> 8)) (lleaf 32#64 (a >>> 32))))
    (cond ((65536#64).ule a) (cond ((256#64).ule (a >>> 16)) (lleaf 24#64 (a >>> 16 >>> 8)) (lleaf 16#64 (a >>> 16))) (cond ((256#64).ule a) (lleaf 8#64 (a >>> 8)) (lleaf 0#64 a)))
end Go.Sx

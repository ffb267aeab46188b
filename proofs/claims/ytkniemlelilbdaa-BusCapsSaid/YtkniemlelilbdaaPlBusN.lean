/- Several texts in one. -/
import Derived.Test.YtkniemlelilbdaaPlBusO
import Derived.Test.YtkniemlelilbdaaVa04
import Derived.Test.YtkniemlelilbdaaPlRamR
set_option linter.unusedSimpArgs false
set_option linter.unusedVariables false
set_option linter.unnecessarySimpa false
/- BusParts: names for what stands there. -/
namespace Go.Sx
open Go
def bpP (at_ : BitVec 64) : BitVec 64 := 2147483648#64 + at_ % 256#64 * 16#64
def bpT (at_ : BitVec 64) : List (List AV) := v_sT 4096 (v_sT 4096 zT (bpP at_ - 2147483648#64) 8#64) (bpP at_ + 8#64 - 2147483648#64) 8#64
def bpD (at_ a b : BitVec 64) : List (List AV) := v_sD 4096 (v_sD 4096 (zB 4096) (bpP at_ - 2147483648#64) (8#64) a) (bpP at_ + 8#64 - 2147483648#64) (8#64) b
end Go.Sx

/- A memory alone. -/
namespace Go.Sx
open Go
/-- A memory. -/
structure Rok (n : Nat) (tg d : List (List AV)) : Prop where
  ld : d.length = n
  lg : tg.length = 64
  lo : 4096 ≤ n
  hi : n ≤ 65536
theorem Rok.ram {n : Nat} {tg d : List (List AV)} (h : Rok n tg d) : g_ram n tg n d = true := g_ram_iff.2 ⟨rfl, h.ld, h.lg, h.lo, h.hi⟩
theorem sT_len (n : Nat) (tg : List (List AV)) (off size : BitVec 64) : (v_sT n tg off size).length = tg.length := by
  unfold v_sT; cases v_ok n off size <;> simp only [cond_true, cond_false, v_clr_len]
theorem sD_len (n : Nat) (d : List (List AV)) (off size v : BitVec 64) : (v_sD n d off size v).length = d.length := by
  unfold v_sD; cases v_ok n off size <;> simp only [cond_true, cond_false, v_put_len]
theorem Rok.store {n : Nat} {tg d : List (List AV)} (h : Rok n tg d) (off size v : BitVec 64) : Rok n (v_sT n tg off size) (v_sD n d off size v) :=
  { ld := by rw [sD_len]; exact h.ld, lg := by rw [sT_len]; exact h.lg, lo := h.lo, hi := h.hi }
theorem Rok.zero : Rok 4096 zT (zB 4096) := { ld := List.length_replicate, lg := rfl, lo := by decide, hi := by decide }
theorem bA_set (d : List (List AV)) (i j : Nat) (b : BitVec 8) (h : i < d.length) : bA (d.set i [.int .u8 b]) j = if j = i then b else bA d j := by
  unfold bA
  rw [getD_set d i j _ h]
  split <;> rfl
theorem bA_put (d : List (List AV)) (o : Nat) (v : BitVec 64) (j : Nat) : ∀ n, o + n ≤ d.length → bA (v_put d o n v) j = if o ≤ j ∧ j < o + n then byteOf v (j - o) else bA d j
  | 0, h => by rw [if_neg (by omega)]; rfl
  | n + 1, h => by
    rw [v_put_succ, bA_set _ _ _ _ (by rw [v_put_len]; omega), bA_put d o v j n (by omega)]
    by_cases e : j = o + n
    · subst e; rw [if_pos rfl, if_pos (by omega), Nat.add_sub_cancel_left]
    · rw [if_neg e]
      by_cases q : o ≤ j ∧ j < o + n
      · rw [if_pos q, if_pos (by omega)]
      · rw [if_neg q, if_neg (by omega)]
theorem ok1 {n : Nat} {i : BitVec 64} (hn : n ≤ 65536) (h : i.toNat < n) : v_ok n i 1#64 = true := by
  unfold v_ok
  rw [show v_sized 1#64 = true from rfl, Bool.true_and]
  exact (v_in_iff (off := i) (size := 1#64) hn (by rw [show (1#64).toNat = 1 from rfl]; omega)).2 h
theorem lV1 {n : Nat} {d : List (List AV)} {i : BitVec 64} (hn : n ≤ 65536) (h : i.toNat < n) : v_lV n d i 1#64 = BitVec.setWidth 64 (bA d i.toNat) := by
  unfold v_lV
  rw [ok1 hn h, cond_true]
  show v_get d i.toNat 1 = _
  rw [v_get_succ]
  show 0#64 ||| BitVec.setWidth 64 (bA d (i.toNat + 0)) <<< 0 = _
  rw [BitVec.shiftLeft_zero, BitVec.zero_or, Nat.add_zero]
theorem w88 (b : BitVec 8) : BitVec.setWidth 8 (BitVec.setWidth 64 b) = b := by
  apply BitVec.eq_of_toNat_eq
  have := b.isLt
  rw [BitVec.toNat_setWidth, BitVec.toNat_setWidth]; omega
end Go.Sx

/- BusParts: what stands in memory. -/
namespace Go.Sx
open Go
/-! ### numbers of bytes, again -/
theorem byte_nat' (v : BitVec 64) {k : Nat} (h : k ≤ 8) : (byteOf v k).toNat = v.toNat / 2 ^ (8 * k) % 256 := by
  unfold byteOf
  rw [BitVec.toNat_setWidth, BitVec.toNat_ushiftRight, Nat.min_eq_left (by omega), Nat.shiftRight_eq_div_pow]
theorem sum_of (d : List (List AV)) (p x : Nat) : ∀ n, (∀ i, i < n → (bA d (p + i)).toNat = x / 2 ^ (8 * i) % 256) → sumB d p n = x % 2 ^ (8 * n)
  | 0, _ => by simp [sumB, Nat.mod_one]
  | n + 1, h => by
    unfold sumB
    rw [sum_of d p x n (fun i hi => h i (by omega)), h n (by omega)]
    rw [show 2 ^ (8 * (n + 1)) = 2 ^ (8 * n) * 256 by rw [Nat.mul_add, Nat.pow_add], Nat.mod_mul, Nat.mul_comm (2 ^ (8 * n))]
/-- Bytes from k on of a number's bytes. -/
theorem sum_part (d : List (List AV)) (o : Nat) (a : BitVec 64) (h : ∀ i, i < 8 → bA d (o + i) = byteOf a i) (k n : Nat) (hk : k + n ≤ 8) : sumB d (o + k) n = a.toNat / 2 ^ (8 * k) % 2 ^ (8 * n) := by
  apply sum_of
  intro i hi
  rw [Nat.add_assoc, h (k + i) (by omega), byte_nat' a (by omega), Nat.div_div_eq_div_mul, ← Nat.pow_add, Nat.mul_add]
/-- A place in memory. -/
theorem reg_ram {o k s : Nat} {P : BitVec 64} (hP : P.toNat = 2147483648 + o) (ho : o + k + s ≤ 4096) : v_reg 2147483648#64 4096#64 (P + BitVec.ofNat 64 k) (BitVec.ofNat 64 s) = true ∧ (P + BitVec.ofNat 64 k - 2147483648#64).toNat = o + k := by
  have hb : (2147483648#64).toNat = 2147483648 := rfl
  have hk : (BitVec.ofNat 64 k).toNat = k := ofNat_toNat (by omega)
  have hs : (BitVec.ofNat 64 s).toNat = s := ofNat_toNat (by omega)
  have h1 : (P + BitVec.ofNat 64 k).toNat = 2147483648 + o + k := by rw [BitVec.toNat_add, hP, hk]; omega
  have h2 : (P + BitVec.ofNat 64 k - 2147483648#64).toNat = o + k := by rw [BitVec.toNat_sub, h1, hb]; omega
  refine ⟨?_, h2⟩
  have h3 : (4096#64 - (P + BitVec.ofNat 64 k - 2147483648#64)).toNat = 4096 - (o + k) := by rw [BitVec.toNat_sub, h2, show (4096#64).toNat = 4096 from rfl]; omega
  unfold v_reg
  rw [BitVec.ule, BitVec.ule, BitVec.ule, sle_nat (by decide) (by omega), h1, h2, h3, hs, hb, show (4096#64).toNat = 4096 from rfl]
  rw [decide_eq_true (by omega), decide_eq_true (by show (0#64).toNat ≤ _; simp), decide_eq_true (by omega), decide_eq_true (by omega)]; rfl
theorem bp_pa (at_ : BitVec 64) : (bpP at_).toNat = 2147483648 + 16 * (at_.toNat % 256) := by
  have h1 : (at_ % 256#64).toNat = at_.toNat % 256 := by rw [BitVec.toNat_umod]; rfl
  have h2 : (at_ % 256#64 * 16#64).toNat = 16 * (at_.toNat % 256) := by rw [BitVec.toNat_mul, h1, show (16#64).toNat = 16 from rfl]; omega
  unfold bpP
  rw [BitVec.toNat_add, h2, show (2147483648#64).toNat = 2147483648 from rfl]; omega
theorem ok_at {o : BitVec 64} {s : Nat} (hs : v_sized (BitVec.ofNat 64 s) = true) (h : o.toNat + s ≤ 4096) : v_ok 4096 o (BitVec.ofNat 64 s) = true := by
  have e : (BitVec.ofNat 64 s).toNat = s := ofNat_toNat (by omega)
  unfold v_ok
  rw [hs, Bool.true_and]
  exact (v_in_iff (by decide) (by omega)).2 (by omega)
structure BpF (at_ a b : BitVec 64) : Prop where
  mem : g_ram 4096 (bpT at_) 4096 (bpD at_ a b) = true
  part : ∀ k s, v_sized (BitVec.ofNat 64 s) = true → k + s ≤ 8 → v_reg 2147483648#64 4096#64 (bpP at_ + BitVec.ofNat 64 k) (BitVec.ofNat 64 s) = true ∧ (!v_ok 4096 (bpP at_ + BitVec.ofNat 64 k - 2147483648#64) (BitVec.ofNat 64 s)) = false ∧
    (v_lV 4096 (bpD at_ a b) (bpP at_ + BitVec.ofNat 64 k - 2147483648#64) (BitVec.ofNat 64 s)).toNat = a.toNat / 2 ^ (8 * k) % 2 ^ (8 * s) ∧ (s < 8 → (BitVec.ofNat 64 (2 ^ (8 * s))).ule (v_lV 4096 (bpD at_ a b) (bpP at_ + BitVec.ofNat 64 k - 2147483648#64) (BitVec.ofNat 64 s)) = false)
  rest : v_reg 2147483648#64 4096#64 (bpP at_) 8#64 = true ∧ v_ok 4096 (bpP at_ - 2147483648#64) 8#64 = true ∧ v_reg 2147483648#64 4096#64 (bpP at_ + 8#64) 8#64 = true ∧ v_ok 4096 (bpP at_ + 8#64 - 2147483648#64) 8#64 = true ∧
    g_ram 4096 (v_sT 4096 zT (bpP at_ - 2147483648#64) 8#64) 4096 (v_sD 4096 (zB 4096) (bpP at_ - 2147483648#64) (8#64) a) = true ∧
    v_reg 2147483648#64 4096#64 (bpP at_) 16#64 = true ∧ v_okC 4096 (bpP at_ - 2147483648#64) = true ∧ v_cT 4096 (bpT at_) (bpP at_ - 2147483648#64) = false ∧ (v_cX 4096 (bpD at_ a b) (bpP at_ - 2147483648#64) 0 = a ∧ v_cX 4096 (bpD at_ a b) (bpP at_ - 2147483648#64) 8 = b)
theorem bp_facts (at_ a b : BitVec 64) : BpF at_ a b := by
  have hP := bp_pa at_
  generalize ho : 16 * (at_.toNat % 256) = o at hP
  have hol : o + 16 ≤ 4096 := by omega
  have ho16 : o % 16 = 0 := by omega
  have hR : ∀ k s, o + k + s ≤ 4096 → _ := fun k s h => reg_ram (k := k) (s := s) hP h
  have e0 : bpP at_ + BitVec.ofNat 64 0 = bpP at_ := by show _ + 0#64 = _; simp
  obtain ⟨r8, n8⟩ := hR 0 8 (by omega)
  obtain ⟨r16, _⟩ := hR 0 16 (by omega)
  rw [e0] at r8 n8 r16
  rw [Nat.add_zero] at n8
  obtain ⟨r88, n88⟩ := hR 8 8 (by omega)
  have s8 : v_sized (BitVec.ofNat 64 8) = true := rfl
  have k1 : v_ok 4096 (bpP at_ - 2147483648#64) 8#64 = true := ok_at s8 (by omega)
  have k2 : v_ok 4096 (bpP at_ + 8#64 - 2147483648#64) 8#64 = true := ok_at s8 (by rw [show (8#64) = BitVec.ofNat 64 8 from rfl, n88]; omega)
  have n88' : (bpP at_ + 8#64 - 2147483648#64).toNat = o + 8 := n88
  have hm1 := Rok.zero.store (bpP at_ - 2147483648#64) 8#64 a
  have hm : Rok 4096 (bpT at_) (bpD at_ a b) := hm1.store _ _ _
  have hz : (zB 4096).length = 4096 := List.length_replicate
  have hbytes : ∀ j, bA (bpD at_ a b) j = if o + 8 ≤ j ∧ j < o + 16 then byteOf b (j - (o + 8)) else if o ≤ j ∧ j < o + 8 then byteOf a (j - o) else bA (zB 4096) j := by
    intro j
    unfold bpD v_sD
    rw [k1, k2, cond_true, cond_true, n8, n88', show (8#64).toNat = 8 from rfl]
    rw [bA_put _ _ _ _ _ (by rw [v_put_len, hz]; omega), bA_put _ _ _ _ _ (by rw [hz]; omega)]
  have hA : ∀ i, i < 8 → bA (bpD at_ a b) (o + i) = byteOf a i := fun i hi => by
    rw [hbytes, if_neg (by omega), if_pos (by omega), Nat.add_sub_cancel_left]
  have hB : ∀ i, i < 8 → bA (bpD at_ a b) (o + 8 + i) = byteOf b i := fun i hi => by
    rw [hbytes, if_pos (by omega), Nat.add_sub_cancel_left]
  have kC : v_okC 4096 (bpP at_ - 2147483648#64) = true := by
    unfold v_okC
    rw [Bool.and_eq_true, beq_iff_eq]
    refine ⟨(v_in_iff (n := 4096) (size := 16#64) (by decide) (by decide)).2 (by rw [n8]; show o + 16 ≤ 4096; omega), ?_⟩
    apply BitVec.eq_of_toNat_eq
    rw [sremN _ 16#64 (by decide) (by omega), BitVec.toNat_umod, n8]
    exact ho16
  refine { mem := hm.ram, part := fun k s hs hks => ?_, rest := ⟨r8, k1, r88, k2, hm1.ram, r16, kC, ?_, ?_, ?_⟩ }
  · obtain ⟨r, n⟩ := hR k s (by omega)
    have hok := ok_at (o := bpP at_ + BitVec.ofNat 64 k - 2147483648#64) hs (by omega)
    have hl : (v_lV 4096 (bpD at_ a b) (bpP at_ + BitVec.ofNat 64 k - 2147483648#64) (BitVec.ofNat 64 s)).toNat = a.toNat / 2 ^ (8 * k) % 2 ^ (8 * s) := by
      unfold v_lV
      rw [hok, cond_true, n, ofNat_toNat (n := s) (by omega), get_nat _ _ _ (by omega)]
      exact sum_part _ o a hA k s hks
    refine ⟨r, by rw [hok]; rfl, hl, fun h8 => ?_⟩
    rw [BitVec.ule, hl, ofNat_toNat (Nat.pow_lt_pow_right (by decide) (by omega))]
    exact decide_eq_false (Nat.not_le.2 (Nat.mod_lt _ (Nat.pow_pos (by decide))))
  · unfold v_cT
    rw [kC, cond_true, n8]
    unfold bpT v_sT
    rw [k1, k2, cond_true, cond_true, n8, n88', show (8#64).toNat = 8 from rfl]
    rw [tag_clr _ _ _ (by rw [v_clr_len, v_clr_len, v_clr_len]; rfl) (by omega), tag_clr _ _ _ (by rw [v_clr_len, v_clr_len]; rfl) (by omega), decide_eq_true (show o / 16 = (o + 8) / 16 by omega)]
    simp
  · unfold v_cX
    rw [kC, cond_true, n8]
    apply BitVec.eq_of_toNat_eq
    rw [get_nat _ _ _ (by omega), sum_part _ o a hA 0 8 (by omega)]
    have := a.isLt
    show a.toNat / 1 % 2 ^ 64 = a.toNat
    rw [Nat.div_one]; exact Nat.mod_eq_of_lt this
  · unfold v_cX
    rw [kC, cond_true, n8]
    apply BitVec.eq_of_toNat_eq
    have := sum_part _ (o + 8) b hB 0 8 (by omega)
    rw [Nat.add_zero] at this
    rw [get_nat _ _ _ (by omega), this]
    have := b.isLt
    show b.toNat / 1 % 2 ^ 64 = b.toNat
    rw [Nat.div_one]; exact Nat.mod_eq_of_lt this
end Go.Sx

/- Places in memory. -/
namespace Go.Sx
open Go
theorem ok_facts {n : Nat} {off size : BitVec 64} (hok : v_ok n off size = true) (hlo : 4096 ≤ n) (hhi : n ≤ 65536) : 1 ≤ size.toNat ∧ size.toNat ≤ 8 ∧ off.toNat + size.toNat ≤ n := by
  unfold v_ok at hok
  rw [Bool.and_eq_true] at hok
  have hs := v_sized_nat hok.1
  have hle := (v_in_iff (off := off) (size := size) hhi (by omega)).1 hok.2
  omega
theorem okC_facts {n : Nat} {off : BitVec 64} (hok : v_okC n off = true) (hlo : 4096 ≤ n) (hhi : n ≤ 65536) : off.toNat + 16 ≤ n ∧ off.toNat % 16 = 0 := by
  unfold v_okC at hok
  rw [Bool.and_eq_true, beq_iff_eq] at hok
  have hle : off.toNat + 16 ≤ n := (v_in_iff (off := off) (size := 16#64) hhi (by rw [show (16#64).toNat = 16 from rfl]; omega)).1 hok.1
  refine ⟨hle, ?_⟩
  have := congrArg BitVec.toNat hok.2
  rw [sremN off 16#64 (by decide) (by omega), BitVec.toNat_umod] at this
  exact this
end Go.Sx

/- Capabilities and bytes in memory. -/
namespace Go.Sx
open Go
theorem get_congr (d d' : List (List AV)) (p : Nat) : ∀ n, (∀ i, i < n → bA d (p + i) = bA d' (p + i)) → v_get d p n = v_get d' p n
  | 0, _ => rfl
  | n + 1, h => by rw [v_get_succ, v_get_succ, get_congr d d' p n (fun i hi => h i (by omega)), h n (by omega)]
theorem get_of {d : List (List AV)} {p : Nat} {x : BitVec 64} (h : ∀ i, i < 8 → bA d (p + i) = byteOf x i) : v_get d p 8 = x := by
  apply BitVec.eq_of_toNat_eq
  have e := sum_part d p x h 0 8 (by omega)
  rw [Nat.add_zero] at e
  rw [get_nat _ _ _ (by omega), e]
  have := x.isLt
  show x.toNat / 1 % 2 ^ 64 = x.toNat
  rw [Nat.div_one]; exact Nat.mod_eq_of_lt this
theorem bA_tD {d : List (List AV)} {off x y : BitVec 64} (hd : d.length = 4096) (hok : v_okC 4096 off = true) (j : Nat) :
    bA (v_tD 4096 d off x y) j = if off.toNat + 8 ≤ j ∧ j < off.toNat + 16 then byteOf y (j - (off.toNat + 8)) else if off.toNat ≤ j ∧ j < off.toNat + 8 then byteOf x (j - off.toNat) else bA d j := by
  obtain ⟨f1, f2⟩ := okC_facts hok (by decide) (by decide)
  unfold v_tD
  rw [hok, cond_true, bA_put _ _ _ _ _ (by rw [v_put_len]; omega), bA_put _ _ _ _ _ (by omega)]
theorem cX_tD0 {d : List (List AV)} {off x y : BitVec 64} (hd : d.length = 4096) (hok : v_okC 4096 off = true) : v_cX 4096 (v_tD 4096 d off x y) off 0 = x := by
  unfold v_cX
  rw [hok, cond_true]
  exact get_of fun i hi => by rw [bA_tD hd hok, if_neg (by omega), if_pos (by omega)]; congr 1; omega
theorem cX_tD8 {d : List (List AV)} {off x y : BitVec 64} (hd : d.length = 4096) (hok : v_okC 4096 off = true) : v_cX 4096 (v_tD 4096 d off x y) off 8 = y := by
  unfold v_cX
  rw [hok, cond_true]
  exact get_of fun i hi => by rw [bA_tD hd hok, if_pos (by omega)]; congr 1; omega
theorem cX_tD_ne {d : List (List AV)} {off off2 x y : BitVec 64} (hd : d.length = 4096) (hok : v_okC 4096 off = true) (hne : off2.toNat + 16 ≤ off.toNat ∨ off.toNat + 16 ≤ off2.toNat) (k : Nat) (hk : k ≤ 8) : v_cX 4096 (v_tD 4096 d off x y) off2 k = v_cX 4096 d off2 k := by
  unfold v_cX
  rw [get_congr (v_tD 4096 d off x y) d (off2.toNat + k) 8 (fun i hi => by rw [bA_tD hd hok, if_neg (by omega), if_neg (by omega)])]
theorem cX_sD_ne {d : List (List AV)} {o off2 v : BitVec 64} {size : BitVec 64} (hd : d.length = 4096) (hok : v_ok 4096 o size = true) (hne : off2.toNat + 16 ≤ o.toNat ∨ o.toNat + size.toNat ≤ off2.toNat) (k : Nat) (hk : k ≤ 8) : v_cX 4096 (v_sD 4096 d o size v) off2 k = v_cX 4096 d off2 k := by
  obtain ⟨f1, f2, f3⟩ := ok_facts hok (by decide) (by decide)
  unfold v_cX v_sD
  rw [hok, cond_true]
  rw [get_congr (v_put d o.toNat size.toNat v) d (off2.toNat + k) 8 (fun i hi => by rw [bA_put _ _ _ _ _ (by omega), if_neg (by omega)])]
theorem tag_tT' {tg : List (List AV)} {off : BitVec 64} (b : Bool) (hl : tg.length = 64) (hok : v_okC 4096 off = true) (p : Nat) : v_tag (v_tT 4096 tg off b) p = if p / 16 = off.toNat / 16 then b else v_tag tg p := by
  obtain ⟨f1, f2⟩ := okC_facts hok (by decide) (by decide)
  unfold v_tT
  rw [hok, cond_true]
  cases b with
  | true =>
    rw [cond_true, tag_lay _ _ _ (by rw [v_clr_len]; exact hl) (by omega), tag_clr _ _ _ hl (by omega)]
    by_cases q : p / 16 = off.toNat / 16
    · rw [if_pos q, decide_eq_true q]; simp
    · rw [if_neg q, decide_eq_false q]; simp
  | false =>
    rw [cond_false, tag_clr _ _ _ hl (by omega)]
    by_cases q : p / 16 = off.toNat / 16
    · rw [if_pos q, decide_eq_true q]; simp
    · rw [if_neg q, decide_eq_false q]; simp
theorem cT_tT {tg : List (List AV)} {off : BitVec 64} (b : Bool) (hl : tg.length = 64) (hok : v_okC 4096 off = true) : v_cT 4096 (v_tT 4096 tg off b) off = b := by
  unfold v_cT
  rw [hok, cond_true, tag_tT' b hl hok, if_pos rfl]
theorem cT_tT_ne {tg : List (List AV)} {off off2 : BitVec 64} (b : Bool) (hl : tg.length = 64) (hok : v_okC 4096 off = true) (hne : off2.toNat / 16 ≠ off.toNat / 16) : v_cT 4096 (v_tT 4096 tg off b) off2 = v_cT 4096 tg off2 := by
  unfold v_cT
  rw [tag_tT' b hl hok, if_neg hne]
theorem tag_sT1 {tg : List (List AV)} {o : BitVec 64} (hl : tg.length = 64) (hok : v_ok 4096 o 1#64 = true) (p : Nat) : v_tag (v_sT 4096 tg o 1#64) p = (v_tag tg p && !decide (p / 16 = o.toNat / 16)) := by
  obtain ⟨f1, f2, f3⟩ := ok_facts hok (by decide) (by decide)
  have e1 : (1#64).toNat = 1 := rfl
  unfold v_sT
  rw [hok, cond_true, tag_clr _ _ _ (by rw [v_clr_len]; exact hl) (by omega), tag_clr _ _ _ hl (by omega), e1, Nat.add_sub_cancel]
  cases v_tag tg p <;> cases decide (p / 16 = o.toNat / 16) <;> rfl
end Go.Sx


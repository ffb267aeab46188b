/- Both UARTs, call by call: a round. -/
import Derived.Test.YtenimiinkhjdbaaPlSr3
set_option linter.unusedSimpArgs false
set_option linter.unusedVariables false
set_option linter.unnecessarySimpa false
namespace Go.Sx
open Go
theorem beqT (b : Bool) : (b == true) = b := by cases b <;> rfl
theorem beqF (b : Bool) : (b == false) = !b := by cases b <;> rfl
theorem tBeq (b : Bool) : (true == b) = b := by cases b <;> rfl
theorem fBeq (b : Bool) : (false == b) = !b := by cases b <;> rfl
theorem beq_ofNat {cn : BitVec 64} {n : Nat} (h : cn = BitVec.ofNat 64 n) : (cn == BitVec.ofNat 64 n) = true := by rw [h]; exact beq_self_eq_true _
set_option maxHeartbeats 4000000 in
theorem sr_nn (rw : Bool) (no mo : Nat) (dd q : List (List AV)) (fi cn : BitVec 64) (en : Bool) (e : Bool) (to : BitVec 64) (po yo : Bool) (i : BitVec 64) (h : srOk (.nn rw no mo dd q fi cn en e to po yo i)) (hi : i.toNat < no) :
    ∃ y, srStep (.nn rw no mo dd q fi cn en e to po yo i) = some (.inl y) ∧ srOk y ∧ srI y + 1 = no - i.toNat := by
  obtain ⟨hr, rfl, rfl, rfl, hl⟩ := h
  obtain ⟨hl1, hl2⟩ := hl.inc hi
  obtain ⟨hm, hn63, _⟩ := hl
  have hcn := beq_ofNat (n := 0) hr.2.2
  have e32 : ∀ v : BitVec 64, (BitVec.setWidth 32 v == 21845#32) = (v % 4294967296#64 == 21845#64) := fun v => lo32 v 21845#32
  simp only [srStep]
  rw [slt_len (show i.toNat < 2 ^ 63 by omega) hn63]
  simp only [decide_eq_true hi, decide_eq_true (show 0 + i.toNat < mo by omega), nonneg_lt (show i.toNat < 2 ^ 63 by omega), hr.ring, asU8_mk, e32, hcn, Bool.and_true, cond_true, beq_self_eq_true, Bool.not_true, cond_false]
  generalize asI64 ((dd.getD (0 + i.toNat) []).headD AV.any) = k
  generalize asI64 ((dd.getD (0 + i.toNat) []).tail.headD AV.any) = off
  generalize asI64 ((dd.getD (0 + i.toNat) []).tail.tail.headD AV.any) = size
  generalize asU64 ((dd.getD (0 + i.toNat) []).tail.tail.tail.headD AV.any) = v
  cases k0 : (k == 0#64) with
  | true =>
    obtain ⟨a1, a2, a3⟩ := hr.input (BitVec.setWidth 8 v)
    simp only [a1, beq_ofNat (n := 1) a2, beq_self_eq_true, Bool.not_true, Bool.not_false, cond_true, cond_false, Bool.and_true, Bool.true_and]
    exact ⟨_, rfl, ⟨a3, rfl, rfl, rfl, hl1⟩, hl2⟩
  | false =>
  cases k1 : (k == 1#64) with
  | true =>
    simp only [beq_self_eq_true, Bool.not_true, Bool.not_false, cond_true, cond_false, Bool.and_true, Bool.true_and]
    exact ⟨_, rfl, ⟨hr, rfl, rfl, rfl, hl1⟩, hl2⟩
  | false =>
  cases k2 : (k == 2#64) with
  | true =>
    obtain ⟨a1, a2, a3⟩ := hr.load e off size
    simp only [a1, a2, a3, beq_self_eq_true, Bool.not_true, Bool.not_false, cond_true, cond_false, Bool.and_true, Bool.true_and]
    exact ⟨_, rfl, ⟨⟨hr.1, hr.2.1, rfl⟩, rfl, rfl, rfl, hl1⟩, hl2⟩
  | false =>
  cases k3 : (k == 3#64) with
  | true =>
    cases ht : v_usT off size with
    | true =>
      simp only [st_there off size ht, hcn, beq_self_eq_true, Bool.not_true, Bool.not_false, cond_true, cond_false, Bool.and_true, Bool.true_and]
      exact ⟨_, rfl, ⟨hr, st_told off size v _ ht, st_en _ off size v ht, rfl, hl1⟩, hl2⟩
    | false =>
      simp only [hcn, beq_self_eq_true, Bool.not_true, Bool.not_false, cond_true, cond_false, Bool.and_true, Bool.true_and]
      exact ⟨_, rfl, ⟨hr, st_keep off size v _ ht, (st_on _ off size v).symm, rfl, hl1⟩, hl2⟩
  | false =>
  generalize (off == 0#64) = A
  generalize (size == 4#64) = S
  generalize (v % 4294967296#64 == 21845#64) = Z
  cases k == 4#64 <;> cases k == 5#64 <;> cases A <;> cases S <;> cases yo <;> cases Z <;> simp only [beqT, beqF, tBeq, fBeq, beq_self_eq_true, Bool.not_true, Bool.not_false, cond_true, cond_false, Bool.and_true, Bool.true_and] <;> refine ⟨_, rfl, ?_, hl2⟩ <;> exact ⟨hr, rfl, rfl, rfl, hl1⟩
set_option maxHeartbeats 4000000 in
theorem sr_tn (rw : Bool) (no mo : Nat) (dd q : List (List AV)) (fi cn : BitVec 64) (en : Bool) (tb : BitVec 8) (e : Bool) (to : BitVec 64) (po yo : Bool) (i : BitVec 64) (h : srOk (.tn rw no mo dd q fi cn en tb e to po yo i)) (hi : i.toNat < no) :
    ∃ y, srStep (.tn rw no mo dd q fi cn en tb e to po yo i) = some (.inl y) ∧ srOk y ∧ srI y + 1 = no - i.toNat := by
  obtain ⟨hr, rfl, rfl, rfl, hl⟩ := h
  obtain ⟨hl1, hl2⟩ := hl.inc hi
  obtain ⟨hm, hn63, _⟩ := hl
  have hcn := beq_ofNat (n := 0) hr.2.2
  have e32 : ∀ v : BitVec 64, (BitVec.setWidth 32 v == 21845#32) = (v % 4294967296#64 == 21845#64) := fun v => lo32 v 21845#32
  simp only [srStep]
  rw [slt_len (show i.toNat < 2 ^ 63 by omega) hn63]
  simp only [decide_eq_true hi, decide_eq_true (show 0 + i.toNat < mo by omega), nonneg_lt (show i.toNat < 2 ^ 63 by omega), hr.ring, asU8_mk, e32, hcn, Bool.and_true, cond_true, beq_self_eq_true, Bool.not_true, cond_false]
  generalize asI64 ((dd.getD (0 + i.toNat) []).headD AV.any) = k
  generalize asI64 ((dd.getD (0 + i.toNat) []).tail.headD AV.any) = off
  generalize asI64 ((dd.getD (0 + i.toNat) []).tail.tail.headD AV.any) = size
  generalize asU64 ((dd.getD (0 + i.toNat) []).tail.tail.tail.headD AV.any) = v
  cases k0 : (k == 0#64) with
  | true =>
    obtain ⟨a1, a2, a3⟩ := hr.input (BitVec.setWidth 8 v)
    simp only [a1, beq_ofNat (n := 1) a2, beq_self_eq_true, Bool.not_true, Bool.not_false, cond_true, cond_false, Bool.and_true, Bool.true_and]
    exact ⟨_, rfl, ⟨a3, rfl, rfl, rfl, hl1⟩, hl2⟩
  | false =>
  cases k1 : (k == 1#64) with
  | true =>
    simp only [beq_self_eq_true, Bool.not_true, Bool.not_false, cond_true, cond_false, Bool.and_true, Bool.true_and]
    exact ⟨_, rfl, ⟨hr, rfl, rfl, rfl, hl1⟩, hl2⟩
  | false =>
  cases k2 : (k == 2#64) with
  | true =>
    obtain ⟨a1, a2, a3⟩ := hr.load e off size
    simp only [a1, a2, a3, beq_self_eq_true, Bool.not_true, Bool.not_false, cond_true, cond_false, Bool.and_true, Bool.true_and]
    exact ⟨_, rfl, ⟨⟨hr.1, hr.2.1, rfl⟩, rfl, rfl, rfl, hl1⟩, hl2⟩
  | false =>
  cases k3 : (k == 3#64) with
  | true =>
    cases ht : v_usT off size with
    | true =>
      simp only [st_there off size ht, hcn, beq_self_eq_true, Bool.not_true, Bool.not_false, cond_true, cond_false, Bool.and_true, Bool.true_and]
      exact ⟨_, rfl, ⟨hr, st_told off size v _ ht, st_en _ off size v ht, rfl, hl1⟩, hl2⟩
    | false =>
      simp only [hcn, beq_self_eq_true, Bool.not_true, Bool.not_false, cond_true, cond_false, Bool.and_true, Bool.true_and]
      exact ⟨_, rfl, ⟨hr, st_keep off size v _ ht, (st_on _ off size v).symm, rfl, hl1⟩, hl2⟩
  | false =>
  generalize (off == 0#64) = A
  generalize (size == 4#64) = S
  generalize (v % 4294967296#64 == 21845#64) = Z
  cases k == 4#64 <;> cases k == 5#64 <;> cases A <;> cases S <;> cases yo <;> cases Z <;> simp only [beqT, beqF, tBeq, fBeq, beq_self_eq_true, Bool.not_true, Bool.not_false, cond_true, cond_false, Bool.and_true, Bool.true_and] <;> refine ⟨_, rfl, ?_, hl2⟩ <;> exact ⟨hr, rfl, rfl, rfl, hl1⟩
set_option maxHeartbeats 4000000 in
theorem sr_nr (rw : Bool) (no mo : Nat) (dd q : List (List AV)) (fi cn : BitVec 64) (en : Bool) (n m : Nat) (d : List (List AV)) (e : Bool) (to : BitVec 64) (po yo : Bool) (i : BitVec 64) (h : srOk (.nr rw no mo dd q fi cn en n m d e to po yo i)) (hi : i.toNat < no) :
    ∃ y, srStep (.nr rw no mo dd q fi cn en n m d e to po yo i) = some (.inl y) ∧ srOk y ∧ srI y + 1 = no - i.toNat := by
  obtain ⟨hr, rfl, rfl, rfl, hl⟩ := h
  obtain ⟨hl1, hl2⟩ := hl.inc hi
  obtain ⟨hm, hn63, _⟩ := hl
  have hcn := beq_ofNat hr.2.2.1
  have e32 : ∀ v : BitVec 64, (BitVec.setWidth 32 v == 21845#32) = (v % 4294967296#64 == 21845#64) := fun v => lo32 v 21845#32
  simp only [srStep]
  rw [slt_len (show i.toNat < 2 ^ 63 by omega) hn63]
  simp only [decide_eq_true hi, decide_eq_true (show 0 + i.toNat < mo by omega), nonneg_lt (show i.toNat < 2 ^ 63 by omega), hr.ring, hr.row, hr.pos, asU8_mk, e32, hcn, Bool.and_true, cond_true, beq_self_eq_true, Bool.not_true, cond_false]
  generalize asI64 ((dd.getD (0 + i.toNat) []).headD AV.any) = k
  generalize asI64 ((dd.getD (0 + i.toNat) []).tail.headD AV.any) = off
  generalize asI64 ((dd.getD (0 + i.toNat) []).tail.tail.headD AV.any) = size
  generalize asU64 ((dd.getD (0 + i.toNat) []).tail.tail.tail.headD AV.any) = v
  cases k0 : (k == 0#64) with
  | true =>
    cases hf : v_full n with
    | true =>
      obtain ⟨a1, a2, a3⟩ := hr.full hf (BitVec.setWidth 8 v)
      simp only [a1, beq_ofNat a2, beq_self_eq_true, Bool.not_true, Bool.not_false, cond_true, cond_false, Bool.and_true, Bool.true_and]
      exact ⟨_, rfl, ⟨a3, rfl, rfl, rfl, hl1⟩, hl2⟩
    | false =>
      obtain ⟨a1, a2, a3⟩ := hr.more hf (BitVec.setWidth 8 v)
      simp only [a1, beq_ofNat a2, beq_self_eq_true, Bool.not_true, Bool.not_false, cond_true, cond_false, Bool.and_true, Bool.true_and]
      exact ⟨_, rfl, ⟨a3, rfl, rfl, rfl, hl1⟩, hl2⟩
  | false =>
  cases k1 : (k == 1#64) with
  | true =>
    simp only [beq_self_eq_true, Bool.not_true, Bool.not_false, cond_true, cond_false, Bool.and_true, Bool.true_and]
    exact ⟨_, rfl, ⟨hr, rfl, rfl, rfl, hl1⟩, hl2⟩
  | false =>
  cases k2 : (k == 2#64) with
  | true =>
    cases ht : v_usT off size with
    | true =>
      obtain ⟨a1, a2, a3, a4, a5⟩ := hr.next e off size ht
      have a1' : v_ulV q fi cn e off size = BitVec.setWidth 64 (asU8 ((d.getD 0 []).headD AV.any)) := a1
      cases hb : Nat.ble n 1 with
      | true =>
        have a6 := a4 hb
        simp only [a1', a2, a6.2.2, beq_self_eq_true, Bool.not_true, Bool.not_false, cond_true, cond_false, Bool.and_true, Bool.true_and]
        refine ⟨_, rfl, ⟨?_, rfl, rfl, rfl, hl1⟩, hl2⟩
        rw [a6.2.2] at a6; exact a6
      | false =>
        have a6 := a5 hb
        simp only [a1', a2, beq_ofNat a3, beq_self_eq_true, Bool.not_true, Bool.not_false, cond_true, cond_false, Bool.and_true, Bool.true_and]
        exact ⟨_, rfl, ⟨a6, rfl, rfl, rfl, hl1⟩, hl2⟩
    | false =>
      obtain ⟨a1, a2, a3⟩ := hr.same e off size ht
      simp only [a1, a2, a3, hcn, beq_self_eq_true, Bool.not_true, Bool.not_false, cond_true, cond_false, Bool.and_true, Bool.true_and]
      exact ⟨_, rfl, ⟨hr, rfl, rfl, rfl, hl1⟩, hl2⟩
  | false =>
  cases k3 : (k == 3#64) with
  | true =>
    cases ht : v_usT off size with
    | true =>
      simp only [st_there off size ht, hcn, beq_self_eq_true, Bool.not_true, Bool.not_false, cond_true, cond_false, Bool.and_true, Bool.true_and]
      exact ⟨_, rfl, ⟨hr, st_told off size v _ ht, st_en _ off size v ht, rfl, hl1⟩, hl2⟩
    | false =>
      simp only [hcn, beq_self_eq_true, Bool.not_true, Bool.not_false, cond_true, cond_false, Bool.and_true, Bool.true_and]
      exact ⟨_, rfl, ⟨hr, st_keep off size v _ ht, (st_on _ off size v).symm, rfl, hl1⟩, hl2⟩
  | false =>
  generalize (off == 0#64) = A
  generalize (size == 4#64) = S
  generalize (v % 4294967296#64 == 21845#64) = Z
  cases k == 4#64 <;> cases k == 5#64 <;> cases A <;> cases S <;> cases yo <;> cases Z <;> simp only [beqT, beqF, tBeq, fBeq, beq_self_eq_true, Bool.not_true, Bool.not_false, cond_true, cond_false, Bool.and_true, Bool.true_and] <;> refine ⟨_, rfl, ?_, hl2⟩ <;> exact ⟨hr, rfl, rfl, rfl, hl1⟩
set_option maxHeartbeats 4000000 in
theorem sr_tr (rw : Bool) (no mo : Nat) (dd q : List (List AV)) (fi cn : BitVec 64) (en : Bool) (tb : BitVec 8) (n m : Nat) (d : List (List AV)) (e : Bool) (to : BitVec 64) (po yo : Bool) (i : BitVec 64) (h : srOk (.tr rw no mo dd q fi cn en tb n m d e to po yo i)) (hi : i.toNat < no) :
    ∃ y, srStep (.tr rw no mo dd q fi cn en tb n m d e to po yo i) = some (.inl y) ∧ srOk y ∧ srI y + 1 = no - i.toNat := by
  obtain ⟨hr, rfl, rfl, rfl, hl⟩ := h
  obtain ⟨hl1, hl2⟩ := hl.inc hi
  obtain ⟨hm, hn63, _⟩ := hl
  have hcn := beq_ofNat hr.2.2.1
  have e32 : ∀ v : BitVec 64, (BitVec.setWidth 32 v == 21845#32) = (v % 4294967296#64 == 21845#64) := fun v => lo32 v 21845#32
  simp only [srStep]
  rw [slt_len (show i.toNat < 2 ^ 63 by omega) hn63]
  simp only [decide_eq_true hi, decide_eq_true (show 0 + i.toNat < mo by omega), nonneg_lt (show i.toNat < 2 ^ 63 by omega), hr.ring, hr.row, hr.pos, asU8_mk, e32, hcn, Bool.and_true, cond_true, beq_self_eq_true, Bool.not_true, cond_false]
  generalize asI64 ((dd.getD (0 + i.toNat) []).headD AV.any) = k
  generalize asI64 ((dd.getD (0 + i.toNat) []).tail.headD AV.any) = off
  generalize asI64 ((dd.getD (0 + i.toNat) []).tail.tail.headD AV.any) = size
  generalize asU64 ((dd.getD (0 + i.toNat) []).tail.tail.tail.headD AV.any) = v
  cases k0 : (k == 0#64) with
  | true =>
    cases hf : v_full n with
    | true =>
      obtain ⟨a1, a2, a3⟩ := hr.full hf (BitVec.setWidth 8 v)
      simp only [a1, beq_ofNat a2, beq_self_eq_true, Bool.not_true, Bool.not_false, cond_true, cond_false, Bool.and_true, Bool.true_and]
      exact ⟨_, rfl, ⟨a3, rfl, rfl, rfl, hl1⟩, hl2⟩
    | false =>
      obtain ⟨a1, a2, a3⟩ := hr.more hf (BitVec.setWidth 8 v)
      simp only [a1, beq_ofNat a2, beq_self_eq_true, Bool.not_true, Bool.not_false, cond_true, cond_false, Bool.and_true, Bool.true_and]
      exact ⟨_, rfl, ⟨a3, rfl, rfl, rfl, hl1⟩, hl2⟩
  | false =>
  cases k1 : (k == 1#64) with
  | true =>
    simp only [beq_self_eq_true, Bool.not_true, Bool.not_false, cond_true, cond_false, Bool.and_true, Bool.true_and]
    exact ⟨_, rfl, ⟨hr, rfl, rfl, rfl, hl1⟩, hl2⟩
  | false =>
  cases k2 : (k == 2#64) with
  | true =>
    cases ht : v_usT off size with
    | true =>
      obtain ⟨a1, a2, a3, a4, a5⟩ := hr.next e off size ht
      have a1' : v_ulV q fi cn e off size = BitVec.setWidth 64 (asU8 ((d.getD 0 []).headD AV.any)) := a1
      cases hb : Nat.ble n 1 with
      | true =>
        have a6 := a4 hb
        simp only [a1', a2, a6.2.2, beq_self_eq_true, Bool.not_true, Bool.not_false, cond_true, cond_false, Bool.and_true, Bool.true_and]
        refine ⟨_, rfl, ⟨?_, rfl, rfl, rfl, hl1⟩, hl2⟩
        rw [a6.2.2] at a6; exact a6
      | false =>
        have a6 := a5 hb
        simp only [a1', a2, beq_ofNat a3, beq_self_eq_true, Bool.not_true, Bool.not_false, cond_true, cond_false, Bool.and_true, Bool.true_and]
        exact ⟨_, rfl, ⟨a6, rfl, rfl, rfl, hl1⟩, hl2⟩
    | false =>
      obtain ⟨a1, a2, a3⟩ := hr.same e off size ht
      simp only [a1, a2, a3, hcn, beq_self_eq_true, Bool.not_true, Bool.not_false, cond_true, cond_false, Bool.and_true, Bool.true_and]
      exact ⟨_, rfl, ⟨hr, rfl, rfl, rfl, hl1⟩, hl2⟩
  | false =>
  cases k3 : (k == 3#64) with
  | true =>
    cases ht : v_usT off size with
    | true =>
      simp only [st_there off size ht, hcn, beq_self_eq_true, Bool.not_true, Bool.not_false, cond_true, cond_false, Bool.and_true, Bool.true_and]
      exact ⟨_, rfl, ⟨hr, st_told off size v _ ht, st_en _ off size v ht, rfl, hl1⟩, hl2⟩
    | false =>
      simp only [hcn, beq_self_eq_true, Bool.not_true, Bool.not_false, cond_true, cond_false, Bool.and_true, Bool.true_and]
      exact ⟨_, rfl, ⟨hr, st_keep off size v _ ht, (st_on _ off size v).symm, rfl, hl1⟩, hl2⟩
  | false =>
  generalize (off == 0#64) = A
  generalize (size == 4#64) = S
  generalize (v % 4294967296#64 == 21845#64) = Z
  cases k == 4#64 <;> cases k == 5#64 <;> cases A <;> cases S <;> cases yo <;> cases Z <;> simp only [beqT, beqF, tBeq, fBeq, beq_self_eq_true, Bool.not_true, Bool.not_false, cond_true, cond_false, Bool.and_true, Bool.true_and] <;> refine ⟨_, rfl, ?_, hl2⟩ <;> exact ⟨hr, rfl, rfl, rfl, hl1⟩
theorem sr_on (x : SrS) (h : srOk x) (hi : 0 < srI x) : ∃ y, srStep x = some (.inl y) ∧ srOk y ∧ srI y + 1 = srI x := by
  cases x with
  | nn rw no mo dd q fi cn en e to po yo i => exact sr_nn rw no mo dd q fi cn en e to po yo i h (by simp only [srI] at hi; omega)
  | tn rw no mo dd q fi cn en tb e to po yo i => exact sr_tn rw no mo dd q fi cn en tb e to po yo i h (by simp only [srI] at hi; omega)
  | nr rw no mo dd q fi cn en n m d e to po yo i => exact sr_nr rw no mo dd q fi cn en n m d e to po yo i h (by simp only [srI] at hi; omega)
  | tr rw no mo dd q fi cn en tb n m d e to po yo i => exact sr_tr rw no mo dd q fi cn en tb n m d e to po yo i h (by simp only [srI] at hi; omega)
def srF : SrS → Nat
  | .nn .. => 5
  | .tn .. => 6
  | .nr .. => 6
  | .tr .. => 7
theorem sr_off (x : SrS) (h : srOk x) (hi : srI x = 0) : srStep x = some (.inr (.fine (srF x))) := by
  cases x with
  | nn rw no mo dd q fi cn en e to po yo i =>
    obtain ⟨_, _, _, _, h1, h2, h3⟩ := h
    simp only [srI] at hi; simp only [srStep]
    rw [slt_len (show i.toNat < 2 ^ 63 by omega) h2, decide_eq_false (by omega)]; rfl
  | tn rw no mo dd q fi cn en tb e to po yo i =>
    obtain ⟨_, _, _, _, h1, h2, h3⟩ := h
    simp only [srI] at hi; simp only [srStep]
    rw [slt_len (show i.toNat < 2 ^ 63 by omega) h2, decide_eq_false (by omega)]; rfl
  | nr rw no mo dd q fi cn en n m d e to po yo i =>
    obtain ⟨_, _, _, _, h1, h2, h3⟩ := h
    simp only [srI] at hi; simp only [srStep]
    rw [slt_len (show i.toNat < 2 ^ 63 by omega) h2, decide_eq_false (by omega)]; rfl
  | tr rw no mo dd q fi cn en tb n m d e to po yo i =>
    obtain ⟨_, _, _, _, h1, h2, h3⟩ := h
    simp only [srI] at hi; simp only [srStep]
    rw [slt_len (show i.toNat < 2 ^ 63 by omega) h2, decide_eq_false (by omega)]; rfl
theorem srF_is (x : SrS) : srF x = 5 ∨ srF x = 6 ∨ srF x = 7 := by cases x <;> simp [srF]
theorem sr_rn : ∀ (k : Nat) (x : SrS), srI x = k → srOk x → ∃ nn, Rn srStep x (.fine nn) ∧ (nn = 5 ∨ nn = 6 ∨ nn = 7) := by
  intro k
  induction k with
  | zero => intro x hk h; exact ⟨_, .last (sr_off x h hk), srF_is x⟩
  | succ k ih =>
    intro x hk h
    obtain ⟨y, h1, h2, h3⟩ := sr_on x h (by omega)
    obtain ⟨nn, hr, hn⟩ := ih y (by omega) h2
    exact ⟨nn, .next h1 hr, hn⟩
open Classical in
noncomputable def g_sr (x : SrS) : Bool := decide (srOk x)
theorem g_sr_ok {x : SrS} (h : srOk x) : g_sr x = true := by unfold g_sr; exact @decide_eq_true _ (Classical.propDecidable _) h
theorem g_sr_ex {x : SrS} (h : g_sr x = true) : ∃ nn, Rn srStep x (.fine nn) ∧ (nn = 5 ∨ nn = 6 ∨ nn = 7) := by
  have hok : srOk x := by unfold g_sr at h; simpa using h
  exact sr_rn _ x rfl hok
open Classical in
/-- Is the next name behind the loop so? -/
noncomputable def v_srN (x : SrS) (n : Nat) : Bool := decide (Rn srStep x (.fine n))
theorem v_srN_iff {x : SrS} {n : Nat} : v_srN x n = true ↔ Rn srStep x (.fine n) := by unfold v_srN; simp
noncomputable def srCps : Cps SrS := fun R x K => cond (g_sr x) (cond (v_srN x 5) (K (.exit 0) (tmOf [2] [.any]) [] 5) (cond (v_srN x 6) (K (.exit 0) (tmOf [2] [.any]) [] 6) (K (.exit 0) (tmOf [2] [.any]) [] 7))) none
theorem srCps_ok (R : Type) (x : SrS) (K : Out → TM → Heap → Nat → Option R) (r : R) (h : srCps R x K = some r) : ∃ z, Rn srStep x z ∧ K (srO z) (tmOf [2] (srV z)) (srG z) (srM z) = some r := by
  unfold srCps at h
  cases hg : g_sr x with
  | false => rw [hg] at h; simp at h
  | true =>
    rw [hg, cond_true] at h
    cases h5 : v_srN x 5 with
    | true => rw [h5] at h; exact ⟨.fine 5, v_srN_iff.1 h5, h⟩
    | false =>
      rw [h5, cond_false] at h
      cases h6 : v_srN x 6 with
      | true => rw [h6] at h; exact ⟨.fine 6, v_srN_iff.1 h6, h⟩
      | false =>
        rw [h6, cond_false] at h
        obtain ⟨nn, hr, hn⟩ := g_sr_ex hg
        refine ⟨.fine 7, ?_, h⟩
        rcases hn with rfl | rfl | rfl
        · rw [v_srN_iff.2 hr] at h5; exact absurd h5 (by decide)
        · rw [v_srN_iff.2 hr] at h6; exact absurd h6 (by decide)
        · exact hr
end Go.Sx

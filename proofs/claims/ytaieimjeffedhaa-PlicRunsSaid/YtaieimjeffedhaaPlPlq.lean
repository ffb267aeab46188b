/- The interrupt controller and the document's: the one is the other, source by source. -/
import Derived.Test.YtaieimjeffedhaaPlPlr2
import Derived.Test.YtaieimjeffedhaaPlPlc6
set_option linter.unusedSimpArgs false
set_option linter.unusedVariables false
set_option linter.unnecessarySimpa false
namespace Go.Sx
open Go
def xOfR (p : PSt) (s : Nat) : List AV := xRow (BitVec.setWidth 64 (cell32 p.pr s)) (p.pe.getLsbD s) (p.se.getLsbD s) ((cell32 p.en 0).getLsbD s) ((cell32 p.en 1).getLsbD s)
def xOf (p : PSt) : List (List AV) := (List.range 32).map (xOfR p)
def tOf (p : PSt) : List (List AV) := [[.int .i64 (BitVec.setWidth 64 (cell32 p.th 0))], [.int .i64 (BitVec.setWidth 64 (cell32 p.th 1))]]
theorem xOf_len (p : PSt) : (xOf p).length = 32 := by simp [xOf]
theorem xOf_get (p : PSt) (s : Nat) (h : s < 32) : (xOf p).getD s [] = xOfR p s := by
  unfold xOf
  rw [List.getD_eq_getElem?_getD, List.getElem?_map, List.getElem?_range h]; rfl
theorem xOf_P (p : PSt) (s : Nat) (h : s < 32) : xP (xOf p) s = BitVec.setWidth 64 (cell32 p.pr s) := by unfold xP; rw [xOf_get p s h]; rfl
theorem xOf_Q (p : PSt) (s : Nat) (h : s < 32) : xQ (xOf p) s = p.pe.getLsbD s := by unfold xQ; rw [xOf_get p s h]; rfl
theorem xOf_V (p : PSt) (s : Nat) (h : s < 32) : xV (xOf p) s = p.se.getLsbD s := by unfold xV; rw [xOf_get p s h]; rfl
theorem xOf_A (p : PSt) (s : Nat) (h : s < 32) : xA (xOf p) s = (cell32 p.en 0).getLsbD s := by unfold xA; rw [xOf_get p s h]; rfl
theorem xOf_B (p : PSt) (s : Nat) (h : s < 32) : xB (xOf p) s = (cell32 p.en 1).getLsbD s := by unfold xB; rw [xOf_get p s h]; rfl
theorem xOf_ext (L : List (List AV)) (p : PSt) (hL : L.length = 32) (h : ∀ s, s < 32 → L.getD s [] = xOfR p s) : L = xOf p := by
  apply List.ext_getElem
  · rw [hL, xOf_len]
  · intro i h1 h2
    have e := h i (by omega)
    rw [← xOf_get p i (by omega), List.getD_eq_getElem?_getD, List.getD_eq_getElem?_getD, List.getElem?_eq_getElem h1, List.getElem?_eq_getElem h2] at e
    exact e
theorem xOf_set (p q : PSt) (s : Nat) (r : List AV) (hs : s < 32) (hr : r = xOfR q s) (h : ∀ j, j < 32 → j ≠ s → xOfR p j = xOfR q j) : (xOf p).set s r = xOf q := by
  refine xOf_ext _ q (by rw [List.length_set, xOf_len]) fun j hj => ?_
  rw [getD_set _ _ _ _ (by rw [xOf_len]; exact hs)]
  split
  · rename_i e; subst e; exact hr
  · rename_i e; rw [xOf_get p j hj]; exact h j hj e
/-! ### lines -/
theorem xlHi_get (m : BitVec 32) (s : BitVec 64) (h : s.toNat < 32) : xlHi m s = m.getLsbD s.toNat := by
  unfold xlHi
  rw [sext, ← bit_get m s.toNat h, show m >>> min s.toNat 32 % 2#32 = m >>> min s.toNat 32 &&& 1#32 from ?_]
  apply BitVec.eq_of_toNat_eq
  rw [BitVec.toNat_and, BitVec.toNat_umod, show (1#32).toNat = 2 ^ 1 - 1 from rfl, show (2#32).toNat = 2 ^ 1 from rfl, Nat.and_two_pow_sub_one_eq_mod]
theorem getD_set_self (L : List (List AV)) (i : Nat) (r : List AV) (h : i < L.length) : (L.set i r).getD i [] = r := by rw [getD_set L i i r h, if_pos rfl]
theorem getD_set_ne (L : List (List AV)) (i j : Nat) (r : List AV) (h : i < L.length) (hj : j ≠ i) : (L.set i r).getD j [] = L.getD j [] := by rw [getD_set L i j r h, if_neg hj]
theorem xl_get (m : BitVec 32) : ∀ (k : Nat) (s : BitVec 64) (L : List (List AV)), L.length = 32 → s.toNat ≤ 32 → 32 - s.toNat ≤ k → (xlGo m k s L).length = 32 ∧ ∀ j, j < 32 → (xlGo m k s L).getD j [] = if s.toNat ≤ j then xRow (xP L j) (m.getLsbD j && !xV L j) (xV L j) (xA L j) (xB L j) else L.getD j [] := by
  intro k
  induction k with
  | zero => intro s L hL hs hk; exact ⟨hL, fun j hj => by rw [if_neg (by omega)]; rfl⟩
  | succ k ih =>
    intro s L hL hs hk
    by_cases h : s.toNat < 32
    · have h1 : s.slt 32#64 = true := by rw [slt_nat (by omega) (by decide), show (32#64).toNat = 32 from rfl]; exact decide_eq_true h
      have hi := inc_nat (show s.toNat < 2 ^ 63 by omega)
      simp only [xlGo, h1, cond_true]
      obtain ⟨i1, i2⟩ := ih (s + 1#64) (xlSet L m s) (by unfold xlSet; simpa using hL) (by omega) (by omega)
      refine ⟨i1, fun j hj => ?_⟩
      rw [i2 j hj, hi]
      by_cases hjs : j = s.toNat
      · subst hjs
        rw [if_neg (by omega), if_pos (Nat.le_refl _)]
        unfold xlSet
        rw [getD_set_self _ _ _ (by omega), xlHi_get m s h]
      · have e : (xlSet L m s).getD j [] = L.getD j [] := by unfold xlSet; exact getD_set_ne _ _ _ _ (by omega) hjs
        unfold xP xV xA xB
        rw [e]
        by_cases hlt : s.toNat ≤ j
        · rw [if_pos hlt, if_pos (by omega)]
        · rw [if_neg hlt, if_neg (by omega)]
    · have h1 : s.slt 32#64 = false := by rw [slt_nat (by omega) (by decide), show (32#64).toNat = 32 from rfl]; exact decide_eq_false h
      simp only [xlGo, h1, cond_false]
      exact ⟨hL, fun j hj => by rw [if_neg (by omega)]⟩
def lnP (p : PSt) (m : BitVec 32) : PSt := { p with pe := m &&& ~~~(1#32 ||| p.se) }
theorem lines_bit (m se : BitVec 32) (s : Nat) (hs : s < 32) : (m &&& ~~~(1#32 ||| se)).getLsbD s = (decide (1 ≤ s) && (m.getLsbD s && !se.getLsbD s)) := by
  simp only [BitVec.getLsbD_and, BitVec.getLsbD_not, BitVec.getLsbD_or, BitVec.getLsbD_one, hs, decide_true, Bool.true_and]
  by_cases h : s = 0
  · subst h; simp
  · rw [decide_eq_true (show 1 ≤ s by omega)]; simp [h]
theorem xRow_eq {a a' : BitVec 64} {b b' c c' d d' e e' : Bool} (h1 : a = a') (h2 : b = b') (h3 : c = c') (h4 : d = d') (h5 : e = e') : xRow a b c d e = xRow a' b' c' d' e' := by subst h1 h2 h3 h4 h5; rfl
theorem lines_eq (p : PSt) (h : POk p) (m : BitVec 32) : v_xl (xOf p) m 1#64 = xOf (lnP p m) := by
  obtain ⟨h1, h2⟩ := xl_get m 32 1#64 (xOf p) (xOf_len p) (by decide) (by decide)
  refine xOf_ext _ _ h1 fun s hs => ?_
  unfold v_xl
  rw [h2 s hs, show (1#64).toNat = 1 from rfl]
  have e := lines_bit m p.se s hs
  by_cases h0 : 1 ≤ s
  · rw [if_pos h0, xOf_P p s hs, xOf_V p s hs, xOf_A p s hs, xOf_B p s hs]
    rw [decide_eq_true h0, Bool.true_and] at e
    exact xRow_eq rfl e.symm rfl rfl rfl
  · rw [if_neg h0, xOf_get p s hs]
    rw [decide_eq_false h0, Bool.false_and] at e
    have e0 : s = 0 := by omega
    have hp : p.pe.getLsbD s = false := by subst e0; have := h.pe0; simpa [BitVec.getElem_eq_testBit_toNat, BitVec.getLsbD] using this
    exact xRow_eq rfl (hp.trans e.symm) rfl rfl rfl
/-! ### enabled -/
theorem xeHi_get (v s : BitVec 64) (h : s.toNat < 64) : xeHi v s = v.getLsbD s.toNat := by
  unfold xeHi
  rw [sext, Nat.min_eq_left (by omega), Bool.eq_iff_iff, beq_iff_eq, ← and1]
  constructor
  · intro h1
    have := congrArg (fun v => BitVec.getLsbD v 0) h1
    simpa using this
  · intro h1
    apply BitVec.eq_of_getLsbD_eq
    intro i hi
    cases i with
    | zero => simpa using h1
    | succ i => simp [BitVec.getLsbD_one]
theorem xeA_get (v : BitVec 64) : ∀ (k : Nat) (s : BitVec 64) (L : List (List AV)), L.length = 32 → s.toNat ≤ 32 → 32 - s.toNat ≤ k → (xeAGo v k s L).length = 32 ∧ ∀ j, j < 32 → (xeAGo v k s L).getD j [] = if s.toNat ≤ j then xRow (xP L j) (xQ L j) (xV L j) (v.getLsbD j) (xB L j) else L.getD j [] := by
  intro k
  induction k with
  | zero => intro s L hL hs hk; exact ⟨hL, fun j hj => by rw [if_neg (by omega)]; rfl⟩
  | succ k ih =>
    intro s L hL hs hk
    by_cases h : s.toNat < 32
    · have h1 : s.slt 32#64 = true := by rw [slt_nat (by omega) (by decide), show (32#64).toNat = 32 from rfl]; exact decide_eq_true h
      have hi := inc_nat (show s.toNat < 2 ^ 63 by omega)
      simp only [xeAGo, h1, cond_true]
      obtain ⟨i1, i2⟩ := ih (s + 1#64) (xeASet L v s) (by unfold xeASet; simpa using hL) (by omega) (by omega)
      refine ⟨i1, fun j hj => ?_⟩
      rw [i2 j hj, hi]
      by_cases hjs : j = s.toNat
      · subst hjs
        rw [if_neg (by omega), if_pos (Nat.le_refl _)]
        unfold xeASet
        rw [getD_set_self _ _ _ (by omega), xeHi_get v s (by omega)]
      · have e : (xeASet L v s).getD j [] = L.getD j [] := by unfold xeASet; exact getD_set_ne _ _ _ _ (by omega) hjs
        unfold xP xV xQ xB
        rw [e]
        by_cases hlt : s.toNat ≤ j
        · rw [if_pos hlt, if_pos (by omega)]
        · rw [if_neg hlt, if_neg (by omega)]
    · have h1 : s.slt 32#64 = false := by rw [slt_nat (by omega) (by decide), show (32#64).toNat = 32 from rfl]; exact decide_eq_false h
      simp only [xeAGo, h1, cond_false]
      exact ⟨hL, fun j hj => by rw [if_neg (by omega)]⟩
theorem xeB_get (v : BitVec 64) : ∀ (k : Nat) (s : BitVec 64) (L : List (List AV)), L.length = 32 → s.toNat ≤ 32 → 32 - s.toNat ≤ k → (xeBGo v k s L).length = 32 ∧ ∀ j, j < 32 → (xeBGo v k s L).getD j [] = if s.toNat ≤ j then xRow (xP L j) (xQ L j) (xV L j) (xA L j) (v.getLsbD j) else L.getD j [] := by
  intro k
  induction k with
  | zero => intro s L hL hs hk; exact ⟨hL, fun j hj => by rw [if_neg (by omega)]; rfl⟩
  | succ k ih =>
    intro s L hL hs hk
    by_cases h : s.toNat < 32
    · have h1 : s.slt 32#64 = true := by rw [slt_nat (by omega) (by decide), show (32#64).toNat = 32 from rfl]; exact decide_eq_true h
      have hi := inc_nat (show s.toNat < 2 ^ 63 by omega)
      simp only [xeBGo, h1, cond_true]
      obtain ⟨i1, i2⟩ := ih (s + 1#64) (xeBSet L v s) (by unfold xeBSet; simpa using hL) (by omega) (by omega)
      refine ⟨i1, fun j hj => ?_⟩
      rw [i2 j hj, hi]
      by_cases hjs : j = s.toNat
      · subst hjs
        rw [if_neg (by omega), if_pos (Nat.le_refl _)]
        unfold xeBSet
        rw [getD_set_self _ _ _ (by omega), xeHi_get v s (by omega)]
      · have e : (xeBSet L v s).getD j [] = L.getD j [] := by unfold xeBSet; exact getD_set_ne _ _ _ _ (by omega) hjs
        unfold xP xV xQ xA
        rw [e]
        by_cases hlt : s.toNat ≤ j
        · rw [if_pos hlt, if_pos (by omega)]
        · rw [if_neg hlt, if_neg (by omega)]
    · have h1 : s.slt 32#64 = false := by rw [slt_nat (by omega) (by decide), show (32#64).toNat = 32 from rfl]; exact decide_eq_false h
      simp only [xeBGo, h1, cond_false]
      exact ⟨hL, fun j hj => by rw [if_neg (by omega)]⟩
theorem hi_mask (v : BitVec 64) (s : Nat) (hs : s < 32) : (BitVec.setWidth 32 v &&& 4294967294#32).getLsbD s = (v.getLsbD s && decide (1 ≤ s)) := by
  have : ∀ i : Fin 32, (4294967294#32).getLsbD i.val = decide (1 ≤ i.val) := by decide
  have := this ⟨s, hs⟩
  simp only [BitVec.getLsbD_and, BitVec.getLsbD_setWidth, this, hs, decide_true, Bool.true_and]
theorem cell32_0 (p : PSt) (h : POk p) (k : Nat) : (cell32 p.en k).getLsbD 0 = false := by
  have := h.en1 k
  simpa [BitVec.getElem_eq_testBit_toNat, BitVec.getLsbD] using this
theorem enA_eq (p : PSt) (h : POk p) (v : BitVec 64) : v_xeA (xOf p) v 1#64 = xOf { p with en := p.en.set 0 [.int .u32 (BitVec.setWidth 32 v &&& 4294967294#32)] } := by
  obtain ⟨h1, h2⟩ := xeA_get v 32 1#64 (xOf p) (xOf_len p) (by decide) (by decide)
  refine xOf_ext _ _ h1 fun s hs => ?_
  unfold v_xeA
  rw [h2 s hs, show (1#64).toNat = 1 from rfl]
  unfold xOfR
  dsimp only
  rw [cell32_set _ _ _ _ (by rw [h.len]; decide), cell32_set _ _ _ _ (by rw [h.len]; decide), if_pos (show (0 : Nat) = 0 from rfl), if_neg (show ¬ (1 : Nat) = 0 by decide), hi_mask v s hs]
  by_cases h0 : 1 ≤ s
  · rw [if_pos h0, xOf_P p s hs, xOf_V p s hs, xOf_Q p s hs, xOf_B p s hs, decide_eq_true h0, Bool.and_true]
  · rw [if_neg h0, xOf_get p s hs, decide_eq_false h0, Bool.and_false]
    have e : s = 0 := by omega
    subst e
    unfold xOfR
    rw [cell32_0 p h 0]
theorem enB_eq (p : PSt) (h : POk p) (v : BitVec 64) : v_xeB (xOf p) v 1#64 = xOf { p with en := p.en.set 1 [.int .u32 (BitVec.setWidth 32 v &&& 4294967294#32)] } := by
  obtain ⟨h1, h2⟩ := xeB_get v 32 1#64 (xOf p) (xOf_len p) (by decide) (by decide)
  refine xOf_ext _ _ h1 fun s hs => ?_
  unfold v_xeB
  rw [h2 s hs, show (1#64).toNat = 1 from rfl]
  unfold xOfR
  dsimp only
  rw [cell32_set _ _ _ _ (by rw [h.len]; decide), cell32_set _ _ _ _ (by rw [h.len]; decide), if_neg (show ¬ (0 : Nat) = 1 by decide), if_pos (show (1 : Nat) = 1 from rfl), hi_mask v s hs]
  by_cases h0 : 1 ≤ s
  · rw [if_pos h0, xOf_P p s hs, xOf_V p s hs, xOf_Q p s hs, xOf_A p s hs, decide_eq_true h0, Bool.and_true]
  · rw [if_neg h0, xOf_get p s hs, decide_eq_false h0, Bool.and_false]
    have e : s = 0 := by omega
    subst e
    unfold xOfR
    rw [cell32_0 p h 1]
/-! ### bits -/
theorem xi_nat (f : Nat → Bool) (w : BitVec 32) : ∀ (k : Nat) (v : BitVec 64), k ≤ 32 → (∀ s, s < k → f s = w.getLsbD s) → v.toNat < 2 ^ (32 - k) → (xiGo f k v).toNat = v.toNat * 2 ^ k + w.toNat % 2 ^ k := by
  intro k
  induction k with
  | zero => intro v _ _ _; simp [xiGo, Nat.mod_one]
  | succ k ih =>
    intro v hk hf hv
    unfold xiGo
    have h2 : 2 * 2 ^ (32 - (k + 1)) = 2 ^ (32 - k) := by rw [show 32 - k = (32 - (k + 1)) + 1 by omega, Nat.pow_succ]; omega
    have hle : 2 ^ (32 - k) ≤ 2 ^ 32 := Nat.pow_le_pow_right (by decide) (by omega)
    have m2 : (2#64 * v).toNat = 2 * v.toNat := by rw [BitVec.toNat_mul, show (2#64).toNat = 2 from rfl]; exact Nat.mod_eq_of_lt (by omega)
    have m3 : (2#64 * v + 1#64).toNat = 2 * v.toNat + 1 := by rw [BitVec.toNat_add, m2, show (1#64).toNat = 1 from rfl]; exact Nat.mod_eq_of_lt (by omega)
    have hw : w.toNat % 2 ^ (k + 1) = w.toNat % 2 ^ k + 2 ^ k * (w.toNat.testBit k).toNat := by rw [Nat.mod_pow_succ, Nat.toNat_testBit]
    have hfk := hf k (by omega)
    rw [hw, Nat.pow_succ]
    cases hb : f k with
    | true =>
      simp only [cond_true]
      rw [ih _ (by omega) (fun s hs => hf s (by omega)) (by rw [m3]; omega), m3]
      have : w.toNat.testBit k = true := by rw [hb] at hfk; exact hfk.symm
      rw [this, Bool.toNat_true, Nat.mul_one, Nat.add_mul, Nat.one_mul, Nat.mul_comm 2 v.toNat, Nat.mul_assoc, Nat.mul_comm 2 (2 ^ k)]; omega
    | false =>
      simp only [cond_false]
      rw [ih _ (by omega) (fun s hs => hf s (by omega)) (by rw [m2]; omega), m2]
      have : w.toNat.testBit k = false := by rw [hb] at hfk; exact hfk.symm
      rw [this, Bool.toNat_false, Nat.mul_zero, Nat.mul_comm 2 v.toNat, Nat.mul_assoc, Nat.mul_comm 2 (2 ^ k)]; omega
theorem xi_eq (f : Nat → Bool) (w : BitVec 32) (h : ∀ s, s < 32 → f s = w.getLsbD s) : v_xi f 0#64 = BitVec.setWidth 64 w := by
  apply BitVec.eq_of_toNat_eq
  unfold v_xi
  rw [xi_nat f w 32 0#64 (by decide) h (by decide), zext_nat, Nat.mod_eq_of_lt w.isLt]
  simp
/-! ### the best -/
def isBest (P : Nat → Nat) (c : Nat → Bool) (b : Nat) : Prop :=
  (b = 0 ∧ ∀ t, 1 ≤ t → t < 32 → c t = true → P t = 0) ∨ (1 ≤ b ∧ b < 32 ∧ c b = true ∧ 0 < P b ∧ ∀ t, 1 ≤ t → t < 32 → c t = true → P t ≤ P b ∧ (t < b → P t < P b))
theorem isBest_one {P : Nat → Nat} {c : Nat → Bool} {a b : Nat} (ha : isBest P c a) (hb : isBest P c b) : a = b := by
  rcases ha with ⟨rfl, ha⟩ | ⟨a1, a2, a3, a4, a5⟩ <;> rcases hb with ⟨rfl, hb⟩ | ⟨b1, b2, b3, b4, b5⟩
  · rfl
  · have := ha b b1 b2 b3; omega
  · have := hb a a1 a2 a3; omega
  · have h1 := a5 b b1 b2 b3
    have h2 := b5 a a1 a2 a3
    have := h1.1; have := h2.1
    rcases Nat.lt_trichotomy a b with h | h | h
    · have := h2.2 h; omega
    · exact h
    · have := h1.2 h; omega
theorem up_best (pr : List (List AV)) (of : BitVec 32) : ∀ (k : Nat) (ab be s : BitVec 32), 1 ≤ s.toNat → s.toNat ≤ 32 → 32 - s.toNat ≤ k →
    ((be.toNat = 0 ∧ ab.toNat = 0 ∧ ∀ t, 1 ≤ t → t < s.toNat → of.getLsbD t = true → (cell32 pr t).toNat = 0) ∨ (1 ≤ be.toNat ∧ be.toNat < s.toNat ∧ of.getLsbD be.toNat = true ∧ ab.toNat = (cell32 pr be.toNat).toNat ∧ 0 < ab.toNat ∧ ∀ t, 1 ≤ t → t < s.toNat → of.getLsbD t = true → (cell32 pr t).toNat ≤ ab.toNat ∧ (t < be.toNat → (cell32 pr t).toNat < ab.toNat))) →
    isBest (fun t => (cell32 pr t).toNat) (fun t => of.getLsbD t) (bestGo pr of k ab be s).1.toNat := by
  intro k
  induction k with
  | zero =>
    intro ab be s h1 h2 h3 h
    have e : s.toNat = 32 := by omega
    rw [e] at h
    unfold bestGo
    rcases h with ⟨a, b, c⟩ | ⟨a, b, c, d, f, g⟩
    · exact .inl ⟨a, c⟩
    · exact .inr ⟨a, b, c, by dsimp only; omega, fun t t1 t2 t3 => by have := g t t1 t2 t3; dsimp only; omega⟩
  | succ k ih =>
    intro ab be s h1 h2 h3 h
    by_cases hs : s.toNat < 32
    · have hlt : s.ult 32#32 = true := by rw [ultN, show (32#32).toNat = 32 from rfl]; exact decide_eq_true hs
      have hi := inc32 hs
      unfold bestGo
      rw [hlt]
      simp only [cond_true]
      have hc : bestC pr of ab s = (of.getLsbD s.toNat && decide (ab.toNat < (cell32 pr s.toNat).toNat)) := by
        unfold bestC
        rw [bit_get of s.toNat hs, ultN]; rfl
      have hP : (prOf pr s).toNat = (cell32 pr s.toNat).toNat := rfl
      have hall : ∀ (Q : Nat → Prop), (∀ t, 1 ≤ t → t < s.toNat → of.getLsbD t = true → Q t) → (of.getLsbD s.toNat = true → Q s.toNat) → ∀ t, 1 ≤ t → t < (s + 1#32).toNat → of.getLsbD t = true → Q t := by
        intro Q q1 q2 t t1 t2 t3
        by_cases e : t = s.toNat
        · subst e; exact q2 t3
        · exact q1 t t1 (by omega) t3
      cases hb : bestC pr of ab s with
      | true =>
        simp only [cond_true]
        rw [hc, Bool.and_eq_true, decide_eq_true_eq] at hb
        refine ih _ _ _ (by omega) (by omega) (by omega) (.inr ⟨h1, by omega, hb.1, hP, by omega, ?_⟩)
        refine hall (fun t => (cell32 pr t).toNat ≤ (prOf pr s).toNat ∧ (t < s.toNat → (cell32 pr t).toNat < (prOf pr s).toNat)) (fun t t1 t2 t3 => ?_) (fun _ => ⟨by omega, fun h => absurd h (Nat.lt_irrefl _)⟩)
        rcases h with ⟨a, b, c⟩ | ⟨a, b, c, d, f, g⟩
        · have := c t t1 t2 t3; omega
        · have := g t t1 t2 t3; omega
      | false =>
        simp only [cond_false]
        rw [hc] at hb
        have hb' : of.getLsbD s.toNat = true → (cell32 pr s.toNat).toNat ≤ ab.toNat := by
          intro e
          rw [e, Bool.true_and, decide_eq_false_iff_not] at hb
          omega
        refine ih _ _ _ (by omega) (by omega) (by omega) ?_
        rcases h with ⟨a, b, c⟩ | ⟨a, b, c, d, f, g⟩
        · exact .inl ⟨a, b, hall (fun t => (cell32 pr t).toNat = 0) c (fun e => by have := hb' e; omega)⟩
        · exact .inr ⟨a, by omega, c, d, f, hall (fun t => (cell32 pr t).toNat ≤ ab.toNat ∧ (t < be.toNat → (cell32 pr t).toNat < ab.toNat)) g (fun e => by have := hb' e; omega)⟩
    · have hlt : s.ult 32#32 = false := by rw [ultN, show (32#32).toNat = 32 from rfl]; exact decide_eq_false hs
      unfold bestGo
      rw [hlt]
      simp only [cond_false]
      have e : s.toNat = 32 := by omega
      rw [e] at h
      rcases h with ⟨a, b, c⟩ | ⟨a, b, c, d, f, g⟩
      · exact .inl ⟨a, c⟩
      · exact .inr ⟨a, b, c, by dsimp only; omega, fun t t1 t2 t3 => by have := g t t1 t2 t3; dsimp only; omega⟩
theorem v_best_is (pr : List (List AV)) (of : BitVec 32) : isBest (fun t => (cell32 pr t).toNat) (fun t => of.getLsbD t) (v_best pr of 0#32 0#32 1#32).toNat :=
  up_best pr of 32 0#32 0#32 1#32 (by decide) (by decide) (by decide) (.inl ⟨rfl, rfl, fun t t1 t2 _ => absurd t2 (by rw [show (1#32).toNat = 1 from rfl]; omega)⟩)
theorem down_best (p : PSt) (h : POk p) (f : Nat → Bool) (e : BitVec 32) (hf : ∀ s, s < 32 → f s = e.getLsbD s) : ∀ (k : Nat) (be : BitVec 64), k ≤ 31 →
    ((be.toNat = 0 ∧ ∀ t, k < t → t < 32 → (p.pe &&& e).getLsbD t = true → (cell32 p.pr t).toNat = 0) ∨ (k < be.toNat ∧ be.toNat < 32 ∧ (p.pe &&& e).getLsbD be.toNat = true ∧ 0 < (cell32 p.pr be.toNat).toNat ∧ ∀ t, k < t → t < 32 → (p.pe &&& e).getLsbD t = true → (cell32 p.pr t).toNat ≤ (cell32 p.pr be.toNat).toNat ∧ (t < be.toNat → (cell32 p.pr t).toNat < (cell32 p.pr be.toNat).toNat))) →
    isBest (fun t => (cell32 p.pr t).toNat) (fun t => (p.pe &&& e).getLsbD t) (xbGo (xOf p) f k be).toNat := by
  intro k
  induction k with
  | zero =>
    intro be hk h'
    unfold xbGo
    rcases h' with ⟨a, b⟩ | ⟨a, b, c, d, g⟩
    · exact .inl ⟨a, fun t t1 t2 t3 => b t t1 t2 t3⟩
    · exact .inr ⟨a, b, c, d, fun t t1 t2 t3 => g t t1 t2 t3⟩
  | succ k ih =>
    intro be hk h'
    unfold xbGo
    have hbe : be.toNat < 32 := by rcases h' with ⟨a, _⟩ | ⟨_, b, _⟩ <;> omega
    have hn : (BitVec.ofNat 64 (k + 1)).toNat = k + 1 := ofNat_toNat (by omega)
    have h7 := h.pr7
    have hc : xbC (xOf p) f be (k + 1) = ((p.pe &&& e).getLsbD (k + 1) && (decide (0 < (cell32 p.pr (k + 1)).toNat) && decide ((cell32 p.pr be.toNat).toNat ≤ (cell32 p.pr (k + 1)).toNat))) := by
      unfold xbC
      rw [xOf_Q p _ (by omega), hf _ (by omega), xOf_P p _ (by omega), xOf_P p _ hbe, BitVec.getLsbD_and, Bool.and_assoc]
      have a := h7 (k + 1); have b := h7 be.toNat
      rw [slt_nat (by decide) (by rw [zext_nat]; omega), sle_nat (by rw [zext_nat]; omega) (by rw [zext_nat]; omega), zext_nat, zext_nat]; rfl
    have hall : ∀ (Q : Nat → Prop), (∀ t, k + 1 < t → t < 32 → (p.pe &&& e).getLsbD t = true → Q t) → ((p.pe &&& e).getLsbD (k + 1) = true → Q (k + 1)) → ∀ t, k < t → t < 32 → (p.pe &&& e).getLsbD t = true → Q t := by
      intro Q q1 q2 t t1 t2 t3
      by_cases e : t = k + 1
      · subst e; exact q2 t3
      · exact q1 t (by omega) t2 t3
    have hp0 : (cell32 p.pr 0).toNat = 0 := by rw [h.pr0]; rfl
    cases hb : xbC (xOf p) f be (k + 1) with
    | true =>
      simp only [cond_true]
      rw [hc, Bool.and_eq_true, Bool.and_eq_true, decide_eq_true_eq, decide_eq_true_eq] at hb
      obtain ⟨b1, b2, b3⟩ := hb
      refine ih _ (by omega) (.inr ?_)
      rw [hn]
      refine ⟨by omega, by omega, b1, b2, ?_⟩
      refine hall (fun t => (cell32 p.pr t).toNat ≤ (cell32 p.pr (k + 1)).toNat ∧ (t < k + 1 → (cell32 p.pr t).toNat < (cell32 p.pr (k + 1)).toNat)) (fun t t1 t2 t3 => ⟨?_, fun h => by omega⟩) (fun _ => ⟨Nat.le_refl _, fun h => absurd h (Nat.lt_irrefl _)⟩)
      rcases h' with ⟨a, b⟩ | ⟨a, b, c, d, g⟩
      · have := b t t1 t2 t3; omega
      · have := g t t1 t2 t3; omega
    | false =>
      simp only [cond_false]
      rw [hc] at hb
      have hb' : (p.pe &&& e).getLsbD (k + 1) = true → (cell32 p.pr (k + 1)).toNat = 0 ∨ (cell32 p.pr (k + 1)).toNat < (cell32 p.pr be.toNat).toNat := by
        intro e
        rw [e, Bool.true_and, Bool.and_eq_false_iff, decide_eq_false_iff_not, decide_eq_false_iff_not] at hb
        omega
      refine ih _ (by omega) ?_
      rcases h' with ⟨a, b⟩ | ⟨a, b, c, d, g⟩
      · refine .inl ⟨a, hall (fun t => (cell32 p.pr t).toNat = 0) b (fun e => ?_)⟩
        have := hb' e
        rw [a] at this; omega
      · exact .inr ⟨by omega, b, c, d, hall (fun t => (cell32 p.pr t).toNat ≤ (cell32 p.pr be.toNat).toNat ∧ (t < be.toNat → (cell32 p.pr t).toNat < (cell32 p.pr be.toNat).toNat)) g (fun e => by have := hb' e; omega)⟩
theorem best_eq (p : PSt) (h : POk p) (f : Nat → Bool) (e : BitVec 32) (hf : ∀ s, s < 32 → f s = e.getLsbD s) : v_xb (xOf p) f = BitVec.setWidth 64 (v_best p.pr (p.pe &&& e) 0#32 0#32 1#32) := by
  apply BitVec.eq_of_toNat_eq
  rw [zext_nat]
  exact isBest_one (down_best p h f e hf 31 0#64 (by decide) (.inl ⟨rfl, fun t t1 t2 _ => by omega⟩)) (v_best_is p.pr (p.pe &&& e))
/-! ### interrupted -/
theorem xp_eq (p : PSt) (h : POk p) (f : Nat → Bool) (e : BitVec 32) (hf : ∀ s, s < 32 → f s = e.getLsbD s) (t : BitVec 32) (ht : t.toNat < 8) : ∀ (k : Nat) (s : BitVec 64) (u : BitVec 32), u.toNat = s.toNat → s.toNat ≤ 32 →
    xpGo (xOf p) f (BitVec.setWidth 64 t) k s = decide (t.toNat < mxP p.pr (p.pe &&& e) k u) := by
  intro k
  induction k with
  | zero => intro s u hu hs; simp [xpGo, mxP]
  | succ k ih =>
    intro s u hu hs
    unfold xpGo mxP
    by_cases h32 : s.toNat < 32
    · have h1 : s.slt 32#64 = true := by rw [slt_nat (by omega) (by decide), show (32#64).toNat = 32 from rfl]; exact decide_eq_true h32
      have hi := inc_nat (show s.toNat < 2 ^ 63 by omega)
      have hi' := inc32 (show u.toNat < 32 by omega)
      rw [h1, if_pos (by omega), ih (s + 1#64) (u + 1#32) (by omega) (by omega)]
      simp only [cond_true]
      have h7 := h.pr7 s.toNat
      have hP : (prOf p.pr u).toNat = (cell32 p.pr s.toNat).toNat := by unfold prOf; rw [hu]; rfl
      have hc : xpC (xOf p) f (BitVec.setWidth 64 t) s.toNat = ((p.pe &&& e).getLsbD s.toNat && decide (t.toNat < (cell32 p.pr s.toNat).toNat)) := by
        unfold xpC
        rw [xOf_Q p _ h32, hf _ h32, xOf_P p _ h32, BitVec.getLsbD_and, Bool.and_assoc, slt_nat (by rw [zext_nat]; omega) (by rw [zext_nat]; omega), zext_nat, zext_nat]
      rw [hc, bit_get _ _ (by omega), hP, hu]
      cases hb : (p.pe &&& e).getLsbD s.toNat with
      | true =>
        simp only [Bool.true_and, if_true]
        by_cases q : t.toNat < (cell32 p.pr s.toNat).toNat
        · rw [decide_eq_true q]; simp only [cond_true]; exact (decide_eq_true (by omega)).symm
        · rw [decide_eq_false q]; simp only [cond_false]; congr 1; rw [eq_iff_iff]; omega
      | false =>
        simp only [Bool.false_and, cond_false, Bool.false_eq_true, if_false, Nat.zero_max]
    · have h1 : s.slt 32#64 = false := by rw [slt_nat (by omega) (by decide), show (32#64).toNat = 32 from rfl]; exact decide_eq_false h32
      rw [h1, if_neg (by omega)]; simp
theorem pend_eq (p : PSt) (h : POk p) (f : Nat → Bool) (e : BitVec 32) (hf : ∀ s, s < 32 → f s = e.getLsbD s) (t : BitVec 32) (ht : t.toNat < 8) : v_xp (xOf p) f (BitVec.setWidth 64 t) = (0#32).ult (v_best p.pr (p.pe &&& e) t 0#32 1#32) := by
  unfold v_xp
  rw [xp_eq p h f e hf t ht 32 1#64 1#32 rfl (by decide), ult0]
  congr 1
  rw [eq_iff_iff]
  have := best_pos p.pr (p.pe &&& e) 32 t 0#32 1#32 (by decide)
  unfold v_best
  rw [this]
  simp
end Go.Sx

/- RamBack: its loops. -/
import Derived.Test.YtonehcpccklkoaaVl11w
import Derived.Test.YtonehcpccklkoaaPlRamR
set_option linter.unusedSimpArgs false
set_option linter.unusedVariables false
set_option linter.unnecessarySimpa false
namespace Go.Sx
open Go
/-- A memory. -/
structure Rok (n : Nat) (tg d : List (List AV)) : Prop where
  ld : d.length = n
  lg : tg.length = 64
  lo : 4096 ≤ n
  hi : n ≤ 65536
theorem Rok.ram {n : Nat} {tg d : List (List AV)} (h : Rok n tg d) : g_ram n tg n d = true := g_ram_iff.2 ⟨rfl, h.ld, h.lg, h.lo, h.hi⟩
theorem sT_len (n : Nat) (tg : List (List AV)) (off size : BitVec 64) : (v_sT n tg off size).length = tg.length := by
  unfold v_sT; cases v_ok n off size <;> simp only [cond_true, cond_false, v_clr_len]
theorem sD_len (n : Nat) (d : List (List AV)) (off size v : BitVec 64) : (v_sD n d off size v).length = d.length := by
  unfold v_sD; cases v_ok n off size <;> simp only [cond_true, cond_false, v_put_len]
theorem Rok.store {n : Nat} {tg d : List (List AV)} (h : Rok n tg d) (off size v : BitVec 64) : Rok n (v_sT n tg off size) (v_sD n d off size v) :=
  { ld := by rw [sD_len]; exact h.ld, lg := by rw [sT_len]; exact h.lg, lo := h.lo, hi := h.hi }
theorem Rok.zero : Rok 4096 zT (zB 4096) := { ld := List.length_replicate, lg := rfl, lo := by decide, hi := by decide }
theorem bA_set (d : List (List AV)) (i j : Nat) (b : BitVec 8) (h : i < d.length) : bA (d.set i [.int .u8 b]) j = if j = i then b else bA d j := by
  unfold bA
  rw [getD_set d i j _ h]
  split <;> rfl
theorem bA_put (d : List (List AV)) (o : Nat) (v : BitVec 64) (j : Nat) : ∀ n, o + n ≤ d.length → bA (v_put d o n v) j = if o ≤ j ∧ j < o + n then byteOf v (j - o) else bA d j
  | 0, h => by rw [if_neg (by omega)]; rfl
  | n + 1, h => by
    rw [v_put_succ, bA_set _ _ _ _ (by rw [v_put_len]; omega), bA_put d o v j n (by omega)]
    by_cases e : j = o + n
    · subst e; rw [if_pos rfl, if_pos (by omega), Nat.add_sub_cancel_left]
    · rw [if_neg e]
      by_cases q : o ≤ j ∧ j < o + n
      · rw [if_pos q, if_pos (by omega)]
      · rw [if_neg q, if_neg (by omega)]
theorem ok1 {n : Nat} {i : BitVec 64} (hn : n ≤ 65536) (h : i.toNat < n) : v_ok n i 1#64 = true := by
  unfold v_ok
  rw [show v_sized 1#64 = true from rfl, Bool.true_and]
  exact (v_in_iff (off := i) (size := 1#64) hn (by rw [show (1#64).toNat = 1 from rfl]; omega)).2 h
theorem lV1 {n : Nat} {d : List (List AV)} {i : BitVec 64} (hn : n ≤ 65536) (h : i.toNat < n) : v_lV n d i 1#64 = BitVec.setWidth 64 (bA d i.toNat) := by
  unfold v_lV
  rw [ok1 hn h, cond_true]
  show v_get d i.toNat 1 = _
  rw [v_get_succ]
  show 0#64 ||| BitVec.setWidth 64 (bA d (i.toNat + 0)) <<< 0 = _
  rw [BitVec.shiftLeft_zero, BitVec.zero_or, Nat.add_zero]
theorem w88 (b : BitVec 8) : BitVec.setWidth 8 (BitVec.setWidth 64 b) = b := by
  apply BitVec.eq_of_toNat_eq
  have := b.isLt
  rw [BitVec.toNat_setWidth, BitVec.toNat_setWidth]; omega
/-! ### numbers ahead -/
def mbaOk : MbaS → Prop
  | .a _ na ma _ n tg m d _ _ _ i => m = n ∧ Rok n tg d ∧ na ≤ ma ∧ na < 2 ^ 63 ∧ i.toNat ≤ na
  | .z n tg m d _ _ _ i => m = n ∧ Rok n tg d ∧ i = 0#64
def mbaI : MbaS → Nat
  | .a _ na _ _ _ _ _ _ _ _ _ i => na - i.toNat
  | .z .. => 0
def mbaGood (x : MbaS) (z : MbaE) : Prop := match x with
  | .a _ _ _ _ n _ _ _ off size v _ => ∃ tg d, Rok n tg d ∧ z = .fine n tg n d off size v
  | .z n tg m d off size v _ => z = .fine n tg m d off size v
theorem mba_rn : ∀ (k : Nat) (x : MbaS), mbaI x = k → mbaOk x → ∃ z, Rn mbaStep x z ∧ mbaGood x z := by
  intro k
  induction k with
  | zero =>
    intro x hk h
    cases x with
    | a rw na ma da n tg m d off size v i =>
      obtain ⟨rfl, h, hm, hn, hi⟩ := h
      simp only [mbaI] at hk
      refine ⟨_, .last ?_, tg, d, h, rfl⟩
      simp only [mbaStep]
      rw [slt_len (show i.toNat < 2 ^ 63 by omega) hn, decide_eq_false (by omega)]; rfl
    | z n tg m d off size v i =>
      obtain ⟨rfl, h, rfl⟩ := h
      exact ⟨_, .last rfl, rfl⟩
  | succ k ih =>
    intro x hk h
    cases x with
    | a rw na ma da n tg m d off size v i =>
      obtain ⟨rfl, h, hm, hn, hi⟩ := h
      simp only [mbaI] at hk
      by_cases h512 : i.toNat < 512
      · have hinc := inc_nat (show i.toNat < 2 ^ 63 by omega)
        obtain ⟨z, hz, hg⟩ := ih _ (by simp only [mbaI]; omega) (show mbaOk (.a rw na ma da m (v_sT m tg (8#64 * i) 8#64) m (v_sD m d (8#64 * i) (8#64) (asU64 ((da.getD (0 + i.toNat) []).headD AV.any))) off size v (i + 1#64)) from ⟨rfl, h.store _ _ _, hm, hn, by omega⟩)
        refine ⟨z, .next ?_ hz, hg⟩
        simp only [mbaStep]
        rw [slt_len (show i.toNat < 2 ^ 63 by omega) hn, slt_nat (show i.toNat < 2 ^ 63 by omega) (show (512#64).toNat < 2 ^ 63 by decide), show (512#64).toNat = 512 from rfl]
        simp only [decide_eq_true (show i.toNat < na by omega), decide_eq_true h512, nonneg_lt (show i.toNat < 2 ^ 63 by omega), decide_eq_true (show 0 + i.toNat < ma by omega), h.ram, Bool.and_true, cond_true]
      · refine ⟨_, .last ?_, tg, d, h, rfl⟩
        simp only [mbaStep]
        rw [slt_len (show i.toNat < 2 ^ 63 by omega) hn, slt_nat (show i.toNat < 2 ^ 63 by omega) (show (512#64).toNat < 2 ^ 63 by decide), show (512#64).toNat = 512 from rfl, decide_eq_false h512]
        cases decide (i.toNat < na) <;> rfl
    | z => simp [mbaI] at hk
structure MbaF where
  tg : List (List AV)
  d : List (List AV)
theorem mba_ex (rw : Bool) (na ma : Nat) (da : List (List AV)) (n : Nat) (tg : List (List AV)) (m : Nat) (d : List (List AV)) (off size v i : BitVec 64) (h : mbaOk (.a rw na ma da n tg m d off size v i)) :
    ∃ f : MbaF, Rok n f.tg f.d ∧ Rn mbaStep (.a rw na ma da n tg m d off size v i) (.fine n f.tg n f.d off size v) := by
  obtain ⟨z, hz, tg', d', hm, rfl⟩ := mba_rn _ _ rfl h
  exact ⟨⟨tg', d'⟩, hm, hz⟩
open Classical in
noncomputable def g_mba (x : MbaS) : Bool := decide (mbaOk x)
theorem g_mba_ok {x : MbaS} (h : mbaOk x) : g_mba x = true := by unfold g_mba; exact @decide_eq_true _ (Classical.propDecidable _) h
open Classical in
noncomputable def v_mba (x : MbaS) : MbaF := match x with
  | .a rw na ma da n tg m d off size v i => if h : mbaOk (.a rw na ma da n tg m d off size v i) then (mba_ex rw na ma da n tg m d off size v i h).choose else ⟨[], []⟩
  | .z .. => ⟨[], []⟩
theorem v_mba_ok {rw : Bool} {na ma : Nat} {da : List (List AV)} {n : Nat} {tg : List (List AV)} {m : Nat} {d : List (List AV)} {off size v i : BitVec 64} (h : mbaOk (.a rw na ma da n tg m d off size v i)) :
    Rok n (v_mba (.a rw na ma da n tg m d off size v i)).tg (v_mba (.a rw na ma da n tg m d off size v i)).d ∧
      Rn mbaStep (.a rw na ma da n tg m d off size v i) (.fine n (v_mba (.a rw na ma da n tg m d off size v i)).tg n (v_mba (.a rw na ma da n tg m d off size v i)).d off size v) := by
  unfold v_mba
  simp only [dif_pos h]
  exact (mba_ex rw na ma da n tg m d off size v i h).choose_spec
noncomputable def mbaCps : Cps MbaS := fun R x K => match x with
  | .a rw na ma da n tg m d off size v i => cond (g_mba (.a rw na ma da n tg m d off size v i)) (K (.exit 0) (tmOf [1, 2, 3, 9] [.int .i64 off, .int .i64 size, .int .u64 v, .ptr ⟨4, 0, 0, 0, 0⟩])
      [(4, ⟨true, [.cell (.slice ⟨5, 0, 0, 1, 0⟩ 1 n), .arr [.int .u64] 64 (v_mba (.a rw na ma da n tg m d off size v i)).tg]⟩), (5, ⟨true, [.arr [.int .u8] n (v_mba (.a rw na ma da n tg m d off size v i)).d]⟩)] 6) none
  | .z n tg m d off size v i => cond (i == 0#64) (K (.exit 0) (tmOf [1, 2, 3, 9] [.int .i64 off, .int .i64 size, .int .u64 v, .ptr ⟨4, 0, 0, 0, 0⟩])
      [(4, ⟨true, [.cell (.slice ⟨5, 0, 0, 1, 0⟩ 1 n), .arr [.int .u64] 64 tg]⟩), (5, ⟨true, [.arr [.int .u8] m d]⟩)] 6) none
theorem mbaCps_ok (R : Type) (x : MbaS) (K : Out → TM → Heap → Nat → Option R) (r : R) (h : mbaCps R x K = some r) : ∃ z, Rn mbaStep x z ∧ K (mbaO z) (tmOf [1, 2, 3, 9] (mbaV z)) (mbaG z) (mbaM z) = some r := by
  cases x with
  | a rw na ma da n tg m d off size v i =>
    unfold mbaCps at h
    dsimp only at h
    cases hg : g_mba (.a rw na ma da n tg m d off size v i) with
    | false => rw [hg] at h; simp at h
    | true =>
      rw [hg, cond_true] at h
      have hok : mbaOk (.a rw na ma da n tg m d off size v i) := by unfold g_mba at hg; simpa using hg
      exact ⟨_, (v_mba_ok hok).2, h⟩
  | z n tg m d off size v i =>
    obtain ⟨hg, hk⟩ := condK h
    rw [beq_iff_eq] at hg
    subst hg
    exact ⟨.fine n tg m d off size v, .last rfl, hk⟩
/-! ### what was there -/
theorem mbb_rn {tg d : List (List AV)} (h : Rok 4096 tg d) (off size v : BitVec 64) : ∀ (k j : Nat) (w : List (List AV)), 4096 - j = k → j ≤ 4096 → w.length = 4096 → (∀ x, x < j → bA w x = bA d x) →
    ∃ w', w'.length = 4096 ∧ (∀ x, x < 4096 → bA w' x = bA d x) ∧ Rn mbbStep (.a 4096 tg 4096 d off size v 4096 4096 w (BitVec.ofNat 64 j)) (.fine 4096 tg 4096 d off size v 4096 4096 w') := by
  intro k
  induction k with
  | zero =>
    intro j w hk hj hw hx
    have e : j = 4096 := by omega
    subst e
    exact ⟨w, hw, hx, .last rfl⟩
  | succ k ih =>
    intro j w hk hj hw hx
    have hi : (BitVec.ofNat 64 j).toNat = j := ofNat_toNat (by omega)
    have e := ofNat_inc (i := j) (by omega)
    obtain ⟨w', w1, w2, w3⟩ := ih (j + 1) (w.set j [.int .u8 (bA d j)]) (by omega) (by omega) (by rw [List.length_set]; exact hw) (fun x hx2 => by
      rw [bA_set _ _ _ _ (by omega)]
      by_cases q : x = j
      · rw [if_pos q, q]
      · rw [if_neg q]; exact hx x (by omega))
    refine ⟨w', w1, w2, .next ?_ w3⟩
    simp only [mbbStep]
    rw [slt_nat (by omega) (by decide), show (4096#64).toNat = 4096 from rfl]
    simp only [hi, e, h.ram, ok1 (n := 4096) (i := BitVec.ofNat 64 j) (by decide) (by omega), lV1 (n := 4096) (d := d) (i := BitVec.ofNat 64 j) (by decide) (by omega), w88, nonneg_lt (show (BitVec.ofNat 64 j).toNat < 2 ^ 63 by omega),
      decide_eq_true (show j < 4096 by omega), decide_eq_true (show j < w.length by omega), Nat.zero_add, Bool.and_true, Bool.not_true, cond_true, cond_false]
def mbbOk : MbbS → Prop
  | .a n tg m d _ _ _ nw mw w i => n = 4096 ∧ m = 4096 ∧ Rok 4096 tg d ∧ nw = 4096 ∧ mw = 4096 ∧ w.length = 4096 ∧ i = 0#64
open Classical in
noncomputable def g_mbb (x : MbbS) : Bool := decide (mbbOk x)
theorem g_mbb_ok {x : MbbS} (h : mbbOk x) : g_mbb x = true := by unfold g_mbb; exact @decide_eq_true _ (Classical.propDecidable _) h
theorem mbb_ex (n : Nat) (tg : List (List AV)) (m : Nat) (d : List (List AV)) (off size v : BitVec 64) (nw mw : Nat) (w : List (List AV)) (i : BitVec 64) (h : mbbOk (.a n tg m d off size v nw mw w i)) :
    ∃ w' : List (List AV), (w'.length = 4096 ∧ ∀ x, x < 4096 → bA w' x = bA d x) ∧ Rn mbbStep (.a n tg m d off size v nw mw w i) (.fine 4096 tg 4096 d off size v 4096 4096 w') := by
  obtain ⟨rfl, rfl, h, rfl, rfl, hw, rfl⟩ := h
  obtain ⟨w', w1, w2, w3⟩ := mbb_rn h off size v _ 0 w rfl (by omega) hw (fun x hx => absurd hx (by omega))
  exact ⟨w', ⟨w1, w2⟩, w3⟩
open Classical in
noncomputable def v_mbb (x : MbbS) : List (List AV) := match x with
  | .a n tg m d off size v nw mw w i => if h : mbbOk (.a n tg m d off size v nw mw w i) then (mbb_ex n tg m d off size v nw mw w i h).choose else []
theorem v_mbb_ok {n : Nat} {tg : List (List AV)} {m : Nat} {d : List (List AV)} {off size v : BitVec 64} {nw mw : Nat} {w : List (List AV)} {i : BitVec 64} (h : mbbOk (.a n tg m d off size v nw mw w i)) :
    ((v_mbb (.a n tg m d off size v nw mw w i)).length = 4096 ∧ ∀ x, x < 4096 → bA (v_mbb (.a n tg m d off size v nw mw w i)) x = bA d x) ∧ Rn mbbStep (.a n tg m d off size v nw mw w i) (.fine 4096 tg 4096 d off size v 4096 4096 (v_mbb (.a n tg m d off size v nw mw w i))) := by
  unfold v_mbb
  simp only [dif_pos h]
  exact (mbb_ex n tg m d off size v nw mw w i h).choose_spec
noncomputable def mbbCps : Cps MbbS := fun R x K => match x with
  | .a n tg m d off size v nw mw w i => cond (g_mbb (.a n tg m d off size v nw mw w i)) (K (.exit 2) (tmOf [1, 2, 3, 8, 9, 12] [.int .i64 off, .int .i64 size, .int .u64 v, .any, .ptr ⟨4, 0, 0, 0, 0⟩, .slice ⟨6, 0, 0, 1, 0⟩ 1 4096])
      [(4, ⟨true, [.cell (.slice ⟨5, 0, 0, 1, 0⟩ 1 4096), .arr [.int .u64] 64 tg]⟩), (5, ⟨true, [.arr [.int .u8] 4096 d]⟩), (6, ⟨true, [.arr [.int .u8] 4096 (v_mbb (.a n tg m d off size v nw mw w i))]⟩)] 7) none
theorem mbbCps_ok (R : Type) (x : MbbS) (K : Out → TM → Heap → Nat → Option R) (r : R) (h : mbbCps R x K = some r) : ∃ z, Rn mbbStep x z ∧ K (mbbO z) (tmOf [1, 2, 3, 8, 9, 12] (mbbV z)) (mbbG z) (mbbM z) = some r := by
  cases x with
  | a n tg m d off size v nw mw w i =>
    unfold mbbCps at h
    dsimp only at h
    cases hg : g_mbb (.a n tg m d off size v nw mw w i) with
    | false => rw [hg] at h; simp at h
    | true =>
      rw [hg, cond_true] at h
      have hok : mbbOk (.a n tg m d off size v nw mw w i) := by unfold g_mbb at hg; simpa using hg
      exact ⟨_, (v_mbb_ok hok).2, h⟩
/-! ### what is there -/
def chkB (d w : List (List AV)) (off size v : BitVec 64) (f : Bool) (j : Nat) : Bool :=
  cond (f && (off.sle (BitVec.ofNat 64 j) && (BitVec.ofNat 64 j).slt (off + size))) (BitVec.setWidth 64 (bA d j) == v >>> min (BitVec.signExtend 64 (8#64 * (BitVec.ofNat 64 j - off))).toNat 64 % 256#64) (bA d j == bA w j)
theorem mbc_rn {tg d w : List (List AV)} (h : Rok 4096 tg d) (off size v : BitVec 64) (f : Bool) (hc : ∀ j, j < 4096 → chkB d w off size v f j = true) : ∀ (k j : Nat), 4096 - j = k → j ≤ 4096 →
    Rn mbcStep (.a 4096 tg 4096 d off size v 4096 4096 w f (BitVec.ofNat 64 j)) .fine := by
  intro k
  induction k with
  | zero =>
    intro j hk hj
    have e : j = 4096 := by omega
    subst e
    exact .last rfl
  | succ k ih =>
    intro j hk hj
    have hi : (BitVec.ofNat 64 j).toNat = j := ofNat_toNat (by omega)
    have e := ofNat_inc (i := j) (by omega)
    refine .next (y := .a 4096 tg 4096 d off size v 4096 4096 w f (BitVec.ofNat 64 (j + 1))) ?_ (ih (j + 1) (by omega) (by omega))
    have hcj := hc j (by omega)
    unfold chkB at hcj
    simp only [mbcStep]
    rw [slt_nat (by omega) (by decide), show (4096#64).toNat = 4096 from rfl]
    simp only [hi, e, h.ram, lV1 (n := 4096) (d := d) (i := BitVec.ofNat 64 j) (by decide) (by omega), w88, nonneg_lt (show (BitVec.ofNat 64 j).toNat < 2 ^ 63 by omega),
      decide_eq_true (show j < 4096 by omega), Nat.zero_add, Bool.and_true, Bool.not_true, cond_true, cond_false]
    have hw : asU8 ((w.getD j []).headD AV.any) = bA w j := rfl
    rw [hw]
    cases f with
    | false => rw [Bool.false_and, cond_false] at hcj; rw [hcj]; rfl
    | true =>
      cases h1 : off.sle (BitVec.ofNat 64 j) with
      | false => rw [h1, Bool.false_and, Bool.and_false, cond_false] at hcj; rw [hcj]; rfl
      | true =>
        cases h2 : (BitVec.ofNat 64 j).slt (off + size) with
        | false => rw [h1, h2, Bool.and_false, Bool.and_false, cond_false] at hcj; rw [hcj]; rfl
        | true => rw [h1, h2, Bool.and_true, Bool.and_true, cond_true] at hcj; rw [hcj]; rfl
def mbcOk : MbcS → Prop
  | .a n tg m d off size v nw mw w f i => n = 4096 ∧ m = 4096 ∧ Rok 4096 tg d ∧ nw = 4096 ∧ mw = 4096 ∧ i = 0#64 ∧ ∀ j, j < 4096 → chkB d w off size v f j = true
open Classical in
noncomputable def g_mbc (x : MbcS) : Bool := decide (mbcOk x)
theorem g_mbc_ok {x : MbcS} (h : mbcOk x) : g_mbc x = true := by unfold g_mbc; exact @decide_eq_true _ (Classical.propDecidable _) h
noncomputable def mbcCps : Cps MbcS := fun R x K => cond (g_mbc x) (K (.exit 4) (tmOf [8] [.any]) [] 7) none
theorem mbcCps_ok (R : Type) (x : MbcS) (K : Out → TM → Heap → Nat → Option R) (r : R) (h : mbcCps R x K = some r) : ∃ z, Rn mbcStep x z ∧ K (mbcO z) (tmOf [8] (mbcV z)) (mbcG z) (mbcM z) = some r := by
  unfold mbcCps at h
  cases hg : g_mbc x with
  | false => rw [hg] at h; simp at h
  | true =>
    rw [hg, cond_true] at h
    have hok : mbcOk x := by unfold g_mbc at hg; simpa using hg
    cases x with
    | a n tg m d off size v nw mw w f i =>
      obtain ⟨rfl, rfl, hr, rfl, rfl, rfl, hc⟩ := hok
      exact ⟨.fine, mbc_rn hr off size v f hc _ 0 rfl (by omega), h⟩
def mba0 (k : Nat) (d : List (List AV)) (off size v : BitVec 64) : MbaS := .a false k k d 4096 zT 4096 (zB 4096) off size v 0#64
end Go.Sx

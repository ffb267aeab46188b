/- The interrupt controller: all registers behind a store. -/
import Derived.Test.YtaieimjeffedhaaVl12f
import Derived.Test.YtaieimjeffedhaaPlPlc4
set_option linter.unusedSimpArgs false
set_option linter.unusedVariables false
set_option linter.unnecessarySimpa false
namespace Go.Sx
open Go
def rgR : List (List AV) := [[.int .i64 4096#64], [.int .i64 8192#64], [.int .i64 8320#64], [.int .i64 2097152#64], [.int .i64 2101248#64], [.int .i64 0#64], [.int .i64 4#64], [.int .i64 8#64], [.int .i64 12#64], [.int .i64 16#64], [.int .i64 20#64], [.int .i64 24#64], [.int .i64 28#64], [.int .i64 32#64], [.int .i64 36#64], [.int .i64 40#64], [.int .i64 44#64], [.int .i64 48#64], [.int .i64 52#64], [.int .i64 56#64], [.int .i64 60#64], [.int .i64 64#64], [.int .i64 68#64], [.int .i64 72#64], [.int .i64 76#64], [.int .i64 80#64], [.int .i64 84#64], [.int .i64 88#64], [.int .i64 92#64], [.int .i64 96#64], [.int .i64 100#64], [.int .i64 104#64], [.int .i64 108#64], [.int .i64 112#64], [.int .i64 116#64], [.int .i64 120#64], [.int .i64 124#64]]
def rgo (j : Nat) : BitVec 64 := asI64 ((rgR.getD j []).headD .any)
def rgB (w : BitVec 64 × BitVec 64) : Bool := (w.1 == 1#64 && decide (w.2.toNat < 32)) || (w.1 == 2#64 || ((w.1 == 3#64 && decide (w.2.toNat < 2)) || (w.1 == 4#64 && decide (w.2.toNat < 2))))
theorem rg_which (j : Nat) (h : j < 37) : rgB (v_plic_which (rgo j) 4#64) = true := by
  have : ∀ j : Fin 37, rgB (v_plic_which (rgo j.val) 4#64) = true := by decide +kernel
  exact this ⟨j, h⟩
/-- What a register has. -/
def rdP (p : PSt) (w : BitVec 64 × BitVec 64) : BitVec 64 := cond (w.1 == 1#64) (BitVec.setWidth 64 (cell32 p.pr w.2.toNat)) (cond (w.1 == 2#64) (BitVec.setWidth 64 p.pe) (cond (w.1 == 3#64) (BitVec.setWidth 64 (cell32 p.en w.2.toNat)) (BitVec.setWidth 64 (cell32 p.th w.2.toNat))))
/-- What it must have behind a store. -/
def wantP (u off size v o : BitVec 64) : BitVec 64 := cond (size == 4#64 && o == off) (cond (off == 8192#64 || off == 8320#64) (v % 4294967296#64 &&& 18446744073709551614#64) (cond (!(off == 0#64) && !(off == 4096#64)) (v % 8#64) u)) u
def rgAny (off size : BitVec 64) (t0 : Bool) (i : Nat) : Bool := t0 || (size == 4#64 && (List.range i).any fun j => rgo j == off)
theorem rgAny_succ (off size : BitVec 64) (t0 : Bool) (i : Nat) : rgAny off size t0 (i + 1) = cond (size == 4#64 && rgo i == off) true (rgAny off size t0 i) := by
  unfold rgAny
  rw [List.range_succ, List.any_append]
  simp only [List.any_cons, List.any_nil, Bool.or_false]
  cases t0 <;> cases (size == 4#64) <;> cases (rgo i == off) <;> simp
def rgWants (p : PSt) (off size v : BitVec 64) (w : List (List AV)) : Prop := ∀ j, j < 37 → rdP p (v_plic_which (rgo j) 4#64) = wantP (asU64 ((w.getD j []).headD .any)) off size v (rgo j)
set_option maxHeartbeats 4000000 in
theorem rg_step (pr : List (List AV)) (pe se : BitVec 32) (en th : List (List AV)) (off size v : BitVec 64) (w : List (List AV)) (stored there : Bool) (i : BitVec 64) (h : rgWants ⟨pr, pe, se, en, th⟩ off size v w) (hi : i.toNat < 37) :
    rgStep (.a pr pe se en th off size v 37 37 w 37 37 rgR stored there i) = some (.inl (.a pr pe se en th off size v 37 37 w 37 37 rgR stored (cond (size == 4#64 && rgo i.toNat == off) true there) (i + 1#64))) := by
  have hi' : i.toNat < 2 ^ 63 := by omega
  have hj := h i.toNat hi
  have hw := rg_which i.toNat hi
  unfold rgo at hj hw
  simp only [rgStep, Nat.zero_add, slt_len hi' (show 37 < 2 ^ 63 by decide), nonneg_lt hi', decide_eq_true hi, Bool.and_true, cond_true]
  unfold rgo
  generalize asI64 ((rgR.getD i.toNat []).headD AV.any) = R at hj hw ⊢
  generalize v_plic_which R 4#64 = W at hj hw ⊢
  generalize asU64 ((w.getD i.toNat []).headD AV.any) = U at hj ⊢
  unfold rgB at hw
  simp only [Bool.or_eq_true, Bool.and_eq_true, beq_iff_eq, decide_eq_true_eq] at hw
  unfold rdP wantP at hj
  rcases hw with ⟨w1, w2⟩ | w1 | ⟨w1, w2⟩ | ⟨w1, w2⟩
  all_goals
    simp only [w1, BitVec.reduceBEq, cond_true, cond_false] at hj ⊢
    try simp only [nonneg_lt (show W.2.toNat < 2 ^ 63 by omega), decide_eq_true w2, Bool.and_true, cond_true]
    try unfold cell32 at hj
    generalize (size == 4#64) = a1 at hj ⊢
    generalize (R == off) = a2 at hj ⊢
    generalize (off == 8192#64) = a3 at hj ⊢
    generalize (off == 8320#64) = a4 at hj ⊢
    generalize (off == 0#64) = a5 at hj ⊢
    generalize (off == 4096#64) = a6 at hj ⊢
    cases a1 <;> cases a2 <;> simp only [Bool.and_true, Bool.and_false, Bool.true_and, Bool.false_and, cond_true, cond_false] at hj ⊢
    all_goals first
      | (rw [hj]; simp only [beq_self_eq_true, Bool.not_true, cond_false]; done)
      | (cases a3 <;> cases a4 <;> simp only [Bool.or_true, Bool.or_false, Bool.true_or, Bool.false_or, cond_true, cond_false] at hj ⊢
         all_goals first
           | (rw [hj]; simp only [beq_self_eq_true, Bool.not_true, cond_false]; done)
           | (cases a5 <;> cases a6 <;> simp only [Bool.not_true, Bool.not_false, Bool.and_true, Bool.and_false, Bool.true_and, Bool.false_and, cond_true, cond_false] at hj ⊢
              all_goals (rw [hj]; simp only [beq_self_eq_true, Bool.not_true, cond_false])))
def rgOk : RgS → Prop
  | .a pr pe se en th off size v nw mw w nr mr r _ _ i => nw = 37 ∧ mw = 37 ∧ nr = 37 ∧ mr = 37 ∧ r = rgR ∧ i = 0#64 ∧ rgWants ⟨pr, pe, se, en, th⟩ off size v w
theorem rg_rn (pr : List (List AV)) (pe se : BitVec 32) (en th : List (List AV)) (off size v : BitVec 64) (w : List (List AV)) (stored t0 : Bool) (h : rgWants ⟨pr, pe, se, en, th⟩ off size v w) : ∀ (k : Nat) (i : BitVec 64), 37 - i.toNat = k → i.toNat ≤ 37 →
    Rn rgStep (.a pr pe se en th off size v 37 37 w 37 37 rgR stored (rgAny off size t0 i.toNat) i) (.fine size stored (rgAny off size t0 37)) := by
  intro k
  induction k with
  | zero =>
    intro i hk hi
    have e : i.toNat = 37 := by omega
    refine .last ?_
    simp only [rgStep, slt_len (show i.toNat < 2 ^ 63 by omega) (show 37 < 2 ^ 63 by decide), decide_eq_false (show ¬ i.toNat < 37 by omega), cond_false]
    rw [e]
  | succ k ih =>
    intro i hk hi
    have hi1 : (i + 1#64).toNat = i.toNat + 1 := inc_nat (by omega)
    refine .next (rg_step pr pe se en th off size v w stored _ i h (by omega)) ?_
    rw [← rgAny_succ, ← hi1]
    exact ih (i + 1#64) (by omega) (by omega)
open Classical in
noncomputable def g_rg (x : RgS) : Bool := decide (rgOk x)
theorem g_rg_ok {x : RgS} (h : rgOk x) : g_rg x = true := by unfold g_rg; exact @decide_eq_true _ (Classical.propDecidable _) h
def v_rgAny (off size : BitVec 64) (t0 : Bool) : Bool := rgAny off size t0 37
noncomputable def rgCps : Cps RgS := fun R x K => match x with
  | .a pr pe se en th off size v nw mw w nr mr r stored there i => cond (g_rg (.a pr pe se en th off size v nw mw w nr mr r stored there i)) (K (.exit 4) (tmOf [2, 8, 14, 15] [.int .i64 size, .any, .bool stored, .bool (v_rgAny off size there)]) [] 8) none
theorem rgCps_ok (R : Type) (x : RgS) (K : Out → TM → Heap → Nat → Option R) (r : R) (h : rgCps R x K = some r) : ∃ z, Rn rgStep x z ∧ K (rgO z) (tmOf [2, 8, 14, 15] (rgV z)) (rgG z) (rgM z) = some r := by
  cases x with
  | a pr pe se en th off size v nw mw w nr mr r stored there i =>
    unfold rgCps at h
    simp only at h
    cases hg : g_rg (.a pr pe se en th off size v nw mw w nr mr r stored there i) with
    | false => rw [hg] at h; simp at h
    | true =>
      rw [hg] at h
      simp only [cond_true] at h
      have hok : rgOk (.a pr pe se en th off size v nw mw w nr mr r stored there i) := by unfold g_rg at hg; simpa using hg
      obtain ⟨rfl, rfl, rfl, rfl, rfl, rfl, hw⟩ := hok
      have := rg_rn pr pe se en th off size v w stored there hw 37 0#64 rfl (by decide)
      have e : rgAny off size there (0#64).toNat = there := by unfold rgAny; simp
      rw [e] at this
      exact ⟨_, this, h⟩
def p00 : PSt := ⟨zr32, 0#32, 0#32, zr2, zr2⟩
/-- What all registers have. -/
def rgW (p : PSt) : List (List AV) := (List.range 37).map fun j => [.int .u64 (rdP p (v_plic_which (rgo j) 4#64))]
end Go.Sx

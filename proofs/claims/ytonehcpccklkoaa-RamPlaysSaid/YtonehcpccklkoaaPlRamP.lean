/- RamPlays: act by act. -/
import Derived.Test.YtonehcpccklkoaaVl11p
import Derived.Test.YtonehcpccklkoaaPlRamR
set_option linter.unusedSimpArgs false
set_option linter.unusedVariables false
set_option linter.unnecessarySimpa false
namespace Go.Sx
open Go
theorem same_self (l : List (List AV)) (k : Nat) : v_same l l k k = true := by
  unfold v_same v_eqI eqI
  rw [beq_true.2 rfl, Bool.true_and, List.all_eq_true]
  intro j _
  exact beq_self_eq_true _
theorem ss_self {l : List (List AV)} (h : l.length < 2 ^ 63) : g_ss l.length l.length l.length l.length = true :=
  g_ss_iff.2 ⟨Nat.le_refl _, Nat.le_refl _, h, h⟩
theorem mp_tail {γ : Type} {n : Nat} {tg d : List (List AV)} {t : Nat} {T : List (List AV)} (h : Mem n tg d t T) (c : Bool) (b1 b2 b3 next : Option γ) :
    cond c (cond (g_tag n tg n d) (cond (v_emp (v_tagged tg n)) (cond (g_xd t t) (cond (v_emp (v_xtagged T t)) next (cond ((v_xtagged T t).length.blt 9223372036854775808) (cond (!(v_xtagged T t).length.beq 0) b1 next) none)) none)
      (cond (g_xd t t) (cond (v_emp (v_xtagged T t)) (cond ((v_tagged tg n).length.blt 9223372036854775808) (cond (!(v_tagged tg n).length.beq 0) b2 next) none)
        (cond (g_ss (v_tagged tg n).length (v_tagged tg n).length (v_xtagged T t).length (v_xtagged T t).length) (cond (!v_same (v_tagged tg n) (v_xtagged T t) (v_tagged tg n).length (v_xtagged T t).length) b3 next) none)) none)) none) next = next := by
  have hl : (v_xtagged T t).length < 2 ^ 63 := by
    have h1 := tgs_len (cB T) t
    have h2 := h.t16
    have h3 := h.hi
    show (tgs (cB T) t).length < 2 ^ 63
    omega
  simp only [h.gtag, h.xd, h.tagged, ss_self hl, same_self, Bool.not_true, cond_true, cond_false]
  cases c <;> cases v_emp (v_xtagged T t) <;> rfl
def mpaOk : MpaS → Prop
  | .a _ na ma _ n tg m d nx t mx dx mt T i => m = n ∧ nx = n ∧ mx = n ∧ dx = d ∧ mt = t ∧ Mem n tg d t T ∧ na ≤ ma ∧ na < 2 ^ 63 ∧ i.toNat ≤ na
  | .z n tg m d nx t mx dx mt T i => m = n ∧ nx = n ∧ mx = n ∧ dx = d ∧ mt = t ∧ i = 0#64
def mpaI : MpaS → Nat
  | .a _ na _ _ _ _ _ _ _ _ _ _ _ _ i => na - i.toNat
  | .z .. => 0
def mpaGood (x : MpaS) (z : MpaE) : Prop := match x with
  | .a _ _ _ _ n _ _ _ _ t _ _ _ _ _ => ∃ tg d T, Mem n tg d t T ∧ z = .fine n tg n d n t n d t T
  | .z n tg m d nx t mx dx mt T _ => z = .fine n tg m d nx t mx dx mt T
set_option maxHeartbeats 2000000 in
theorem mpa_step (rw : Bool) (na ma : Nat) (da : List (List AV)) (n : Nat) (tg d : List (List AV)) (t : Nat) (T : List (List AV)) (i : BitVec 64) (h : Mem n tg d t T) (hm : na ≤ ma) (hn : na < 2 ^ 63) (hi : i.toNat < na) (h200 : i.toNat < 200) :
    ∃ tg' d' T', Mem n tg' d' t T' ∧ mpaStep (.a rw na ma da n tg n d n t n d t T i) = some (.inl (.a rw na ma da n tg' n d' n t n d' t T' (i + 1#64))) := by
  simp only [mpaStep]
  rw [slt_len (show i.toNat < 2 ^ 63 by omega) hn, slt_nat (show i.toNat < 2 ^ 63 by omega) (show (200#64).toNat < 2 ^ 63 by decide), show (200#64).toNat = 200 from rfl]
  simp only [decide_eq_true hi, decide_eq_true h200, nonneg_lt (show i.toNat < 2 ^ 63 by omega), decide_eq_true (show 0 + i.toNat < ma by omega), h.ram, h.xram, lV_eq, cX_eq, h.cT, beq_self_eq_true, Bool.not_true, Bool.and_true, cond_true, cond_false]
  generalize v_kit_Pick (asI64 ((da.getD (0 + i.toNat) []).headD AV.any)) 4#64 = k
  generalize asI64 ((da.getD (0 + i.toNat) []).tail.headD AV.any) = off
  generalize asI64 ((da.getD (0 + i.toNat) []).tail.tail.headD AV.any) = size
  generalize ((da.getD (0 + i.toNat) []).tail.tail.tail.headD AV.any).asBool = b
  generalize asU64 ((da.getD (0 + i.toNat) []).tail.tail.tail.tail.headD AV.any) = x
  generalize asU64 ((da.getD (0 + i.toNat) []).tail.tail.tail.tail.tail.headD AV.any) = y
  cases k0 : (k == 0#64) with
  | true => exact ⟨tg, d, T, h, mp_tail h _ _ _ _ _⟩
  | false =>
  cases k1 : (k == 1#64) with
  | true => exact ⟨_, _, _, h.store off size x, mp_tail (h.store off size x) _ _ _ _ _⟩
  | false =>
  cases k2 : (k == 2#64) with
  | true => exact ⟨tg, d, T, h, mp_tail h _ _ _ _ _⟩
  | false => exact ⟨_, _, _, h.cap off b x y, mp_tail (h.cap off b x y) _ _ _ _ _⟩
theorem mpa_rn : ∀ (k : Nat) (x : MpaS), mpaI x = k → mpaOk x → ∃ z, Rn mpaStep x z ∧ mpaGood x z := by
  intro k
  induction k with
  | zero =>
    intro x hk h
    cases x with
    | a rw na ma da n tg m d nx t mx dx mt T i =>
      obtain ⟨rfl, rfl, rfl, rfl, rfl, h, hm, hn, hi⟩ := h
      simp only [mpaI] at hk
      refine ⟨_, .last ?_, tg, dx, T, h, rfl⟩
      simp only [mpaStep]
      rw [slt_len (show i.toNat < 2 ^ 63 by omega) hn, decide_eq_false (by omega)]; rfl
    | z n tg m d nx t mx dx mt T i =>
      obtain ⟨rfl, rfl, rfl, rfl, rfl, rfl⟩ := h
      exact ⟨_, .last rfl, rfl⟩
  | succ k ih =>
    intro x hk h
    cases x with
    | a rw na ma da n tg m d nx t mx dx mt T i =>
      obtain ⟨rfl, rfl, rfl, rfl, rfl, h, hm, hn, hi⟩ := h
      simp only [mpaI] at hk
      by_cases h200 : i.toNat < 200
      · obtain ⟨tg', d', T', h', hs⟩ := mpa_step rw na ma da mx tg dx mt T i h hm hn (by omega) h200
        have hinc := inc_nat (show i.toNat < 2 ^ 63 by omega)
        obtain ⟨z, hz, hg⟩ := ih _ (by simp only [mpaI]; omega) (show mpaOk (.a rw na ma da mx tg' mx d' mx mt mx d' mt T' (i + 1#64)) from ⟨rfl, rfl, rfl, rfl, rfl, h', hm, hn, by omega⟩)
        exact ⟨z, .next hs hz, hg⟩
      · refine ⟨_, .last ?_, tg, dx, T, h, rfl⟩
        simp only [mpaStep]
        rw [slt_len (show i.toNat < 2 ^ 63 by omega) hn, slt_nat (show i.toNat < 2 ^ 63 by omega) (show (200#64).toNat < 2 ^ 63 by decide), show (200#64).toNat = 200 from rfl, decide_eq_false h200]
        cases decide (i.toNat < na) <;> rfl
    | z => simp [mpaI] at hk
/-- What stands behind the acts. -/
structure MpaF where
  tg : List (List AV)
  d : List (List AV)
  T : List (List AV)
theorem mpa_ex (rw : Bool) (na ma : Nat) (da : List (List AV)) (n : Nat) (tg : List (List AV)) (m : Nat) (d : List (List AV)) (nx t mx : Nat) (dx : List (List AV)) (mt : Nat) (T : List (List AV)) (i : BitVec 64) (h : mpaOk (.a rw na ma da n tg m d nx t mx dx mt T i)) :
    ∃ f : MpaF, Mem n f.tg f.d t f.T ∧ Rn mpaStep (.a rw na ma da n tg m d nx t mx dx mt T i) (.fine n f.tg n f.d n t n f.d t f.T) := by
  obtain ⟨z, hz, tg', d', T', hm, rfl⟩ := mpa_rn _ _ rfl h
  exact ⟨⟨tg', d', T'⟩, hm, hz⟩
open Classical in
noncomputable def g_mpa (x : MpaS) : Bool := decide (mpaOk x)
theorem g_mpa_ok {x : MpaS} (h : mpaOk x) : g_mpa x = true := by unfold g_mpa; exact @decide_eq_true _ (Classical.propDecidable _) h
open Classical in
noncomputable def v_mpa (x : MpaS) : MpaF := match x with
  | .a rw na ma da n tg m d nx t mx dx mt T i => if h : mpaOk (.a rw na ma da n tg m d nx t mx dx mt T i) then (mpa_ex rw na ma da n tg m d nx t mx dx mt T i h).choose else ⟨[], [], []⟩
  | .z .. => ⟨[], [], []⟩
theorem v_mpa_ok {rw : Bool} {na ma : Nat} {da : List (List AV)} {n : Nat} {tg : List (List AV)} {m : Nat} {d : List (List AV)} {nx t mx : Nat} {dx : List (List AV)} {mt : Nat} {T : List (List AV)} {i : BitVec 64} (h : mpaOk (.a rw na ma da n tg m d nx t mx dx mt T i)) :
    Mem n (v_mpa (.a rw na ma da n tg m d nx t mx dx mt T i)).tg (v_mpa (.a rw na ma da n tg m d nx t mx dx mt T i)).d t (v_mpa (.a rw na ma da n tg m d nx t mx dx mt T i)).T ∧
      Rn mpaStep (.a rw na ma da n tg m d nx t mx dx mt T i) (.fine n (v_mpa (.a rw na ma da n tg m d nx t mx dx mt T i)).tg n (v_mpa (.a rw na ma da n tg m d nx t mx dx mt T i)).d n t n (v_mpa (.a rw na ma da n tg m d nx t mx dx mt T i)).d t (v_mpa (.a rw na ma da n tg m d nx t mx dx mt T i)).T) := by
  unfold v_mpa
  simp only [dif_pos h]
  exact (mpa_ex rw na ma da n tg m d nx t mx dx mt T i h).choose_spec
noncomputable def mpaCps : Cps MpaS := fun R x K => match x with
  | .a rw na ma da n tg m d nx t mx dx mt T i => cond (g_mpa (.a rw na ma da n tg m d nx t mx dx mt T i)) (K (.exit 0) (tmOf [4, 5, 7] [.any, .ptr ⟨2, 0, 0, 0, 0⟩, .ptr ⟨4, 0, 0, 0, 0⟩])
      [(2, ⟨true, [.cell (.slice ⟨3, 0, 0, 1, 0⟩ 1 n), .arr [.int .u64] 64 (v_mpa (.a rw na ma da n tg m d nx t mx dx mt T i)).tg]⟩), (3, ⟨true, [.arr [.int .u8] n (v_mpa (.a rw na ma da n tg m d nx t mx dx mt T i)).d]⟩),
       (4, ⟨true, [.cell (.slice ⟨5, 0, 0, 1, 0⟩ 1 n), .cell (.slice ⟨6, 0, 0, 1, 0⟩ 1 t)]⟩), (5, ⟨true, [.arr [.int .u8] n (v_mpa (.a rw na ma da n tg m d nx t mx dx mt T i)).d]⟩), (6, ⟨true, [.arr [.bool] t (v_mpa (.a rw na ma da n tg m d nx t mx dx mt T i)).T]⟩)] 7) none
  | .z n tg m d nx t mx dx mt T i => cond (i == 0#64) (K (.exit 0) (tmOf [4, 5, 7] [.any, .ptr ⟨2, 0, 0, 0, 0⟩, .ptr ⟨4, 0, 0, 0, 0⟩])
      [(2, ⟨true, [.cell (.slice ⟨3, 0, 0, 1, 0⟩ 1 n), .arr [.int .u64] 64 tg]⟩), (3, ⟨true, [.arr [.int .u8] m d]⟩),
       (4, ⟨true, [.cell (.slice ⟨5, 0, 0, 1, 0⟩ 1 nx), .cell (.slice ⟨6, 0, 0, 1, 0⟩ 1 t)]⟩), (5, ⟨true, [.arr [.int .u8] mx dx]⟩), (6, ⟨true, [.arr [.bool] mt T]⟩)] 7) none
theorem mpaCps_ok (R : Type) (x : MpaS) (K : Out → TM → Heap → Nat → Option R) (r : R) (h : mpaCps R x K = some r) : ∃ z, Rn mpaStep x z ∧ K (mpaO z) (tmOf [4, 5, 7] (mpaV z)) (mpaG z) (mpaM z) = some r := by
  cases x with
  | a rw na ma da n tg m d nx t mx dx mt T i =>
    unfold mpaCps at h
    dsimp only at h
    cases hg : g_mpa (.a rw na ma da n tg m d nx t mx dx mt T i) with
    | false => rw [hg] at h; simp at h
    | true =>
      rw [hg, cond_true] at h
      have hok : mpaOk (.a rw na ma da n tg m d nx t mx dx mt T i) := by unfold g_mpa at hg; simpa using hg
      exact ⟨_, (v_mpa_ok hok).2, h⟩
  | z n tg m d nx t mx dx mt T i =>
    obtain ⟨hg, hk⟩ := condK h
    rw [beq_iff_eq] at hg
    subst hg
    exact ⟨.fine n tg m d nx t mx dx mt T, .last rfl, hk⟩
def mpa0 (k : Nat) (d : List (List AV)) (n : BitVec 64) : MpaS := .a false k k d n.toNat zT n.toNat (zB n.toNat) n.toNat (n.sdiv 16#64).toNat n.toNat (zB n.toNat) (n.sdiv 16#64).toNat (zF (n.sdiv 16#64).toNat) 0#64
end Go.Sx

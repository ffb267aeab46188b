/- RamTags: act by act. -/
import Derived.Test.YtonehcpccklkoaaVl11u
import Derived.Test.YtonehcpccklkoaaPlRamR
set_option linter.unusedSimpArgs false
set_option linter.unusedVariables false
set_option linter.unnecessarySimpa false
namespace Go.Sx
open Go
theorem ok_facts {n : Nat} {off size : BitVec 64} (hok : v_ok n off size = true) (hlo : 4096 ≤ n) (hhi : n ≤ 65536) : 1 ≤ size.toNat ∧ size.toNat ≤ 8 ∧ off.toNat + size.toNat ≤ n := by
  unfold v_ok at hok
  rw [Bool.and_eq_true] at hok
  have hs := v_sized_nat hok.1
  have hle := (v_in_iff (off := off) (size := size) hhi (by omega)).1 hok.2
  omega
theorem okC_facts {n : Nat} {off : BitVec 64} (hok : v_okC n off = true) (hlo : 4096 ≤ n) (hhi : n ≤ 65536) : off.toNat + 16 ≤ n ∧ off.toNat % 16 = 0 := by
  unfold v_okC at hok
  rw [Bool.and_eq_true, beq_iff_eq] at hok
  have hle : off.toNat + 16 ≤ n := (v_in_iff (off := off) (size := 16#64) hhi (by rw [show (16#64).toNat = 16 from rfl]; omega)).1 hok.1
  refine ⟨hle, ?_⟩
  have := congrArg BitVec.toNat hok.2
  rw [sremN off 16#64 (by decide) (by omega), BitVec.toNat_umod] at this
  exact this
theorem Mem.store2 {n : Nat} {tg d : List (List AV)} {t : Nat} {T : List (List AV)} (h : Mem n tg d t T) (off size v : BitVec 64) (hok : v_ok n off size = true) :
    Mem n (v_sT n tg off size) (v_sD n d off size v) t ((T.set (off.toNat / 16) [.bool false]).set ((off.toNat + size.toNat - 1) / 16) [.bool false]) := by
  have h1 := h.store off size v
  obtain ⟨f1, f2, f3⟩ := ok_facts hok h.lo h.hi
  have ht := h.t16; have hT := h.lT
  refine { ld := h1.ld, lg := h1.lg, lo := h.lo, hi := h.hi, t16 := ht, lT := by rw [List.length_set, List.length_set]; exact hT, tag := fun g hg => ?_ }
  rw [← h1.tag g hg, v_xsT, hok, cond_true, cB_set _ _ _ _ (by rw [List.length_set]; omega), cB_set _ _ _ _ (by omega), cB_clr _ _ _ _ (by omega), any_two _ _ _ f1 (by omega)]
  by_cases q1 : g = (off.toNat + size.toNat - 1) / 16
  · rw [if_pos q1, decide_eq_true q1]; simp
  · rw [if_neg q1, decide_eq_false q1]
    by_cases q2 : g = off.toNat / 16
    · rw [if_pos q2, decide_eq_true q2]; simp
    · rw [if_neg q2, decide_eq_false q2]; simp
theorem Mem.cap2 {n : Nat} {tg d : List (List AV)} {t : Nat} {T : List (List AV)} (h : Mem n tg d t T) (off : BitVec 64) (b : Bool) (x y : BitVec 64) (hok : v_okC n off = true) :
    Mem n (v_tT n tg off b) (v_tD n d off x y) t (T.set (off.toNat / 16) [.bool b]) := by
  have h1 := h.cap off b x y
  obtain ⟨f1, f2⟩ := okC_facts hok h.lo h.hi
  have ht := h.t16; have hT := h.lT
  refine { ld := h1.ld, lg := h1.lg, lo := h.lo, hi := h.hi, t16 := ht, lT := by rw [List.length_set]; exact hT, tag := fun g hg => ?_ }
  rw [← h1.tag g hg, v_xtT, hok, cond_true, cB_set T _ _ _ (by omega), cB_set (v_xclr (v_xclr T off.toNat 8) (off.toNat + 8) 8) _ _ _ (by rw [v_xclr_len, v_xclr_len]; omega)]
  by_cases q : g = off.toNat / 16
  · rw [if_pos q, if_pos q]
  · rw [if_neg q, if_neg q, cB_clr _ _ _ _ (by rw [v_xclr_len]; omega), cB_clr _ _ _ _ (by omega), any_two _ _ _ (by omega) (by omega), any_two _ _ _ (by omega) (by omega)]
    rw [decide_eq_false (show ¬ g = off.toNat / 16 from q), decide_eq_false (show ¬ g = (off.toNat + 8 - 1) / 16 by omega), decide_eq_false (show ¬ g = (off.toNat + 8) / 16 by omega), decide_eq_false (show ¬ g = (off.toNat + 8 + 8 - 1) / 16 by omega)]
    simp
theorem no_store {n : Nat} {tg d : List (List AV)} {off size v : BitVec 64} (hok : v_ok n off size = false) : v_sT n tg off size = tg ∧ v_sD n d off size v = d := by
  unfold v_sT v_sD; rw [hok]; exact ⟨rfl, rfl⟩
theorem no_cap {n : Nat} {tg d : List (List AV)} {off : BitVec 64} {b : Bool} {x y : BitVec 64} (hok : v_okC n off = false) : v_tT n tg off b = tg ∧ v_tD n d off x y = d := by
  unfold v_tT v_tD; rw [hok]; exact ⟨rfl, rfl⟩
def mtaOk : MtaS → Prop
  | .a _ na ma _ n tg m d t mt T i => m = n ∧ mt = t ∧ Mem n tg d t T ∧ na ≤ ma ∧ na < 2 ^ 63 ∧ i.toNat ≤ na
  | .z n tg m d t mt T i => m = n ∧ mt = t ∧ Mem n tg d t T ∧ i = 0#64
def mtaI : MtaS → Nat
  | .a _ na _ _ _ _ _ _ _ _ _ i => na - i.toNat
  | .z .. => 0
def mtaGood (x : MtaS) (z : MtaE) : Prop := match x with
  | .a _ _ _ _ n _ _ _ t _ _ _ => ∃ tg d T, Mem n tg d t T ∧ z = .fine n tg n d t t T
  | .z n tg m d t mt T _ => z = .fine n tg m d t mt T
set_option maxHeartbeats 2000000 in
theorem mta_step (rw : Bool) (na ma : Nat) (da : List (List AV)) (n : Nat) (tg d : List (List AV)) (t : Nat) (T : List (List AV)) (i : BitVec 64) (h : Mem n tg d t T) (hm : na ≤ ma) (hn : na < 2 ^ 63) (hi : i.toNat < na) (h200 : i.toNat < 200) :
    ∃ tg' d' T', Mem n tg' d' t T' ∧ mtaStep (.a rw na ma da n tg n d t t T i) = some (.inl (.a rw na ma da n tg' n d' t t T' (i + 1#64))) := by
  simp only [mtaStep]
  rw [slt_len (show i.toNat < 2 ^ 63 by omega) hn, slt_nat (show i.toNat < 2 ^ 63 by omega) (show (200#64).toNat < 2 ^ 63 by decide), show (200#64).toNat = 200 from rfl]
  simp only [decide_eq_true hi, decide_eq_true h200, nonneg_lt (show i.toNat < 2 ^ 63 by omega), decide_eq_true (show 0 + i.toNat < ma by omega), h.ram, Bool.and_true, cond_true]
  generalize v_kit_Pick (asI64 ((da.getD (0 + i.toNat) []).headD AV.any)) 2#64 = k
  generalize asI64 ((da.getD (0 + i.toNat) []).tail.headD AV.any) = off
  generalize asI64 ((da.getD (0 + i.toNat) []).tail.tail.headD AV.any) = size
  generalize ((da.getD (0 + i.toNat) []).tail.tail.tail.headD AV.any).asBool = b
  generalize asU64 ((da.getD (0 + i.toNat) []).tail.tail.tail.tail.headD AV.any) = x
  generalize asU64 ((da.getD (0 + i.toNat) []).tail.tail.tail.tail.tail.headD AV.any) = y
  have ht := h.t16; have hT := h.lT; have hlo := h.lo; have hhi := h.hi
  cases k0 : (k == 0#64) with
  | true =>
    cases hok : v_okC n off with
    | false =>
      obtain ⟨e1, e2⟩ := no_cap (tg := tg) (d := d) (b := b) (x := x) (y := y) hok
      rw [e1, e2]
      exact ⟨tg, d, T, h, rfl⟩
    | true =>
      obtain ⟨f1, f2⟩ := okC_facts hok hlo hhi
      have hq := div16 off (by omega)
      refine ⟨_, _, _, h.cap2 off b x y hok, ?_⟩
      simp only [hq, nonneg_lt (show (off.sdiv 16#64).toNat < 2 ^ 63 by omega), decide_eq_true (show off.toNat / 16 < t by omega), Nat.zero_add, decide_eq_true (show off.toNat / 16 < T.length by omega), Bool.and_true, cond_true]
  | false =>
    cases hok : v_ok n off size with
    | false =>
      obtain ⟨e1, e2⟩ := no_store (tg := tg) (d := d) (v := x) hok
      rw [e1, e2]
      exact ⟨tg, d, T, h, rfl⟩
    | true =>
      obtain ⟨f1, f2, f3⟩ := ok_facts hok hlo hhi
      have hq := div16 off (by omega)
      have hl := last_nat (off := off) (size := size) (by omega) f1
      have hq2 := div16 (off + size - 1#64) (by omega)
      rw [hl] at hq2
      refine ⟨_, _, _, h.store2 off size x hok, ?_⟩
      simp only [hq, hq2, nonneg_lt (show (off.sdiv 16#64).toNat < 2 ^ 63 by omega), nonneg_lt (show ((off + size - 1#64).sdiv 16#64).toNat < 2 ^ 63 by omega), decide_eq_true (show off.toNat / 16 < t by omega), Nat.zero_add, decide_eq_true (show off.toNat / 16 < T.length by omega),
        decide_eq_true (show (off.toNat + size.toNat - 1) / 16 < t by omega), List.length_set, decide_eq_true (show (off.toNat + size.toNat - 1) / 16 < T.length by omega), Bool.and_true, cond_true, cond_false]
theorem mta_rn : ∀ (k : Nat) (x : MtaS), mtaI x = k → mtaOk x → ∃ z, Rn mtaStep x z ∧ mtaGood x z := by
  intro k
  induction k with
  | zero =>
    intro x hk h
    cases x with
    | a rw na ma da n tg m d t mt T i =>
      obtain ⟨rfl, rfl, h, hm, hn, hi⟩ := h
      simp only [mtaI] at hk
      refine ⟨_, .last ?_, tg, d, T, h, rfl⟩
      simp only [mtaStep]
      rw [slt_len (show i.toNat < 2 ^ 63 by omega) hn, decide_eq_false (by omega)]; rfl
    | z n tg m d t mt T i =>
      obtain ⟨rfl, rfl, h, rfl⟩ := h
      exact ⟨_, .last rfl, rfl⟩
  | succ k ih =>
    intro x hk h
    cases x with
    | a rw na ma da n tg m d t mt T i =>
      obtain ⟨rfl, rfl, h, hm, hn, hi⟩ := h
      simp only [mtaI] at hk
      by_cases h200 : i.toNat < 200
      · obtain ⟨tg', d', T', h', hs⟩ := mta_step rw na ma da m tg d mt T i h hm hn (by omega) h200
        have hinc := inc_nat (show i.toNat < 2 ^ 63 by omega)
        obtain ⟨z, hz, hg⟩ := ih _ (by simp only [mtaI]; omega) (show mtaOk (.a rw na ma da m tg' m d' mt mt T' (i + 1#64)) from ⟨rfl, rfl, h', hm, hn, by omega⟩)
        exact ⟨z, .next hs hz, hg⟩
      · refine ⟨_, .last ?_, tg, d, T, h, rfl⟩
        simp only [mtaStep]
        rw [slt_len (show i.toNat < 2 ^ 63 by omega) hn, slt_nat (show i.toNat < 2 ^ 63 by omega) (show (200#64).toNat < 2 ^ 63 by decide), show (200#64).toNat = 200 from rfl, decide_eq_false h200]
        cases decide (i.toNat < na) <;> rfl
    | z => simp [mtaI] at hk
structure MtaF where
  tg : List (List AV)
  d : List (List AV)
  T : List (List AV)
theorem mta_ex (rw : Bool) (na ma : Nat) (da : List (List AV)) (n : Nat) (tg : List (List AV)) (m : Nat) (d : List (List AV)) (t mt : Nat) (T : List (List AV)) (i : BitVec 64) (h : mtaOk (.a rw na ma da n tg m d t mt T i)) :
    ∃ f : MtaF, Mem n f.tg f.d t f.T ∧ Rn mtaStep (.a rw na ma da n tg m d t mt T i) (.fine n f.tg n f.d t t f.T) := by
  obtain ⟨z, hz, tg', d', T', hm, rfl⟩ := mta_rn _ _ rfl h
  exact ⟨⟨tg', d', T'⟩, hm, hz⟩
open Classical in
noncomputable def g_mta (x : MtaS) : Bool := decide (mtaOk x)
theorem g_mta_ok {x : MtaS} (h : mtaOk x) : g_mta x = true := by unfold g_mta; exact @decide_eq_true _ (Classical.propDecidable _) h
open Classical in
noncomputable def v_mta (x : MtaS) : MtaF := match x with
  | .a rw na ma da n tg m d t mt T i => if h : mtaOk (.a rw na ma da n tg m d t mt T i) then (mta_ex rw na ma da n tg m d t mt T i h).choose else ⟨[], [], []⟩
  | .z .. => ⟨[], [], []⟩
theorem v_mta_ok {rw : Bool} {na ma : Nat} {da : List (List AV)} {n : Nat} {tg : List (List AV)} {m : Nat} {d : List (List AV)} {t mt : Nat} {T : List (List AV)} {i : BitVec 64} (h : mtaOk (.a rw na ma da n tg m d t mt T i)) :
    Mem n (v_mta (.a rw na ma da n tg m d t mt T i)).tg (v_mta (.a rw na ma da n tg m d t mt T i)).d t (v_mta (.a rw na ma da n tg m d t mt T i)).T ∧
      Rn mtaStep (.a rw na ma da n tg m d t mt T i) (.fine n (v_mta (.a rw na ma da n tg m d t mt T i)).tg n (v_mta (.a rw na ma da n tg m d t mt T i)).d t t (v_mta (.a rw na ma da n tg m d t mt T i)).T) := by
  unfold v_mta
  simp only [dif_pos h]
  exact (mta_ex rw na ma da n tg m d t mt T i h).choose_spec
noncomputable def mtaCps : Cps MtaS := fun R x K => match x with
  | .a rw na ma da n tg m d t mt T i => cond (g_mta (.a rw na ma da n tg m d t mt T i)) (K (.exit 0) (tmOf [3, 5] [.ptr ⟨1, 0, 0, 0, 0⟩, .slice ⟨3, 0, 0, 1, 0⟩ 1 t])
      [(1, ⟨true, [.cell (.slice ⟨2, 0, 0, 1, 0⟩ 1 n), .arr [.int .u64] 64 (v_mta (.a rw na ma da n tg m d t mt T i)).tg]⟩), (2, ⟨true, [.arr [.int .u8] n (v_mta (.a rw na ma da n tg m d t mt T i)).d]⟩),
       (3, ⟨true, [.arr [.bool] t (v_mta (.a rw na ma da n tg m d t mt T i)).T]⟩)] 4) none
  | .z n tg m d t mt T i => cond (i == 0#64) (K (.exit 0) (tmOf [3, 5] [.ptr ⟨1, 0, 0, 0, 0⟩, .slice ⟨3, 0, 0, 1, 0⟩ 1 t])
      [(1, ⟨true, [.cell (.slice ⟨2, 0, 0, 1, 0⟩ 1 n), .arr [.int .u64] 64 tg]⟩), (2, ⟨true, [.arr [.int .u8] m d]⟩),
       (3, ⟨true, [.arr [.bool] mt T]⟩)] 4) none
theorem mtaCps_ok (R : Type) (x : MtaS) (K : Out → TM → Heap → Nat → Option R) (r : R) (h : mtaCps R x K = some r) : ∃ z, Rn mtaStep x z ∧ K (mtaO z) (tmOf [3, 5] (mtaV z)) (mtaG z) (mtaM z) = some r := by
  cases x with
  | a rw na ma da n tg m d t mt T i =>
    unfold mtaCps at h
    dsimp only at h
    cases hg : g_mta (.a rw na ma da n tg m d t mt T i) with
    | false => rw [hg] at h; simp at h
    | true =>
      rw [hg, cond_true] at h
      have hok : mtaOk (.a rw na ma da n tg m d t mt T i) := by unfold g_mta at hg; simpa using hg
      exact ⟨_, (v_mta_ok hok).2, h⟩
  | z n tg m d t mt T i =>
    obtain ⟨hg, hk⟩ := condK h
    rw [beq_iff_eq] at hg
    subst hg
    exact ⟨.fine n tg m d t mt T, .last rfl, hk⟩
def mta0 (k : Nat) (d : List (List AV)) : MtaS := .a false k k d 4096 zT 4096 (zB 4096) 256 256 (zF 256) 0#64
end Go.Sx

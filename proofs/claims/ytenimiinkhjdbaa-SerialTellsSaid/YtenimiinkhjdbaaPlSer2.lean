/- The UART's laws: what is told. -/
import Derived.Test.YtenimiinkhjdbaaVl14
import Derived.Test.YtenimiinkhjdbaaVa14
import Derived.Test.YtenimiinkhjdbaaPlN
set_option linter.unusedSimpArgs false
set_option linter.unusedVariables false
set_option linter.unnecessarySimpa false
namespace Go.Sx
open Go
theorem there_eq (o s : BitVec 64) : v_serial_there o s = ((s == 1#64) && ((0#64).sle o && o.slt 8#64)) := by
  unfold v_serial_there
  cases hb : (0#64).sle o with
  | false => cases (s == 1#64) <;> rfl
  | true => rw [sle7 o hb]; cases (s == 1#64) <;> rfl
theorem one_eq (w : BitVec 64) : v_serial_one (w &&& 1#64 == 1#64) = w % 2#64 := by
  rw [and1]
  rcases par w with h | h <;> rw [h] <;> rfl
/-- What holds at the head. -/
def tlOk : TlS → Prop
  | .a n0 m0 _ n1 m1 _ n2 m2 _ _ _ _ cn _ want i => n0 ≤ m0 ∧ n1 ≤ m1 ∧ n2 ≤ m2 ∧ i.toNat ≤ 300 ∧ n0 < 2 ^ 63 ∧ n1 < 2 ^ 63 ∧ n2 < 2 ^ 63 ∧ cn = 1#64 ∧ want = 18446744073709551615#64
  | .b n0 m0 _ n1 m1 _ n2 m2 _ _ _ _ cn _ tb want i => n0 ≤ m0 ∧ n1 ≤ m1 ∧ n2 ≤ m2 ∧ i.toNat ≤ 300 ∧ n0 < 2 ^ 63 ∧ n1 < 2 ^ 63 ∧ n2 < 2 ^ 63 ∧ cn = 1#64 ∧ want = BitVec.setWidth 64 tb
def tlI : TlS → BitVec 64
  | .a _ _ _ _ _ _ _ _ _ _ _ _ _ _ _ i => i
  | .b _ _ _ _ _ _ _ _ _ _ _ _ _ _ _ _ i => i
def tlC : TlS → BitVec 8 × List (List AV) × BitVec 64
  | .a _ _ _ _ _ _ _ _ _ came q fi _ _ _ _ => (came, q, fi)
  | .b _ _ _ _ _ _ _ _ _ came q fi _ _ _ _ _ => (came, q, fi)
def tlGood (x : TlS) (z : TlE) : Prop := (∃ en, z = .fa (tlC x).1 (tlC x).2.1 (tlC x).2.2 1#64 en 18446744073709551615#64) ∨ ∃ en tb, z = .fb (tlC x).1 (tlC x).2.1 (tlC x).2.2 1#64 en (BitVec.setWidth 64 tb) tb
def tlOn (x : TlS) : Prop := (∃ y, tlStep x = some (.inl y) ∧ tlOk y ∧ (tlI y).toNat = (tlI x).toNat + 1 ∧ tlC y = tlC x) ∨ ∃ z, tlStep x = some (.inr z) ∧ tlGood x z
set_option maxHeartbeats 2000000 in
theorem tl_a (n0 m0 : Nat) (d0 : List (List AV)) (n1 m1 : Nat) (d1 : List (List AV)) (n2 m2 : Nat) (d2 : List (List AV)) (came : BitVec 8) (q : List (List AV)) (fi cn : BitVec 64) (en : Bool) (want i : BitVec 64)
    (h : tlOk (.a n0 m0 d0 n1 m1 d1 n2 m2 d2 came q fi cn en want i)) : tlOn (.a n0 m0 d0 n1 m1 d1 n2 m2 d2 came q fi cn en want i) := by
  obtain ⟨h0, h1, h2, h3, k0, k1, k2, rfl, rfl⟩ := h
  have hi : i.toNat < 2 ^ 63 := by omega
  unfold tlOn
  simp only [tlStep]
  rw [slt_len hi k2, slt_len hi k0, slt_len hi k1, slt_nat hi (show (300#64).toNat < 2 ^ 63 by decide), show (300#64).toNat = 300 from rfl]
  by_cases c2 : i.toNat < n2
  · by_cases c0 : i.toNat < n0
    · by_cases c1 : i.toNat < n1
      · by_cases c3 : i.toNat < 300
        · have hs : ∀ d : BitVec 64, d = i + 1#64 → d.toNat ≤ 300 ∧ d.toNat = i.toNat + 1 := fun d hd => by rw [hd, inc_nat hi]; omega
          obtain ⟨hs1, hs2⟩ := hs _ rfl
          simp only [nonneg_lt hi, decide_eq_true c0, decide_eq_true c1, decide_eq_true c2, decide_eq_true c3, decide_eq_true (show 0 + i.toNat < m0 by omega), decide_eq_true (show 0 + i.toNat < m1 by omega), decide_eq_true (show 0 + i.toNat < m2 by omega), Bool.and_true, cond_true, asU8_mk, lo8, there_eq, one_eq, beq_self_eq_true, Bool.not_true, cond_false]
          generalize asI64 ((d0.getD (0 + i.toNat) []).headD AV.any) = o
          generalize asI64 ((d1.getD (0 + i.toNat) []).headD AV.any) = s
          generalize asU64 ((d2.getD (0 + i.toNat) []).headD AV.any) = w
          left
          rcases off8 o with ⟨e0, e1, e2, e3⟩ | ⟨e0, e1, e2, e3⟩ | ⟨e0, e1, e2, e3⟩ | ⟨e0, e1, e2, e3⟩ | ⟨e0, e1, e2⟩
          all_goals first
            | simp only [e0, e1, e2, e3, cond_true, cond_false, Bool.and_true, Bool.and_false, Bool.true_and, Bool.false_and, beq_self_eq_true, Bool.not_true]
            | simp only [e0, e1, e2, cond_true, cond_false, Bool.and_true, Bool.and_false, Bool.true_and, Bool.false_and, beq_self_eq_true, Bool.not_true]
          all_goals
            generalize (s == 1#64) = A
            generalize (i.srem 3#64 == 0#64) = T
            cases A <;> cases T <;> refine ⟨_, rfl, ?_, hs2, rfl⟩ <;> first
              | exact ⟨h0, h1, h2, hs1, k0, k1, k2, rfl, rfl⟩
              | exact ⟨h0, h1, h2, hs1, k0, k1, k2, rfl, (lo8 w).symm⟩
        · right; refine ⟨.fa came q fi 1#64 en 18446744073709551615#64, by simp only [decide_eq_true c0, decide_eq_true c1, decide_eq_true c2, decide_eq_false c3, cond_true, cond_false], .inl ⟨en, rfl⟩⟩
      · right; refine ⟨.fa came q fi 1#64 en 18446744073709551615#64, by simp only [decide_eq_true c0, decide_eq_false c1, decide_eq_true c2, cond_true, cond_false], .inl ⟨en, rfl⟩⟩
    · right; refine ⟨.fa came q fi 1#64 en 18446744073709551615#64, by simp only [decide_eq_false c0, decide_eq_true c2, cond_true, cond_false], .inl ⟨en, rfl⟩⟩
  · right; refine ⟨.fa came q fi 1#64 en 18446744073709551615#64, by simp only [decide_eq_false c2, cond_false], .inl ⟨en, rfl⟩⟩
set_option maxHeartbeats 2000000 in
theorem tl_b (n0 m0 : Nat) (d0 : List (List AV)) (n1 m1 : Nat) (d1 : List (List AV)) (n2 m2 : Nat) (d2 : List (List AV)) (came : BitVec 8) (q : List (List AV)) (fi cn : BitVec 64) (en : Bool) (tb : BitVec 8) (want i : BitVec 64)
    (h : tlOk (.b n0 m0 d0 n1 m1 d1 n2 m2 d2 came q fi cn en tb want i)) : tlOn (.b n0 m0 d0 n1 m1 d1 n2 m2 d2 came q fi cn en tb want i) := by
  obtain ⟨h0, h1, h2, h3, k0, k1, k2, rfl, rfl⟩ := h
  have hi : i.toNat < 2 ^ 63 := by omega
  unfold tlOn
  simp only [tlStep]
  rw [slt_len hi k2, slt_len hi k0, slt_len hi k1, slt_nat hi (show (300#64).toNat < 2 ^ 63 by decide), show (300#64).toNat = 300 from rfl]
  by_cases c2 : i.toNat < n2
  · by_cases c0 : i.toNat < n0
    · by_cases c1 : i.toNat < n1
      · by_cases c3 : i.toNat < 300
        · have hs : ∀ d : BitVec 64, d = i + 1#64 → d.toNat ≤ 300 ∧ d.toNat = i.toNat + 1 := fun d hd => by rw [hd, inc_nat hi]; omega
          obtain ⟨hs1, hs2⟩ := hs _ rfl
          simp only [nonneg_lt hi, decide_eq_true c0, decide_eq_true c1, decide_eq_true c2, decide_eq_true c3, decide_eq_true (show 0 + i.toNat < m0 by omega), decide_eq_true (show 0 + i.toNat < m1 by omega), decide_eq_true (show 0 + i.toNat < m2 by omega), Bool.and_true, cond_true, asU8_mk, lo8, there_eq, one_eq, beq_self_eq_true, Bool.not_true, cond_false]
          generalize asI64 ((d0.getD (0 + i.toNat) []).headD AV.any) = o
          generalize asI64 ((d1.getD (0 + i.toNat) []).headD AV.any) = s
          generalize asU64 ((d2.getD (0 + i.toNat) []).headD AV.any) = w
          left
          rcases off8 o with ⟨e0, e1, e2, e3⟩ | ⟨e0, e1, e2, e3⟩ | ⟨e0, e1, e2, e3⟩ | ⟨e0, e1, e2, e3⟩ | ⟨e0, e1, e2⟩
          all_goals first
            | simp only [e0, e1, e2, e3, cond_true, cond_false, Bool.and_true, Bool.and_false, Bool.true_and, Bool.false_and, beq_self_eq_true, Bool.not_true]
            | simp only [e0, e1, e2, cond_true, cond_false, Bool.and_true, Bool.and_false, Bool.true_and, Bool.false_and, beq_self_eq_true, Bool.not_true]
          all_goals
            generalize (s == 1#64) = A
            generalize (i.srem 3#64 == 0#64) = T
            cases A <;> cases T <;> refine ⟨_, rfl, ?_, hs2, rfl⟩ <;> first
              | exact ⟨h0, h1, h2, hs1, k0, k1, k2, rfl, rfl⟩
              | exact ⟨h0, h1, h2, hs1, k0, k1, k2, rfl, (lo8 w).symm⟩
        · right; refine ⟨.fb came q fi 1#64 en (BitVec.setWidth 64 tb) tb, by simp only [decide_eq_true c0, decide_eq_true c1, decide_eq_true c2, decide_eq_false c3, cond_true, cond_false], .inr ⟨en, tb, rfl⟩⟩
      · right; refine ⟨.fb came q fi 1#64 en (BitVec.setWidth 64 tb) tb, by simp only [decide_eq_true c0, decide_eq_false c1, decide_eq_true c2, cond_true, cond_false], .inr ⟨en, tb, rfl⟩⟩
    · right; refine ⟨.fb came q fi 1#64 en (BitVec.setWidth 64 tb) tb, by simp only [decide_eq_false c0, decide_eq_true c2, cond_true, cond_false], .inr ⟨en, tb, rfl⟩⟩
  · right; refine ⟨.fb came q fi 1#64 en (BitVec.setWidth 64 tb) tb, by simp only [decide_eq_false c2, cond_false], .inr ⟨en, tb, rfl⟩⟩
theorem tl_on (x : TlS) (h : tlOk x) : tlOn x := by
  cases x with
  | a => exact tl_a _ _ _ _ _ _ _ _ _ _ _ _ _ _ _ _ h
  | b => exact tl_b _ _ _ _ _ _ _ _ _ _ _ _ _ _ _ _ _ h
theorem tlI_le (x : TlS) (h : tlOk x) : (tlI x).toNat ≤ 300 := by
  cases x with
  | a => exact h.2.2.2.1
  | b => exact h.2.2.2.1
theorem tl_rn : ∀ (k : Nat) (x : TlS), 300 - (tlI x).toNat = k → tlOk x → ∃ z, Rn tlStep x z ∧ tlGood x z := by
  intro k
  induction k with
  | zero =>
    intro x hk h
    rcases tl_on x h with ⟨y, h1, h2, h3, h4⟩ | ⟨z, h1, h2⟩
    · have := tlI_le y h2; omega
    · exact ⟨z, .last h1, h2⟩
  | succ k ih =>
    intro x hk h
    rcases tl_on x h with ⟨y, h1, h2, h3, h4⟩ | ⟨z, h1, h2⟩
    · obtain ⟨z, h5, h6⟩ := ih y (by omega) h2
      refine ⟨z, .next h1 h5, ?_⟩
      unfold tlGood at *
      rw [h4] at h6; exact h6
    · exact ⟨z, .last h1, h2⟩
/-- How it ends: whether nothing is told; which byte; whether it is enabled. -/
structure TlF where
  no : Bool
  en : Bool
  tb : BitVec 8
def TlF.z (f : TlF) (x : TlS) : TlE := cond f.no (.fa (tlC x).1 (tlC x).2.1 (tlC x).2.2 1#64 f.en 18446744073709551615#64) (.fb (tlC x).1 (tlC x).2.1 (tlC x).2.2 1#64 f.en (BitVec.setWidth 64 f.tb) f.tb)
theorem tl_ex (x : TlS) (h : tlOk x) : ∃ f : TlF, Rn tlStep x (f.z x) := by
  obtain ⟨z, h1, h2⟩ := tl_rn _ x rfl h
  rcases h2 with ⟨en, rfl⟩ | ⟨en, tb, rfl⟩
  · exact ⟨⟨true, en, 0⟩, h1⟩
  · exact ⟨⟨false, en, tb⟩, h1⟩
open Classical in
noncomputable def g_tl (x : TlS) : Bool := decide (tlOk x)
theorem g_tl_ok {x : TlS} (h : tlOk x) : g_tl x = true := by unfold g_tl; exact @decide_eq_true _ (Classical.propDecidable _) h
open Classical in
noncomputable def v_tl (x : TlS) : TlF := if h : tlOk x then (tl_ex x h).choose else ⟨true, false, 0⟩
theorem v_tl_ok (x : TlS) (h : tlOk x) : Rn tlStep x ((v_tl x).z x) := by
  unfold v_tl; rw [dif_pos h]; exact (tl_ex x h).choose_spec
noncomputable def tlK {R : Type} (x : TlS) (came : BitVec 8) (q : List (List AV)) (fi : BitVec 64) (K : Out → TM → Heap → Nat → Option R) : Option R :=
  cond (g_tl x) (cond (v_tl x).no
    (K (.exit 0) (tmOf [3, 8, 9, 10] [.int .u8 came, .any, .ptr ⟨4, 0, 0, 0, 0⟩, .int .i64 18446744073709551615#64]) [(4, ⟨true, [.arr [.int .u8] 16 q, .cell (.int .i64 fi), .cell (.int .i64 1#64), .cell (.bool (v_tl x).en), .cell .nilslice]⟩)] 5)
    (K (.exit 0) (tmOf [3, 8, 9, 10] [.int .u8 came, .any, .ptr ⟨4, 0, 0, 0, 0⟩, .int .i64 (BitVec.setWidth 64 (v_tl x).tb)]) [(4, ⟨true, [.arr [.int .u8] 16 q, .cell (.int .i64 fi), .cell (.int .i64 1#64), .cell (.bool (v_tl x).en), .cell (.slice ⟨5, 0, 0, 1, 0⟩ 1 1)]⟩), (5, ⟨true, [.arr [.int .u8] 1 [[.int .u8 (v_tl x).tb]]]⟩)] 6)) none
noncomputable def tlCps : Cps TlS := fun R x K => match x with
  | .a n0 m0 d0 n1 m1 d1 n2 m2 d2 came q fi cn en want i => tlK (.a n0 m0 d0 n1 m1 d1 n2 m2 d2 came q fi cn en want i) came q fi K
  | .b n0 m0 d0 n1 m1 d1 n2 m2 d2 came q fi cn en tb want i => tlK (.b n0 m0 d0 n1 m1 d1 n2 m2 d2 came q fi cn en tb want i) came q fi K
theorem tlCps_ok (R : Type) (x : TlS) (K : Out → TM → Heap → Nat → Option R) (r : R) (h : tlCps R x K = some r) : ∃ z, Rn tlStep x z ∧ K (tlO z) (tmOf [3, 8, 9, 10] (tlV z)) (tlG z) (tlM z) = some r := by
  have h' : tlK x (tlC x).1 (tlC x).2.1 (tlC x).2.2 K = some r := by
    cases x <;> exact h
  unfold tlK at h'
  cases hg : g_tl x with
  | false => rw [hg] at h'; simp at h'
  | true =>
    rw [hg] at h'
    simp only [cond_true] at h'
    have hok : tlOk x := by unfold g_tl at hg; simpa using hg
    refine ⟨_, v_tl_ok x hok, ?_⟩
    unfold TlF.z
    cases hn : (v_tl x).no with
    | true => rw [hn] at h'; exact h'
    | false => rw [hn] at h'; exact h'
end Go.Sx

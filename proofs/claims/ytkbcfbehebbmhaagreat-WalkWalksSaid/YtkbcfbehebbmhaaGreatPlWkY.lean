/- Several texts in one. -/
import Derived.Test.YtkbcfbehebbmhaaGreatSxX
import Derived.Test.YtkbcfbehebbmhaaGreatSxLen2
import Derived.Test.YtkbcfbehebbmhaaGreatSxEC
import Derived.Test.YtkbcfbehebbmhaaGreatVa03
import Derived.Test.YtkbcfbehebbmhaaGreatPlN
import Derived.Test.YtkbcfbehebbmhaaGreatPlRam3
set_option linter.unusedSimpArgs false
set_option linter.unusedVariables false
set_option linter.unnecessarySimpa false
/- What loops do, round by round. -/
namespace Go.Sx
open Go

/-! ### lists of accesses, one by one -/
inductive MqaS where
  | a (ra : Bool) (ma : Nat) (da : List (List AV)) (rb : Bool) (mb : Nat) (db : List (List AV)) (na : Nat) (nb : Nat) (i : BitVec 64)
inductive MqaE where
  | fine (ra : Bool) (ma : Nat) (da : List (List AV)) (rb : Bool) (mb : Nat) (db : List (List AV))
  | bad (ra : Bool) (ma : Nat) (da : List (List AV)) (rb : Bool) (mb : Nat) (db : List (List AV))
def mqaT : MqaS → List AV
  | .a _ _ _ _ _ _ na nb i => [.slice ⟨0, 0, 0, 5, 0⟩ 5 na, .slice ⟨1, 0, 0, 5, 0⟩ 5 nb, .int .i64 i]
def mqaH : MqaS → Heap
  | .a ra ma da rb mb db _ _ _ => [(0, ⟨ra, [.arr [.int .i64, .int .i64, .int .i64, .int .u64, .int .u64] ma da]⟩), (1, ⟨rb, [.arr [.int .i64, .int .i64, .int .i64, .int .u64, .int .u64] mb db]⟩)]
def mqaN : MqaS → Nat
  | .a _ _ _ _ _ _ _ _ _ => 2
def mqaDec (vs : List AV) (H : Heap) (N : Nat) : Option MqaS := match vs, H.find 0, H.find 1, N with
  | [.slice ⟨0, 0, 0, 5, 0⟩ 5 na, .slice ⟨1, 0, 0, 5, 0⟩ 5 nb, .int .i64 i], some ⟨ra, [.arr [.int .i64, .int .i64, .int .i64, .int .u64, .int .u64] ma da]⟩, some ⟨rb, [.arr [.int .i64, .int .i64, .int .i64, .int .u64, .int .u64] mb db]⟩, 2 => some (.a ra ma da rb mb db na nb i)
  | _, _, _, _ => none
theorem mqaDec_ok (vs : List AV) (H : Heap) (N : Nat) (y : MqaS) (h : mqaDec vs H N = some y) : vs = mqaT y ∧ (mqaH y).sub H ∧ N = mqaN y := by
  unfold mqaDec at h
  split at h
  all_goals first
    | (cases h; done)
    | (cases h; refine ⟨rfl, ?_, rfl⟩; repeat (first | exact sub_nil | refine sub_cons (by assumption) ?_))
def mqaO : MqaE → Out
  | .fine _ _ _ _ _ _ => .exit 0
  | .bad _ _ _ _ _ _ => .ret
def mqaV : MqaE → List AV
  | .fine _ _ _ _ _ _ => [.any]
  | .bad _ _ _ _ _ _ => [.bool false]
def mqaG : MqaE → Heap
  | .fine ra ma da rb mb db => [(0, ⟨ra, [.arr [.int .i64, .int .i64, .int .i64, .int .u64, .int .u64] ma da]⟩), (1, ⟨rb, [.arr [.int .i64, .int .i64, .int .i64, .int .u64, .int .u64] mb db]⟩)]
  | .bad ra ma da rb mb db => [(0, ⟨ra, [.arr [.int .i64, .int .i64, .int .i64, .int .u64, .int .u64] ma da]⟩), (1, ⟨rb, [.arr [.int .i64, .int .i64, .int .i64, .int .u64, .int .u64] mb db]⟩)]
def mqaM : MqaE → Nat
  | .fine _ _ _ _ _ _ => 2
  | .bad _ _ _ _ _ _ => 2
def mqaDecE (o : Out) (vs : List AV) (H : Heap) (N : Nat) : Option MqaE := match o, vs, H.find 0, H.find 1, N with
  | .exit 0, [.any], some ⟨ra, [.arr [.int .i64, .int .i64, .int .i64, .int .u64, .int .u64] ma da]⟩, some ⟨rb, [.arr [.int .i64, .int .i64, .int .i64, .int .u64, .int .u64] mb db]⟩, 2 => some (.fine ra ma da rb mb db)
  | .ret, [.bool false], some ⟨ra, [.arr [.int .i64, .int .i64, .int .i64, .int .u64, .int .u64] ma da]⟩, some ⟨rb, [.arr [.int .i64, .int .i64, .int .i64, .int .u64, .int .u64] mb db]⟩, 2 => some (.bad ra ma da rb mb db)
  | _, _, _, _, _ => none
theorem mqaDecE_ok (o : Out) (vs : List AV) (H : Heap) (N : Nat) (z : MqaE) (h : mqaDecE o vs H N = some z) : o = mqaO z ∧ o ≠ .normal ∧ vs = mqaV z ∧ (mqaG z).sub H ∧ N = mqaM z := by
  unfold mqaDecE at h
  split at h
  all_goals first
    | (cases h; done)
    | (cases h; refine ⟨rfl, nofun, rfl, ?_, rfl⟩; repeat (first | exact sub_nil | refine sub_cons (by assumption) ?_))
noncomputable def mqaStep : MqaS → Option (MqaS ⊕ MqaE)
 | .a ra ma da rb mb db na nb i =>
 (cond (i.slt (BitVec.ofNat 64 na))
 (cond (nonneg IntKind.i64 i && decide (i.toNat < na))
 (cond (decide (0 + i.toNat < ma))
 (cond (nonneg IntKind.i64 i && decide (i.toNat < nb))
 (cond (decide (0 + i.toNat < mb))
 (cond (!(asI64 ((da.getD (0 + i.toNat) []).headD AV.any) == asI64 ((db.getD (0 + i.toNat) []).headD AV.any) && (asI64 ((da.getD (0 + i.toNat) []).tail.headD AV.any) == asI64 ((db.getD (0 + i.toNat) []).tail.headD AV.any) && (asI64 ((da.getD (0 + i.toNat) []).tail.tail.headD AV.any) == asI64 ((db.getD (0 + i.toNat) []).tail.tail.headD AV.any) && (asU64 ((da.getD (0 + i.toNat) []).tail.tail.tail.headD AV.any) == asU64 ((db.getD (0 + i.toNat) []).tail.tail.tail.headD AV.any) && (asU64 ((da.getD (0 + i.toNat) []).tail.tail.tail.tail.headD AV.any) == asU64 ((db.getD (0 + i.toNat) []).tail.tail.tail.tail.headD AV.any) && true))))))
 (some (Sum.inr (MqaE.bad ra ma da rb mb db)))
 (some (Sum.inl (MqaS.a ra ma da rb mb db na nb (i + 1#64)))))
     none)
    none)
   none)
  none)
 (some (Sum.inr (MqaE.fine ra ma da rb mb db))))

/-! ### accesses written over -/
inductive MqsS where
  | a (ma : Nat) (da : List (List AV)) (na : Nat) (i : BitVec 64)
inductive MqsE where
  | fine (ma : Nat) (da : List (List AV))
def mqsT : MqsS → List AV
  | .a _ _ na i => [.slice ⟨0, 0, 0, 5, 0⟩ 5 na, .int .i64 i]
def mqsH : MqsS → Heap
  | .a ma da _ _ => [(0, ⟨true, [.arr [.int .i64, .int .i64, .int .i64, .int .u64, .int .u64] ma da]⟩)]
def mqsN : MqsS → Nat
  | .a _ _ _ _ => 1
def mqsDec (vs : List AV) (H : Heap) (N : Nat) : Option MqsS := match vs, H.find 0, N with
  | [.slice ⟨0, 0, 0, 5, 0⟩ 5 na, .int .i64 i], some ⟨true, [.arr [.int .i64, .int .i64, .int .i64, .int .u64, .int .u64] ma da]⟩, 1 => some (.a ma da na i)
  | _, _, _ => none
theorem mqsDec_ok (vs : List AV) (H : Heap) (N : Nat) (y : MqsS) (h : mqsDec vs H N = some y) : vs = mqsT y ∧ (mqsH y).sub H ∧ N = mqsN y := by
  unfold mqsDec at h
  split at h
  all_goals first
    | (cases h; done)
    | (cases h; refine ⟨rfl, ?_, rfl⟩; repeat (first | exact sub_nil | refine sub_cons (by assumption) ?_))
def mqsO : MqsE → Out
  | .fine _ _ => .exit 0
def mqsV : MqsE → List AV
  | .fine _ _ => []
def mqsG : MqsE → Heap
  | .fine ma da => [(0, ⟨true, [.arr [.int .i64, .int .i64, .int .i64, .int .u64, .int .u64] ma da]⟩)]
def mqsM : MqsE → Nat
  | .fine _ _ => 1
def mqsDecE (o : Out) (vs : List AV) (H : Heap) (N : Nat) : Option MqsE := match o, vs, H.find 0, N with
  | .exit 0, [], some ⟨true, [.arr [.int .i64, .int .i64, .int .i64, .int .u64, .int .u64] ma da]⟩, 1 => some (.fine ma da)
  | _, _, _, _ => none
theorem mqsDecE_ok (o : Out) (vs : List AV) (H : Heap) (N : Nat) (z : MqsE) (h : mqsDecE o vs H N = some z) : o = mqsO z ∧ o ≠ .normal ∧ vs = mqsV z ∧ (mqsG z).sub H ∧ N = mqsM z := by
  unfold mqsDecE at h
  split at h
  all_goals first
    | (cases h; done)
    | (cases h; refine ⟨rfl, nofun, rfl, ?_, rfl⟩; repeat (first | exact sub_nil | refine sub_cons (by assumption) ?_))
noncomputable def mqsStep : MqsS → Option (MqsS ⊕ MqsE)
 | .a ma da na i =>
 (cond (i.slt (BitVec.ofNat 64 na))
 (cond (nonneg IntKind.i64 i && decide (i.toNat < na))
 (cond (decide (0 + i.toNat < ma) && decide (0 + i.toNat < da.length))
 (some (Sum.inl (MqsS.a ma (da.set (0 + i.toNat) [AV.int IntKind.i64 (70#64 + (i + 7#64)), AV.int IntKind.i64 0#64, AV.int IntKind.i64 9#64, AV.int IntKind.u64 0#64, AV.int IntKind.u64 0#64]) na (i + 1#64))))
   none)
  none)
 (some (Sum.inr (MqsE.fine ma da))))
end Go.Sx

/- Lists of accesses: held against one another, written over. -/
namespace Go.Sx
open Go
def acEq (r s : List AV) : Bool := asI64 (r.headD AV.any) == asI64 (s.headD AV.any) && (asI64 (r.tail.headD AV.any) == asI64 (s.tail.headD AV.any) && (asI64 (r.tail.tail.headD AV.any) == asI64 (s.tail.tail.headD AV.any) && (asU64 (r.tail.tail.tail.headD AV.any) == asU64 (s.tail.tail.tail.headD AV.any) && (asU64 (r.tail.tail.tail.tail.headD AV.any) == asU64 (s.tail.tail.tail.tail.headD AV.any) && true))))
theorem acEq_self (r : List AV) : acEq r r = true := by unfold acEq; simp only [beq_self_eq_true, Bool.and_self]
def g_qa (ma : Nat) (da : List (List AV)) (mb : Nat) (db : List (List AV)) (na nb : Nat) (i : BitVec 64) : Bool := Nat.beq nb na && (Nat.ble na ma && (Nat.ble na mb && (Nat.blt na 9223372036854775808 && ((List.range na).all (fun j => acEq (da.getD j []) (db.getD j [])) && i == 0#64))))
theorem mqa_rn (ra : Bool) (ma : Nat) (da : List (List AV)) (rb : Bool) (mb : Nat) (db : List (List AV)) (n : Nat) (h1 : n ≤ ma) (h2 : n ≤ mb) (h3 : n < 2 ^ 63) (hq : ∀ j, j < n → acEq (da.getD j []) (db.getD j []) = true) :
    ∀ (k : Nat) (i : BitVec 64), n - i.toNat = k → i.toNat ≤ n → Rn mqaStep (.a ra ma da rb mb db n n i) (.fine ra ma da rb mb db) := by
  intro k
  induction k with
  | zero =>
    intro i hk hi
    refine .last ?_
    simp only [mqaStep]
    rw [slt_len (show i.toNat < 2 ^ 63 by omega) h3, decide_eq_false (by omega)]; rfl
  | succ k ih =>
    intro i hk hi
    have hinc := inc_nat (show i.toNat < 2 ^ 63 by omega)
    refine .next ?_ (ih (i + 1#64) (by omega) (by omega))
    have hr := hq i.toNat (by omega)
    unfold acEq at hr
    simp only [mqaStep]
    rw [slt_len (show i.toNat < 2 ^ 63 by omega) h3, Nat.zero_add, decide_eq_true (show i.toNat < n by omega), nonneg_lt (by omega), decide_eq_true (show i.toNat < ma by omega), decide_eq_true (show i.toNat < mb by omega), hr]; rfl
noncomputable def mqaCps : Cps MqaS := fun R x K => match x with
  | .a ra ma da rb mb db na nb i => cond (g_qa ma da mb db na nb i) (K (.exit 0) (tmOf [4] [.any]) [(0, ⟨ra, [.arr [.int .i64, .int .i64, .int .i64, .int .u64, .int .u64] ma da]⟩), (1, ⟨rb, [.arr [.int .i64, .int .i64, .int .i64, .int .u64, .int .u64] mb db]⟩)] 2) none
theorem mqaCps_ok (R : Type) (x : MqaS) (K : Out → TM → Heap → Nat → Option R) (r : R) (h : mqaCps R x K = some r) : ∃ z, Rn mqaStep x z ∧ K (mqaO z) (tmOf [4] (mqaV z)) (mqaG z) (mqaM z) = some r := by
  cases x with
  | a ra ma da rb mb db na nb i =>
    obtain ⟨hg, hk⟩ := condK h
    unfold g_qa at hg
    simp only [Bool.and_eq_true, beq_iff_eq] at hg
    obtain ⟨h0, h1, h2, h3, h4, rfl⟩ := hg
    have h0 := Nat.eq_of_beq_eq_true h0
    subst h0
    rw [List.all_eq_true] at h4
    exact ⟨_, mqa_rn ra ma da rb mb db _ (Nat.le_of_ble_eq_true h1) (Nat.le_of_ble_eq_true h2) (Nat.le_of_ble_eq_true h3) (fun j hj => h4 j (List.mem_range.2 hj)) _ 0#64 rfl (by simp), hk⟩
def spRow (i : BitVec 64) : List AV := [AV.int IntKind.i64 (70#64 + (i + 7#64)), AV.int IntKind.i64 0#64, AV.int IntKind.i64 9#64, AV.int IntKind.u64 0#64, AV.int IntKind.u64 0#64]
def v_sp (da : List (List AV)) (j f : Nat) : List (List AV) := (List.range' j f).foldl (fun d j => d.set j (spRow (BitVec.ofNat 64 j))) da
def g_qs (ma : Nat) (da : List (List AV)) (na : Nat) (i : BitVec 64) : Bool := Nat.ble na da.length && (Nat.ble na ma && (Nat.blt na 9223372036854775808 && i == 0#64))
theorem mqs_rn (ma na : Nat) (h1 : na ≤ ma) (h3 : na < 2 ^ 63) : ∀ (k : Nat) (da : List (List AV)) (i : BitVec 64), na ≤ da.length → na - i.toNat = k → i.toNat ≤ na → Rn mqsStep (.a ma da na i) (.fine ma (v_sp da i.toNat (na - i.toNat))) := by
  intro k
  induction k with
  | zero =>
    intro da i hd hk hi
    rw [hk]
    refine .last ?_
    simp only [mqsStep]
    rw [slt_len (show i.toNat < 2 ^ 63 by omega) h3, decide_eq_false (by omega)]; rfl
  | succ k ih =>
    intro da i hd hk hi
    have hinc := inc_nat (show i.toNat < 2 ^ 63 by omega)
    have ei : BitVec.ofNat 64 i.toNat = i := by simp
    have e : v_sp da i.toNat (na - i.toNat) = v_sp (da.set i.toNat (spRow i)) (i + 1#64).toNat (na - (i + 1#64).toNat) := by
      unfold v_sp
      rw [hinc, show na - i.toNat = (na - (i.toNat + 1)) + 1 by omega, List.range'_succ, List.foldl_cons, ei]
    rw [e]
    refine .next ?_ (ih _ (i + 1#64) (by rw [List.length_set]; exact hd) (by omega) (by omega))
    simp only [mqsStep]
    rw [slt_len (show i.toNat < 2 ^ 63 by omega) h3, Nat.zero_add, decide_eq_true (show i.toNat < na by omega), nonneg_lt (by omega), decide_eq_true (show i.toNat < ma by omega), decide_eq_true (show i.toNat < da.length by omega)]; rfl
noncomputable def mqsCps : Cps MqsS := fun R x K => match x with
  | .a ma da na i => cond (g_qs ma da na i) (K (.exit 0) (tmOf [] []) [(0, ⟨true, [.arr [.int .i64, .int .i64, .int .i64, .int .u64, .int .u64] ma (v_sp da 0 na)]⟩)] 1) none
theorem mqsCps_ok (R : Type) (x : MqsS) (K : Out → TM → Heap → Nat → Option R) (r : R) (h : mqsCps R x K = some r) : ∃ z, Rn mqsStep x z ∧ K (mqsO z) (tmOf [] (mqsV z)) (mqsG z) (mqsM z) = some r := by
  cases x with
  | a ma da na i =>
    obtain ⟨hg, hk⟩ := condK h
    unfold g_qs at hg
    simp only [Bool.and_eq_true, beq_iff_eq] at hg
    obtain ⟨h0, h1, h2, rfl⟩ := hg
    exact ⟨_, mqs_rn ma na (Nat.le_of_ble_eq_true h1) (Nat.le_of_ble_eq_true h2) _ da 0#64 (Nat.le_of_ble_eq_true h0) rfl (by simp), hk⟩
end Go.Sx


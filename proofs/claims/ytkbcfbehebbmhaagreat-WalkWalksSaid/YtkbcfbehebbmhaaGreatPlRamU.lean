/- Several texts in one. -/
import Derived.Test.YtkbcfbehebbmhaaGreatSxX
import Derived.Test.YtkbcfbehebbmhaaGreatSxLen2
import Derived.Test.YtkbcfbehebbmhaaGreatSxEC
import Derived.Test.YtkbcfbehebbmhaaGreatVa03
import Derived.Test.YtkbcfbehebbmhaaGreatPlN
set_option linter.unusedSimpArgs false
set_option linter.unusedVariables false
set_option linter.unnecessarySimpa false
/- What loops do, round by round. -/
namespace Go.Sx
open Go

/-! ### lists, one by one -/
inductive MslS where
  | a (ra : Bool) (ma : Nat) (da : List (List AV)) (rb : Bool) (mb : Nat) (db : List (List AV)) (na : Nat) (nb : Nat) (i : BitVec 64)
inductive MslE where
  | fine (ra : Bool) (ma : Nat) (da : List (List AV)) (rb : Bool) (mb : Nat) (db : List (List AV))
  | bad (ra : Bool) (ma : Nat) (da : List (List AV)) (rb : Bool) (mb : Nat) (db : List (List AV))
def mslT : MslS → List AV
  | .a _ _ _ _ _ _ na nb i => [.slice ⟨0, 0, 0, 1, 0⟩ 1 na, .slice ⟨1, 0, 0, 1, 0⟩ 1 nb, .int .i64 i]
def mslH : MslS → Heap
  | .a ra ma da rb mb db _ _ _ => [(0, ⟨ra, [.arr [.int .i64] ma da]⟩), (1, ⟨rb, [.arr [.int .i64] mb db]⟩)]
def mslN : MslS → Nat
  | .a _ _ _ _ _ _ _ _ _ => 2
def mslDec (vs : List AV) (H : Heap) (N : Nat) : Option MslS := match vs, H.find 0, H.find 1, N with
  | [.slice ⟨0, 0, 0, 1, 0⟩ 1 na, .slice ⟨1, 0, 0, 1, 0⟩ 1 nb, .int .i64 i], some ⟨ra, [.arr [.int .i64] ma da]⟩, some ⟨rb, [.arr [.int .i64] mb db]⟩, 2 => some (.a ra ma da rb mb db na nb i)
  | _, _, _, _ => none
theorem mslDec_ok (vs : List AV) (H : Heap) (N : Nat) (y : MslS) (h : mslDec vs H N = some y) : vs = mslT y ∧ (mslH y).sub H ∧ N = mslN y := by
  unfold mslDec at h
  split at h
  all_goals first
    | (cases h; done)
    | (cases h; refine ⟨rfl, ?_, rfl⟩; repeat (first | exact sub_nil | refine sub_cons (by assumption) ?_))
def mslO : MslE → Out
  | .fine _ _ _ _ _ _ => .exit 0
  | .bad _ _ _ _ _ _ => .ret
def mslV : MslE → List AV
  | .fine _ _ _ _ _ _ => [.any]
  | .bad _ _ _ _ _ _ => [.bool false]
def mslG : MslE → Heap
  | .fine ra ma da rb mb db => [(0, ⟨ra, [.arr [.int .i64] ma da]⟩), (1, ⟨rb, [.arr [.int .i64] mb db]⟩)]
  | .bad ra ma da rb mb db => [(0, ⟨ra, [.arr [.int .i64] ma da]⟩), (1, ⟨rb, [.arr [.int .i64] mb db]⟩)]
def mslM : MslE → Nat
  | .fine _ _ _ _ _ _ => 2
  | .bad _ _ _ _ _ _ => 2
def mslDecE (o : Out) (vs : List AV) (H : Heap) (N : Nat) : Option MslE := match o, vs, H.find 0, H.find 1, N with
  | .exit 0, [.any], some ⟨ra, [.arr [.int .i64] ma da]⟩, some ⟨rb, [.arr [.int .i64] mb db]⟩, 2 => some (.fine ra ma da rb mb db)
  | .ret, [.bool false], some ⟨ra, [.arr [.int .i64] ma da]⟩, some ⟨rb, [.arr [.int .i64] mb db]⟩, 2 => some (.bad ra ma da rb mb db)
  | _, _, _, _, _ => none
theorem mslDecE_ok (o : Out) (vs : List AV) (H : Heap) (N : Nat) (z : MslE) (h : mslDecE o vs H N = some z) : o = mslO z ∧ o ≠ .normal ∧ vs = mslV z ∧ (mslG z).sub H ∧ N = mslM z := by
  unfold mslDecE at h
  split at h
  all_goals first
    | (cases h; done)
    | (cases h; refine ⟨rfl, nofun, rfl, ?_, rfl⟩; repeat (first | exact sub_nil | refine sub_cons (by assumption) ?_))
noncomputable def mslStep : MslS → Option (MslS ⊕ MslE)
 | .a ra ma da rb mb db na nb i =>
 (cond (i.slt (BitVec.ofNat 64 na))
 (cond (nonneg IntKind.i64 i && decide (i.toNat < na))
 (cond (decide (0 + i.toNat < ma))
 (cond (nonneg IntKind.i64 i && decide (i.toNat < nb))
 (cond (decide (0 + i.toNat < mb))
 (cond (!asI64 ((da.getD (0 + i.toNat) []).headD AV.any) == asI64 ((db.getD (0 + i.toNat) []).headD AV.any))
 (some (Sum.inr (MslE.bad ra ma da rb mb db)))
 (some (Sum.inl (MslS.a ra ma da rb mb db na nb (i + 1#64)))))
     none)
    none)
   none)
  none)
 (some (Sum.inr (MslE.fine ra ma da rb mb db))))
end Go.Sx

/- Lists held against one another, one by one. -/
namespace Go.Sx
open Go
def cI (d : List (List AV)) (j : Nat) : BitVec 64 := asI64 ((d.getD j []).headD .any)
/-- Are so many numbers the same, from one on? -/
def eqI (a b : List (List AV)) (i k : Nat) : Bool := (List.range' i k).all fun j => cI a j == cI b j
theorem eqI_succ (a b : List (List AV)) (i k : Nat) : eqI a b i (k + 1) = ((cI a i == cI b i) && eqI a b (i + 1) k) := by
  simp [eqI, List.range'_succ]
def v_eqI (a b : List (List AV)) (n : Nat) : Bool := eqI a b 0 n
def g_sl (na ma nb mb : Nat) : Bool := Nat.ble na ma && (Nat.ble na mb && (Nat.beq nb na && Nat.blt na 9223372036854775808))
theorem g_sl_iff {na ma nb mb : Nat} : g_sl na ma nb mb = true ↔ na ≤ ma ∧ na ≤ mb ∧ nb = na ∧ na < 2 ^ 63 := by
  simp only [g_sl, Bool.and_eq_true, beq_true, Nat.ble_eq, Nat.blt_eq]
theorem msl_rn (ra : Bool) (ma : Nat) (da : List (List AV)) (rb : Bool) (mb : Nat) (db : List (List AV)) (n : Nat) (h1 : n ≤ ma) (h2 : n ≤ mb) (h3 : n < 2 ^ 63) : ∀ (k i : Nat), n - i = k → i ≤ n →
    Rn mslStep (.a ra ma da rb mb db n n (BitVec.ofNat 64 i)) (cond (eqI da db i k) (.fine ra ma da rb mb db) (.bad ra ma da rb mb db)) := by
  intro k
  induction k with
  | zero =>
    intro i hk hi
    have e : i = n := by omega
    subst e
    refine .last ?_
    simp only [mslStep]
    have hi2 : (BitVec.ofNat 64 i).toNat = i := ofNat_toNat (by omega)
    rw [slt_nat (by omega) (by omega), decide_eq_false (by omega)]; rfl
  | succ k ih =>
    intro i hk hi
    have hi2 : (BitVec.ofNat 64 i).toNat = i := ofNat_toNat (by omega)
    have e : BitVec.ofNat 64 i + 1#64 = BitVec.ofNat 64 (i + 1) := by
      apply BitVec.eq_of_toNat_eq; rw [inc_nat (by omega), hi2, ofNat_toNat (by omega)]
    have hs : mslStep (.a ra ma da rb mb db n n (BitVec.ofNat 64 i)) = cond (cI da i == cI db i) (some (.inl (.a ra ma da rb mb db n n (BitVec.ofNat 64 (i + 1))))) (some (.inr (.bad ra ma da rb mb db))) := by
      simp only [mslStep]
      rw [slt_len (by omega) h3, nonneg_lt (by omega), hi2, e]
      rw [decide_eq_true (show i < n by omega), decide_eq_true (show 0 + i < ma by omega), decide_eq_true (show 0 + i < mb by omega)]
      simp only [Bool.and_true, cond_true, Nat.zero_add]
      show cond (!(cI da i == cI db i)) _ _ = _
      cases (cI da i == cI db i) <;> rfl
    rw [eqI_succ]
    cases hc : (cI da i == cI db i) with
    | true => rw [hc] at hs; exact .next hs (ih (i + 1) (by omega) (by omega))
    | false => rw [hc] at hs; exact .last hs
def mslCps : Cps MslS := fun R x K => match x with
  | .a ra ma da rb mb db na nb i => cond (g_sl na ma nb mb && i == 0#64) (cond (v_eqI da db na)
      (K (.exit 0) (tmOf [4] [.any]) [(0, ⟨ra, [.arr [.int .i64] ma da]⟩), (1, ⟨rb, [.arr [.int .i64] mb db]⟩)] 2)
      (K .ret (tmOf [4] [.bool false]) [(0, ⟨ra, [.arr [.int .i64] ma da]⟩), (1, ⟨rb, [.arr [.int .i64] mb db]⟩)] 2)) none
theorem mslCps_ok (R : Type) (x : MslS) (K : Out → TM → Heap → Nat → Option R) (r : R) (h : mslCps R x K = some r) : ∃ z, Rn mslStep x z ∧ K (mslO z) (tmOf [4] (mslV z)) (mslG z) (mslM z) = some r := by
  cases x with
  | a ra ma da rb mb db na nb i =>
    unfold mslCps at h
    dsimp only at h
    cases hg : (g_sl na ma nb mb && i == 0#64) with
    | false => rw [hg] at h; simp at h
    | true =>
      rw [hg, cond_true] at h
      simp only [Bool.and_eq_true, beq_iff_eq] at hg
      obtain ⟨hg, rfl⟩ := hg
      obtain ⟨h1, h2, rfl, h3⟩ := g_sl_iff.1 hg
      have hr := msl_rn ra ma da rb mb db nb h1 h2 h3 nb 0 rfl (by omega)
      refine ⟨_, hr, ?_⟩
      unfold v_eqI at h
      cases he : eqI da db 0 nb with
      | true => rw [he] at h; exact h
      | false => rw [he] at h; exact h
end Go.Sx

/- What loops do, round by round. -/
namespace Go.Sx
open Go

/-! ### are lists the same? -/
inductive MsiS where
  | nn 
  | rn (ra : Bool) (ma : Nat) (da : List (List AV)) (na : Nat)
  | nr (ra : Bool) (ma : Nat) (da : List (List AV)) (na : Nat)
  | rr (ra : Bool) (ma : Nat) (da : List (List AV)) (na : Nat) (rb : Bool) (mb : Nat) (db : List (List AV)) (nb : Nat)
inductive MsiR where
  | n (r : Bool)
  | o (r : Bool) (ra : Bool) (ma : Nat) (da : List (List AV))
  | t (r : Bool) (ra : Bool) (ma : Nat) (da : List (List AV)) (rb : Bool) (mb : Nat) (db : List (List AV))
def msiA : MsiS → List AV
  | .nn => [.nilslice, .nilslice]
  | .rn _ _ _ na => [.slice ⟨0, 0, 0, 1, 0⟩ 1 na, .nilslice]
  | .nr _ _ _ na => [.nilslice, .slice ⟨0, 0, 0, 1, 0⟩ 1 na]
  | .rr _ _ _ na _ _ _ nb => [.slice ⟨0, 0, 0, 1, 0⟩ 1 na, .slice ⟨1, 0, 0, 1, 0⟩ 1 nb]
def msiH : MsiS → Heap
  | .nn => []
  | .rn ra ma da _ => [(0, ⟨ra, [.arr [.int .i64] ma da]⟩)]
  | .nr ra ma da _ => [(0, ⟨ra, [.arr [.int .i64] ma da]⟩)]
  | .rr ra ma da _ rb mb db _ => [(0, ⟨ra, [.arr [.int .i64] ma da]⟩), (1, ⟨rb, [.arr [.int .i64] mb db]⟩)]
def msiDec (args : List AV) (H : Heap) : Option MsiS := match args, H with
  | [.nilslice, .nilslice], [] => some (.nn)
  | [.slice ⟨0, 0, 0, 1, 0⟩ 1 na, .nilslice], [(0, ⟨ra, [.arr [.int .i64] ma da]⟩)] => some (.rn ra ma da na)
  | [.nilslice, .slice ⟨0, 0, 0, 1, 0⟩ 1 na], [(0, ⟨ra, [.arr [.int .i64] ma da]⟩)] => some (.nr ra ma da na)
  | [.slice ⟨0, 0, 0, 1, 0⟩ 1 na, .slice ⟨1, 0, 0, 1, 0⟩ 1 nb], [(0, ⟨ra, [.arr [.int .i64] ma da]⟩), (1, ⟨rb, [.arr [.int .i64] mb db]⟩)] => some (.rr ra ma da na rb mb db nb)
  | _, _ => none
theorem msiDec_ok (args : List AV) (H : Heap) (x : MsiS) (h : msiDec args H = some x) : args = msiA x ∧ H = msiH x := by
  unfold msiDec at h
  split at h
  all_goals first
    | (cases h; done)
    | (cases h; exact ⟨rfl, rfl⟩)
def msiU : MsiR → AV × Eff × Nat
  | .n r => (.bool r, [], 0)
  | .o r ra ma da => (.bool r, [(0, some ⟨ra, [.arr [.int .i64] ma da]⟩)], 1)
  | .t r ra ma da rb mb db => (.bool r, [(1, some ⟨rb, [.arr [.int .i64] mb db]⟩), (0, some ⟨ra, [.arr [.int .i64] ma da]⟩)], 2)
def msiDecR (v : AV) (e : Eff) (k : Nat) : Option MsiR := match v, e, k with
  | .bool r, [], 0 => some (.n r)
  | .bool r, [(0, some ⟨ra, [.arr [.int .i64] ma da]⟩)], 1 => some (.o r ra ma da)
  | .bool r, [(1, some ⟨rb, [.arr [.int .i64] mb db]⟩), (0, some ⟨ra, [.arr [.int .i64] ma da]⟩)], 2 => some (.t r ra ma da rb mb db)
  | _, _, _ => none
theorem msiDecR_ok (v : AV) (e : Eff) (k : Nat) (z : MsiR) (h : msiDecR v e k = some z) : (v, e, k) = msiU z := by
  unfold msiDecR at h
  split at h
  all_goals first
    | (cases h; done)
    | (cases h; rfl)
noncomputable def msiStep : MsiS → Option MsiR
 | .nn =>
 (some (MsiR.n true))
 | .rn ra ma da na =>
 (cond (!BitVec.ofNat 64 na == 0#64)
 (some (MsiR.o false ra ma da))
 (cond ((0#64).slt (BitVec.ofNat 64 na))
 (cond (true && decide (0 < na))
 (cond (decide (0 < ma))
    none
    none)
   none)
 (some (MsiR.o true ra ma da))))
 | .nr ra ma da na =>
 (cond (!0#64 == BitVec.ofNat 64 na)
 (some (MsiR.o false ra ma da))
 (some (MsiR.o true ra ma da)))
 | .rr ra ma da na rb mb db nb =>
 (cond (!BitVec.ofNat 64 na == BitVec.ofNat 64 nb)
 (some (MsiR.t false ra ma da rb mb db))
 (cond (g_sl na ma nb mb && true)
 (cond (v_eqI da db na)
 (some (MsiR.t true ra ma da rb mb db))
 (some (MsiR.t false ra ma da rb mb db)))
  none))
end Go.Sx

/- Lists held against one another, as an answer. -/
namespace Go.Sx
open Go
theorem condE {R : Type} {c : Bool} {x : Option R} {r : R} (h : cond c x none = some r) : c = true ∧ x = some r := by
  cases c with
  | false => simp at h
  | true => exact ⟨rfl, h⟩
def g_ss (na ma nb mb : Nat) : Bool := Nat.ble na ma && (Nat.ble nb mb && (Nat.blt na 9223372036854775808 && Nat.blt nb 9223372036854775808))
theorem g_ss_iff {na ma nb mb : Nat} : g_ss na ma nb mb = true ↔ na ≤ ma ∧ nb ≤ mb ∧ na < 2 ^ 63 ∧ nb < 2 ^ 63 := by
  simp only [g_ss, Bool.and_eq_true, Nat.ble_eq, Nat.blt_eq]
def v_same (da db : List (List AV)) (na nb : Nat) : Bool := Nat.beq na nb && v_eqI da db na
theorem ofNat_beq {a b : Nat} (ha : a < 2 ^ 63) (hb : b < 2 ^ 63) : (BitVec.ofNat 64 a == BitVec.ofNat 64 b) = Nat.beq a b := by
  rw [Bool.eq_iff_iff, beq_iff_eq, beq_true]
  constructor
  · intro h
    have := congrArg BitVec.toNat h
    rwa [ofNat_toNat (by omega), ofNat_toNat (by omega)] at this
  · intro h; rw [h]
def msiCps : ECps MsiS MsiR := fun R x K => match x with
  | .nn => K (.n true)
  | .rn ra ma da na => cond (Nat.blt na 9223372036854775808) (K (.o (Nat.beq na 0) ra ma da)) none
  | .nr ra ma da na => cond (Nat.blt na 9223372036854775808) (K (.o (Nat.beq na 0) ra ma da)) none
  | .rr ra ma da na rb mb db nb => cond (g_ss na ma nb mb) (K (.t (v_same da db na nb) ra ma da rb mb db)) none
theorem msiCps_ok : ECok msiStep msiCps := by
  intro R x K r h
  cases x with
  | nn => exact ⟨_, rfl, h⟩
  | rn ra ma da na =>
    obtain ⟨hg, hk⟩ := condE h
    rw [Nat.blt_eq] at hg
    refine ⟨_, ?_, hk⟩
    have e := ofNat_beq (a := na) (b := 0) hg (by decide)
    simp only [msiStep]
    rw [slt_len (by decide) hg]
    have e' : (BitVec.ofNat 64 na == 0#64) = Nat.beq na 0 := e
    rw [e']
    cases na with
    | zero => rfl
    | succ n => rfl
  | nr ra ma da na =>
    obtain ⟨hg, hk⟩ := condE h
    rw [Nat.blt_eq] at hg
    refine ⟨_, ?_, hk⟩
    have e : (0#64 == BitVec.ofNat 64 na) = Nat.beq 0 na := ofNat_beq (a := 0) (b := na) (by decide) hg
    simp only [msiStep]
    rw [e]
    cases na with
    | zero => rfl
    | succ n => rfl
  | rr ra ma da na rb mb db nb =>
    obtain ⟨hg, hk⟩ := condE h
    obtain ⟨h1, h2, h3, h4⟩ := g_ss_iff.1 hg
    refine ⟨_, ?_, hk⟩
    simp only [msiStep]
    rw [ofNat_beq h3 h4]
    unfold v_same
    cases hb : Nat.beq na nb with
    | false => rfl
    | true =>
      have e := beq_true.1 hb
      subst e
      have g1 : g_sl na ma na mb = true := g_sl_iff.2 ⟨h1, h2, rfl, h3⟩
      rw [g1]
      cases v_eqI da db na <;> rfl
end Go.Sx


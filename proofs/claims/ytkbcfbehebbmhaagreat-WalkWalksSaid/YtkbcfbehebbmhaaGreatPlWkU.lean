/- Several texts in one. -/
import Derived.Test.YtkbcfbehebbmhaaGreatSxX
import Derived.Test.YtkbcfbehebbmhaaGreatSxLen2
import Derived.Test.YtkbcfbehebbmhaaGreatSxEC
import Derived.Test.YtkbcfbehebbmhaaGreatVa03
import Derived.Test.YtkbcfbehebbmhaaGreatPlBusB3
import Derived.Test.YtkbcfbehebbmhaaGreatPlBusX2
import Derived.Test.YtkbcfbehebbmhaaGreatPlWkT
import Derived.Test.YtkbcfbehebbmhaaGreatPlWkX
set_option linter.unusedSimpArgs false
set_option linter.unusedVariables false
set_option linter.unnecessarySimpa false
/- What loops do, round by round. -/
namespace Go.Sx
open Go

/-! ### Bytes -/
inductive MwtS where
  | a (n : Nat) (tg : List (List AV)) (m : Nat) (d : List (List AV)) (nx : Nat) (t : Nat) (mx : Nat) (dx : List (List AV)) (mt : Nat) (T : List (List AV)) (i : BitVec 64)
inductive MwtE where
  | fine 
def mwtT : MwtS → List AV
  | .a _ _ _ _ _ _ _ _ _ _ i => [.ptr ⟨0, 0, 0, 0, 0⟩, .ptr ⟨7, 0, 0, 0, 0⟩, .int .i64 i]
def mwtH : MwtS → Heap
  | .a n tg m d nx t mx dx mt T _ => [(0, bus0), (1, ⟨true, [.cell (.slice ⟨2, 0, 0, 1, 0⟩ 1 n), .arr [.int .u64] 64 tg]⟩), (2, ⟨true, [.arr [.int .u8] m d]⟩), (7, xbus7), (8, ⟨true, [.cell (.slice ⟨9, 0, 0, 1, 0⟩ 1 nx), .cell (.slice ⟨10, 0, 0, 1, 0⟩ 1 t)]⟩), (9, ⟨true, [.arr [.int .u8] mx dx]⟩), (10, ⟨true, [.arr [.bool] mt T]⟩)]
def mwtN : MwtS → Nat
  | .a _ _ _ _ _ _ _ _ _ _ _ => 15
def mwtDec_a (vs : List AV) (H : Heap) (N : Nat) : Option MwtS := match vs, H.find 0, H.find 1, H.find 2, H.find 7, H.find 8, H.find 9, H.find 10, N with
  | [.ptr ⟨0, 0, 0, 0, 0⟩, .ptr ⟨7, 0, 0, 0, 0⟩, .int .i64 i], some b0, some ⟨true, [.cell (.slice ⟨2, 0, 0, 1, 0⟩ 1 n), .arr [.int .u64] 64 tg]⟩, some ⟨true, [.arr [.int .u8] m d]⟩, some b7, some ⟨true, [.cell (.slice ⟨9, 0, 0, 1, 0⟩ 1 nx), .cell (.slice ⟨10, 0, 0, 1, 0⟩ 1 t)]⟩, some ⟨true, [.arr [.int .u8] mx dx]⟩, some ⟨true, [.arr [.bool] mt T]⟩, 15 => (dBus0 b0).bind fun _ => (dXbus7 b7).bind fun _ => some (.a n tg m d nx t mx dx mt T i)
  | _, _, _, _, _, _, _, _, _ => none
theorem mwtDec_a_ok (vs : List AV) (H : Heap) (N : Nat) (y : MwtS) (h : mwtDec_a vs H N = some y) : vs = mwtT y ∧ (mwtH y).sub H ∧ N = mwtN y := by
  unfold mwtDec_a at h
  split at h
  · obtain ⟨u_, e0, h⟩ := Option.bind_eq_some_iff.1 h
    obtain ⟨u_, e7, h⟩ := Option.bind_eq_some_iff.1 h
    obtain rfl := dBus0_ok e0
    obtain rfl := dXbus7_ok e7
    cases h; refine ⟨rfl, ?_, rfl⟩; repeat (first | exact sub_nil | refine sub_cons (by assumption) ?_)
  · cases h
def mwtDec (vs : List AV) (H : Heap) (N : Nat) : Option MwtS := mwtDec_a vs H N
theorem mwtDec_ok (vs : List AV) (H : Heap) (N : Nat) (y : MwtS) (h : mwtDec vs H N = some y) : vs = mwtT y ∧ (mwtH y).sub H ∧ N = mwtN y := mwtDec_a_ok _ _ _ _ h
def mwtO : MwtE → Out
  | .fine => .exit 0
def mwtV : MwtE → List AV
  | .fine => [.any]
def mwtG : MwtE → Heap
  | .fine => []
def mwtM : MwtE → Nat
  | .fine => 15
def mwtDecE (o : Out) (vs : List AV) (H : Heap) (N : Nat) : Option MwtE := match o, vs, N with
  | .exit 0, [.any], 15 => some (.fine)
  | _, _, _ => none
theorem mwtDecE_ok (o : Out) (vs : List AV) (H : Heap) (N : Nat) (z : MwtE) (h : mwtDecE o vs H N = some z) : o = mwtO z ∧ o ≠ .normal ∧ vs = mwtV z ∧ (mwtG z).sub H ∧ N = mwtM z := by
  unfold mwtDecE at h
  split at h
  all_goals first
    | (cases h; done)
    | (cases h; refine ⟨rfl, nofun, rfl, ?_, rfl⟩; repeat (first | exact sub_nil | refine sub_cons (by assumption) ?_))
noncomputable def mwtStep : MwtS → Option (MwtS ⊕ MwtE)
 | .a n tg m d nx t mx dx mt T i =>
 (cond (i.slt (BitVec.ofNat 64 nx))
 (cond (g_ram n tg m d)
 (cond (g_xram nx t mx dx mt T)
 (cond (!v_ok n i 8#64)
    none
 (cond (!v_lV n d i 8#64 == v_xlV nx dx i 8#64)
     none
 (some (Sum.inl (MwtS.a n tg m d nx t mx dx mt T (i + 8#64))))))
   none)
  none)
 (some (Sum.inr MwtE.fine)))
end Go.Sx

/- Bytes: is memory the same? -/
namespace Go.Sx
open Go
def byOk (n : Nat) (d dx : List (List AV)) (j : Nat) : Bool := v_lV n d (BitVec.ofNat 64 (8 * j)) 8#64 == v_xlV n dx (BitVec.ofNat 64 (8 * j)) 8#64
def g_by (n : Nat) (tg : List (List AV)) (m : Nat) (d : List (List AV)) (nx t mx : Nat) (dx : List (List AV)) (mt : Nat) (T : List (List AV)) (i : BitVec 64) : Bool := Nat.beq tg.length 64 && (g_ram n tg m d && (g_xram nx t mx dx mt T && (Nat.beq nx n && (Nat.beq (n % 8) 0 && (i == 0#64 && (List.range (n / 8)).all (byOk n d dx))))))
theorem mwt_rn (n : Nat) (tg : List (List AV)) (m : Nat) (d : List (List AV)) (t mx : Nat) (dx : List (List AV)) (mt : Nat) (T : List (List AV)) (hr : g_ram n tg m d = true) (hx : g_xram n t mx dx mt T = true) (h8 : n % 8 = 0) (hn : n ≤ 65536) (hq : ∀ j, j < n / 8 → byOk n d dx j = true) :
    ∀ (f j : Nat), n / 8 - j = f → j ≤ n / 8 → Rn mwtStep (.a n tg m d n t mx dx mt T (BitVec.ofNat 64 (8 * j))) .fine := by
  intro f
  induction f with
  | zero =>
    intro j hk hi
    have hN : (BitVec.ofNat 64 (8 * j)).toNat = 8 * j := ofNat_toNat (by omega)
    refine .last ?_
    simp only [mwtStep]
    rw [slt_len (by omega) (by omega), hN, decide_eq_false (by omega)]; rfl
  | succ f ih =>
    intro j hk hi
    have hN : (BitVec.ofNat 64 (8 * j)).toNat = 8 * j := ofNat_toNat (by omega)
    have hinc : BitVec.ofNat 64 (8 * j) + 8#64 = BitVec.ofNat 64 (8 * (j + 1)) := by
      apply BitVec.eq_of_toNat_eq
      rw [BitVec.toNat_add, hN, ofNat_toNat (n := 8 * (j + 1)) (by omega), show (8#64).toNat = 8 from rfl]; omega
    refine .next ?_ (ih (j + 1) (by omega) (by omega))
    have hb := hq j (by omega)
    unfold byOk at hb
    have hok : v_ok n (BitVec.ofNat 64 (8 * j)) 8#64 = true := by
      unfold v_ok
      rw [show v_sized 8#64 = true from rfl, Bool.true_and]
      exact (v_in_iff hn (by rw [show (8#64).toNat = 8 from rfl]; omega)).2 (by rw [hN, show (8#64).toNat = 8 from rfl]; omega)
    simp only [mwtStep]
    rw [slt_len (by omega) (by omega), hN, decide_eq_true (by omega), hr, hx, hok, hb, hinc]; rfl
noncomputable def mwtCps : Cps MwtS := fun R x K => match x with
  | .a n tg m d nx t mx dx mt T i => cond (g_by n tg m d nx t mx dx mt T i) (K (.exit 0) (tmOf [2] [.any]) [] 15) none
theorem mwtCps_ok (R : Type) (x : MwtS) (K : Out → TM → Heap → Nat → Option R) (r : R) (h : mwtCps R x K = some r) : ∃ z, Rn mwtStep x z ∧ K (mwtO z) (tmOf [2] (mwtV z)) (mwtG z) (mwtM z) = some r := by
  cases x with
  | a n tg m d nx t mx dx mt T i =>
    obtain ⟨hg, hk⟩ := condK h
    unfold g_by at hg
    simp only [Bool.and_eq_true, beq_iff_eq] at hg
    obtain ⟨_, h1, h2, h3, h4, rfl, h6⟩ := hg
    have h3 := Nat.eq_of_beq_eq_true h3
    have h4 := Nat.eq_of_beq_eq_true h4
    subst h3
    rw [List.all_eq_true] at h6
    have hn : nx ≤ 65536 := (g_ram_iff.1 h1).2.2.2.2
    exact ⟨_, mwt_rn nx tg m d t mx dx mt T h1 h2 h4 hn (fun j hj => h6 j (List.mem_range.2 hj)) _ 0 rfl (by omega), hk⟩
end Go.Sx


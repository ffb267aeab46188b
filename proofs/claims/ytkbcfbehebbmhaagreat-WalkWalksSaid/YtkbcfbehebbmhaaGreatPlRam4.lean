/- Several texts in one. -/
import Derived.Test.YtkbcfbehebbmhaaGreatSxX
import Derived.Test.YtkbcfbehebbmhaaGreatSxLen2
import Derived.Test.YtkbcfbehebbmhaaGreatSxEC
import Derived.Test.YtkbcfbehebbmhaaGreatVa03
import Derived.Test.YtkbcfbehebbmhaaGreatPlRam3
set_option linter.unusedSimpArgs false
set_option linter.unusedVariables false
set_option linter.unnecessarySimpa false
/- What loops do, round by round. -/
namespace Go.Sx
open Go

/-! ### tags, granule by granule -/
inductive MtgS where
  | z (n : Nat) (tg : List (List AV)) (m : Nat) (d : List (List AV)) (i : BitVec 64)
  | s (n : Nat) (tg : List (List AV)) (m : Nat) (d : List (List AV)) (k : Nat) (kk : Nat) (g : List (List AV)) (i : BitVec 64)
inductive MtgE where
  | z (n : Nat) (tg : List (List AV)) (m : Nat) (d : List (List AV))
  | s (n : Nat) (tg : List (List AV)) (m : Nat) (d : List (List AV)) (k : Nat) (kk : Nat) (g : List (List AV))
def mtgT : MtgS → List AV
  | .z _ _ _ _ i => [.ptr ⟨0, 0, 0, 0, 0⟩, .nilslice, .int .i64 i]
  | .s _ _ _ _ k _ _ i => [.ptr ⟨0, 0, 0, 0, 0⟩, .slice ⟨2, 0, 0, 1, 0⟩ 1 k, .int .i64 i]
def mtgH : MtgS → Heap
  | .z n tg m d _ => [(0, ⟨true, [.cell (.slice ⟨1, 0, 0, 1, 0⟩ 1 n), .arr [.int .u64] 64 tg]⟩), (1, ⟨true, [.arr [.int .u8] m d]⟩)]
  | .s n tg m d _ kk g _ => [(0, ⟨true, [.cell (.slice ⟨1, 0, 0, 1, 0⟩ 1 n), .arr [.int .u64] 64 tg]⟩), (1, ⟨true, [.arr [.int .u8] m d]⟩), (2, ⟨true, [.arr [.int .i64] kk g]⟩)]
def mtgN : MtgS → Nat
  | .z _ _ _ _ _ => 2
  | .s _ _ _ _ _ _ _ _ => 3
def mtgDec (vs : List AV) (H : Heap) (N : Nat) : Option MtgS := match vs, H.find 0, H.find 1, H.find 2, N with
  | [.ptr ⟨0, 0, 0, 0, 0⟩, .nilslice, .int .i64 i], some ⟨true, [.cell (.slice ⟨1, 0, 0, 1, 0⟩ 1 n), .arr [.int .u64] 64 tg]⟩, some ⟨true, [.arr [.int .u8] m d]⟩, _, 2 => some (.z n tg m d i)
  | [.ptr ⟨0, 0, 0, 0, 0⟩, .slice ⟨2, 0, 0, 1, 0⟩ 1 k, .int .i64 i], some ⟨true, [.cell (.slice ⟨1, 0, 0, 1, 0⟩ 1 n), .arr [.int .u64] 64 tg]⟩, some ⟨true, [.arr [.int .u8] m d]⟩, some ⟨true, [.arr [.int .i64] kk g]⟩, 3 => some (.s n tg m d k kk g i)
  | _, _, _, _, _ => none
theorem mtgDec_ok (vs : List AV) (H : Heap) (N : Nat) (y : MtgS) (h : mtgDec vs H N = some y) : vs = mtgT y ∧ (mtgH y).sub H ∧ N = mtgN y := by
  unfold mtgDec at h
  split at h
  all_goals first
    | (cases h; done)
    | (cases h; refine ⟨rfl, ?_, rfl⟩; repeat (first | exact sub_nil | refine sub_cons (by assumption) ?_))
def mtgO : MtgE → Out
  | .z _ _ _ _ => .exit 0
  | .s _ _ _ _ _ _ _ => .exit 0
def mtgV : MtgE → List AV
  | .z _ _ _ _ => [.nilslice]
  | .s _ _ _ _ k _ _ => [.slice ⟨2, 0, 0, 1, 0⟩ 1 k]
def mtgG : MtgE → Heap
  | .z n tg m d => [(0, ⟨true, [.cell (.slice ⟨1, 0, 0, 1, 0⟩ 1 n), .arr [.int .u64] 64 tg]⟩), (1, ⟨true, [.arr [.int .u8] m d]⟩)]
  | .s n tg m d _ kk g => [(0, ⟨true, [.cell (.slice ⟨1, 0, 0, 1, 0⟩ 1 n), .arr [.int .u64] 64 tg]⟩), (1, ⟨true, [.arr [.int .u8] m d]⟩), (2, ⟨true, [.arr [.int .i64] kk g]⟩)]
def mtgM : MtgE → Nat
  | .z _ _ _ _ => 2
  | .s _ _ _ _ _ _ _ => 3
def mtgDecE (o : Out) (vs : List AV) (H : Heap) (N : Nat) : Option MtgE := match o, vs, H.find 0, H.find 1, H.find 2, N with
  | .exit 0, [.nilslice], some ⟨true, [.cell (.slice ⟨1, 0, 0, 1, 0⟩ 1 n), .arr [.int .u64] 64 tg]⟩, some ⟨true, [.arr [.int .u8] m d]⟩, _, 2 => some (.z n tg m d)
  | .exit 0, [.slice ⟨2, 0, 0, 1, 0⟩ 1 k], some ⟨true, [.cell (.slice ⟨1, 0, 0, 1, 0⟩ 1 n), .arr [.int .u64] 64 tg]⟩, some ⟨true, [.arr [.int .u8] m d]⟩, some ⟨true, [.arr [.int .i64] kk g]⟩, 3 => some (.s n tg m d k kk g)
  | _, _, _, _, _, _ => none
theorem mtgDecE_ok (o : Out) (vs : List AV) (H : Heap) (N : Nat) (z : MtgE) (h : mtgDecE o vs H N = some z) : o = mtgO z ∧ o ≠ .normal ∧ vs = mtgV z ∧ (mtgG z).sub H ∧ N = mtgM z := by
  unfold mtgDecE at h
  split at h
  all_goals first
    | (cases h; done)
    | (cases h; refine ⟨rfl, nofun, rfl, ?_, rfl⟩; repeat (first | exact sub_nil | refine sub_cons (by assumption) ?_))
noncomputable def mtgStep : MtgS → Option (MtgS ⊕ MtgE)
 | .z n tg m d i =>
 (cond (i.slt (BitVec.ofNat 64 n))
 (cond (nonneg IntKind.i64 ((i.sdiv 16#64).sdiv 64#64) && decide (((i.sdiv 16#64).sdiv 64#64).toNat < 64))
 (cond (nonneg IntKind.i64 ((i.sdiv 16#64).srem 64#64))
 (cond (decide (((i.sdiv 16#64).sdiv 64#64).toNat < 64))
 (cond (!asU64 ((tg.getD ((i.sdiv 16#64).sdiv 64#64).toNat []).headD AV.any) &&& 1#64 <<< min ((i.sdiv 16#64).srem 64#64).toNat 64 == 0#64)
 (some (Sum.inl (MtgS.s n tg m d 1 1 [[AV.int IntKind.i64 i]] (i + 16#64))))
 (some (Sum.inl (MtgS.z n tg m d (i + 16#64)))))
    none)
   none)
  none)
 (some (Sum.inr (MtgE.z n tg m d))))
 | .s n tg m d k kk g i =>
 (cond (i.slt (BitVec.ofNat 64 n))
 (cond (nonneg IntKind.i64 ((i.sdiv 16#64).sdiv 64#64) && decide (((i.sdiv 16#64).sdiv 64#64).toNat < 64))
 (cond (nonneg IntKind.i64 ((i.sdiv 16#64).srem 64#64))
 (cond (decide (((i.sdiv 16#64).sdiv 64#64).toNat < 64))
 (cond (!asU64 ((tg.getD ((i.sdiv 16#64).sdiv 64#64).toNat []).headD AV.any) &&& 1#64 <<< min ((i.sdiv 16#64).srem 64#64).toNat 64 == 0#64)
 (cond (decide (0 + k ≤ kk) && decide (g.length = kk))
 (cond (true && v_room (k + 1) 8)
 (some (Sum.inl (MtgS.s n tg m d (k + 1) (k + 1) (List.take k (List.drop 0 g) ++ [[AV.int IntKind.i64 i]]) (i + 16#64))))
       none)
      none)
 (some (Sum.inl (MtgS.s n tg m d k kk g (i + 16#64)))))
    none)
   none)
  none)
 (some (Sum.inr (MtgE.s n tg m d k kk g))))
end Go.Sx

/- Memory: where tags are. -/
namespace Go.Sx
open Go
/-- Places that are so, rising. -/
def tgs (f : Nat → Bool) (k : Nat) : List (List AV) := ((List.range k).filter f).map fun j => [.int .i64 (BitVec.ofNat 64 (16 * j))]
theorem tgs_succ (f : Nat → Bool) (k : Nat) : tgs f (k + 1) = cond (f k) (tgs f k ++ [[.int .i64 (BitVec.ofNat 64 (16 * k))]]) (tgs f k) := by
  unfold tgs
  rw [List.range_succ, List.filter_append, List.map_append]
  cases h : f k <;> simp [h]
theorem tgs_len (f : Nat → Bool) (k : Nat) : (tgs f k).length ≤ k := by
  unfold tgs
  rw [List.length_map]
  exact Nat.le_trans (List.length_filter_le _ _) (by simp)
def v_tagged (tg : List (List AV)) (n : Nat) : List (List AV) := tgs (fun j => v_tag tg (16 * j)) (n / 16)
def v_emp (l : List (List AV)) : Bool := l.isEmpty
theorem room_le {n b : Nat} (h : n * b ≤ 2 ^ 47) : v_room n b = true := by
  unfold v_room; exact decide_eq_true (by omega)
def mtgA (n : Nat) (tg : List (List AV)) (m : Nat) (d l : List (List AV)) (i : BitVec 64) : MtgS := match l with
  | [] => .z n tg m d i
  | _ :: _ => .s n tg m d l.length l.length l i
def mtgB (n : Nat) (tg : List (List AV)) (m : Nat) (d l : List (List AV)) : MtgE := match l with
  | [] => .z n tg m d
  | _ :: _ => .s n tg m d l.length l.length l
theorem mtg_step (n : Nat) (tg : List (List AV)) (m : Nat) (d l : List (List AV)) (j : Nat) (hj : 16 * j < n) (hn : n ≤ 65536) (hl : l.length ≤ j) :
    mtgStep (mtgA n tg m d l (BitVec.ofNat 64 (16 * j))) = some (.inl (mtgA n tg m d (cond (v_tag tg (16 * j)) (l ++ [[.int .i64 (BitVec.ofNat 64 (16 * j))]]) l) (BitVec.ofNat 64 (16 * (j + 1))))) := by
  have hi : (BitVec.ofNat 64 (16 * j)).toNat = 16 * j := ofNat_toNat (by omega)
  obtain ⟨a1, a2⟩ := dq (BitVec.ofNat 64 (16 * j)) (by omega)
  rw [hi] at a1 a2
  have e : BitVec.ofNat 64 (16 * j) + 16#64 = BitVec.ofNat 64 (16 * (j + 1)) := by
    apply BitVec.eq_of_toNat_eq
    rw [BitVec.toNat_add, hi, ofNat_toNat (n := 16 * (j + 1)) (by omega), show (16#64).toNat = 16 from rfl]; omega
  have c1 := slt_len (x := BitVec.ofNat 64 (16 * j)) (n := n) (by omega) (by omega)
  rw [hi, decide_eq_true hj] at c1
  have c2 := nonneg_lt (x := ((BitVec.ofNat 64 (16 * j)).sdiv 16#64).sdiv 64#64) (by omega)
  have c3 := nonneg_lt (x := ((BitVec.ofNat 64 (16 * j)).sdiv 16#64).srem 64#64) (by omega)
  cases l with
  | nil =>
    simp only [mtgA, mtgStep, c1, c2, c3, a1, a2, e, decide_eq_true (show 16 * j / 1024 < 64 by omega), Bool.and_true, cond_true]
    show cond (v_tag tg (16 * j)) _ _ = _
    cases v_tag tg (16 * j) <;> rfl
  | cons r l =>
    have c4 : v_room ((r :: l).length + 1) 8 = true := room_le (by omega)
    simp only [mtgA, mtgStep, c1, c2, c3, c4, a1, a2, e, decide_eq_true (show 16 * j / 1024 < 64 by omega), decide_eq_true (show 0 + (r :: l).length ≤ (r :: l).length by omega), decide_eq_true (show (r :: l).length = (r :: l).length from rfl), List.drop_zero, List.take_length, Bool.and_true, cond_true]
    show cond (v_tag tg (16 * j)) _ _ = _
    cases v_tag tg (16 * j) with
    | true =>
      simp only [cond_true]
      have : (r :: l ++ [[AV.int IntKind.i64 (BitVec.ofNat 64 (16 * j))]]).length = (r :: l).length + 1 := by simp
      show _ = some (Sum.inl (MtgS.s n tg m d (r :: l ++ [[AV.int IntKind.i64 (BitVec.ofNat 64 (16 * j))]]).length (r :: l ++ [[AV.int IntKind.i64 (BitVec.ofNat 64 (16 * j))]]).length (r :: l ++ [[AV.int IntKind.i64 (BitVec.ofNat 64 (16 * j))]]) _))
      rw [this]
      rfl
    | false => rfl
theorem mtg_rn (n : Nat) (tg : List (List AV)) (m : Nat) (d : List (List AV)) (hn : n ≤ 65536) (h16 : n % 16 = 0) : ∀ (k j : Nat), n / 16 - j = k → j ≤ n / 16 →
    Rn mtgStep (mtgA n tg m d (tgs (fun j => v_tag tg (16 * j)) j) (BitVec.ofNat 64 (16 * j))) (mtgB n tg m d (v_tagged tg n)) := by
  intro k
  induction k with
  | zero =>
    intro j hk hj
    have e : j = n / 16 := by omega
    subst e
    have e2 : 16 * (n / 16) = n := by omega
    refine .last ?_
    unfold v_tagged
    rw [e2]
    have c1 : (BitVec.ofNat 64 n).slt (BitVec.ofNat 64 n) = false := by rw [slt_nat (by rw [ofNat_toNat (by omega)]; omega) (by rw [ofNat_toNat (by omega)]; omega)]; exact decide_eq_false (by omega)
    generalize tgs (fun j => v_tag tg (16 * j)) (n / 16) = l
    cases l <;> simp only [mtgA, mtgB, mtgStep, c1, cond_false]
  | succ k ih =>
    intro j hk hj
    refine .next (mtg_step n tg m d _ j (by omega) hn (tgs_len _ _)) ?_
    have hs : tgs (fun j => v_tag tg (16 * j)) (j + 1) = cond (v_tag tg (16 * j)) (tgs (fun j => v_tag tg (16 * j)) j ++ [[.int .i64 (BitVec.ofNat 64 (16 * j))]]) (tgs (fun j => v_tag tg (16 * j)) j) := tgs_succ _ j
    rw [← hs]
    exact ih (j + 1) (by omega) (by omega)
def g_tag (n : Nat) (tg : List (List AV)) (m : Nat) (d : List (List AV)) : Bool := g_ram n tg m d && Nat.beq (n % 16) 0
def mtgCps : Cps MtgS := fun R x K => match x with
  | .z n tg m d i => cond (g_tag n tg m d && i == 0#64) (cond (v_emp (v_tagged tg n))
      (K (.exit 0) (tmOf [3] [.nilslice]) [(0, ⟨true, [.cell (.slice ⟨1, 0, 0, 1, 0⟩ 1 n), .arr [.int .u64] 64 tg]⟩), (1, ⟨true, [.arr [.int .u8] m d]⟩)] 2)
      (K (.exit 0) (tmOf [3] [.slice ⟨2, 0, 0, 1, 0⟩ 1 (v_tagged tg n).length]) [(0, ⟨true, [.cell (.slice ⟨1, 0, 0, 1, 0⟩ 1 n), .arr [.int .u64] 64 tg]⟩), (1, ⟨true, [.arr [.int .u8] m d]⟩), (2, ⟨true, [.arr [.int .i64] (v_tagged tg n).length (v_tagged tg n)]⟩)] 3)) none
  | .s .. => none
theorem mtgCps_ok (R : Type) (x : MtgS) (K : Out → TM → Heap → Nat → Option R) (r : R) (h : mtgCps R x K = some r) : ∃ z, Rn mtgStep x z ∧ K (mtgO z) (tmOf [3] (mtgV z)) (mtgG z) (mtgM z) = some r := by
  cases x with
  | s => simp [mtgCps] at h
  | z n tg m d i =>
    obtain ⟨hg, hk⟩ := condK h
    clear h
    simp only [g_tag, Bool.and_eq_true, beq_iff_eq, beq_true] at hg
    obtain ⟨⟨hg, h16⟩, rfl⟩ := hg
    obtain ⟨rfl, h1, h2, h3, h4⟩ := g_ram_iff.1 hg
    have hr := mtg_rn m tg m d h4 h16 _ 0 rfl (by omega)
    refine ⟨_, hr, ?_⟩
    cases hl : v_tagged tg m with
    | nil => rw [hl] at hk; exact hk
    | cons r l => rw [hl] at hk; exact hk
end Go.Sx

/- What loops do, round by round. -/
namespace Go.Sx
open Go

/-! ### where tags are -/
inductive MrgS where
  | a (n : Nat) (tg : List (List AV)) (m : Nat) (d : List (List AV))
inductive MrgR where
  | z (n2 : Nat) (tg2 : List (List AV)) (m2 : Nat) (d2 : List (List AV))
  | s (n2 : Nat) (tg2 : List (List AV)) (m2 : Nat) (d2 : List (List AV)) (k : Nat) (kk : Nat) (g : List (List AV))
def mrgA : MrgS → List AV
  | .a _ _ _ _ => [.ptr ⟨0, 0, 0, 0, 0⟩]
def mrgH : MrgS → Heap
  | .a n tg m d => [(0, ⟨true, [.cell (.slice ⟨1, 0, 0, 1, 0⟩ 1 n), .arr [.int .u64] 64 tg]⟩), (1, ⟨true, [.arr [.int .u8] m d]⟩)]
def mrgDec (args : List AV) (H : Heap) : Option MrgS := match args, H with
  | [.ptr ⟨0, 0, 0, 0, 0⟩], [(0, ⟨true, [.cell (.slice ⟨1, 0, 0, 1, 0⟩ 1 n), .arr [.int .u64] 64 tg]⟩), (1, ⟨true, [.arr [.int .u8] m d]⟩)] => some (.a n tg m d)
  | _, _ => none
theorem mrgDec_ok (args : List AV) (H : Heap) (x : MrgS) (h : mrgDec args H = some x) : args = mrgA x ∧ H = mrgH x := by
  unfold mrgDec at h
  split at h
  all_goals first
    | (cases h; done)
    | (cases h; exact ⟨rfl, rfl⟩)
def mrgU : MrgR → AV × Eff × Nat
  | .z n2 tg2 m2 d2 => (.nilslice, [(1, some ⟨true, [.arr [.int .u8] m2 d2]⟩), (0, some ⟨true, [.cell (.slice ⟨1, 0, 0, 1, 0⟩ 1 n2), .arr [.int .u64] 64 tg2]⟩)], 2)
  | .s n2 tg2 m2 d2 k kk g => (.slice ⟨2, 0, 0, 1, 0⟩ 1 k, [(2, some ⟨true, [.arr [.int .i64] kk g]⟩), (1, some ⟨true, [.arr [.int .u8] m2 d2]⟩), (0, some ⟨true, [.cell (.slice ⟨1, 0, 0, 1, 0⟩ 1 n2), .arr [.int .u64] 64 tg2]⟩)], 3)
def mrgDecR (v : AV) (e : Eff) (k : Nat) : Option MrgR := match v, e, k with
  | .nilslice, [(1, some ⟨true, [.arr [.int .u8] m2 d2]⟩), (0, some ⟨true, [.cell (.slice ⟨1, 0, 0, 1, 0⟩ 1 n2), .arr [.int .u64] 64 tg2]⟩)], 2 => some (.z n2 tg2 m2 d2)
  | .slice ⟨2, 0, 0, 1, 0⟩ 1 k, [(2, some ⟨true, [.arr [.int .i64] kk g]⟩), (1, some ⟨true, [.arr [.int .u8] m2 d2]⟩), (0, some ⟨true, [.cell (.slice ⟨1, 0, 0, 1, 0⟩ 1 n2), .arr [.int .u64] 64 tg2]⟩)], 3 => some (.s n2 tg2 m2 d2 k kk g)
  | _, _, _ => none
theorem mrgDecR_ok (v : AV) (e : Eff) (k : Nat) (z : MrgR) (h : mrgDecR v e k = some z) : (v, e, k) = mrgU z := by
  unfold mrgDecR at h
  split at h
  all_goals first
    | (cases h; done)
    | (cases h; rfl)
noncomputable def mrgStep : MrgS → Option MrgR
 | .a n tg m d =>
 (cond (g_tag n tg m d && true)
 (cond (v_emp (v_tagged tg n))
 (some (MrgR.z n tg m d))
 (some (MrgR.s n tg m d (v_tagged tg n).length (v_tagged tg n).length (v_tagged tg n))))
 none)
end Go.Sx

/- Memory: where tags are, as an answer. -/
namespace Go.Sx
open Go
def mrgCps : ECps MrgS MrgR := fun R x K => match x with
  | .a n tg m d => cond (g_tag n tg m d) (cond (v_emp (v_tagged tg n)) (K (.z n tg m d)) (K (.s n tg m d (v_tagged tg n).length (v_tagged tg n).length (v_tagged tg n)))) none
theorem mrgCps_ok : ECok mrgStep mrgCps := by
  intro R x K r h
  cases x with
  | a n tg m d =>
    obtain ⟨hg, hk⟩ := condK h
    simp only [mrgStep, hg, Bool.and_true, cond_true]
    cases he : v_emp (v_tagged tg n) with
    | true => rw [he] at hk; exact ⟨_, rfl, hk⟩
    | false => rw [he] at hk; exact ⟨_, rfl, hk⟩
end Go.Sx


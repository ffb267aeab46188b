/- Memory: where tags are. -/
import Derived.Test.YtkbcfbehebbmhaaVl11d
import Derived.Test.YtkbcfbehebbmhaaPlRam3
set_option linter.unusedSimpArgs false
set_option linter.unusedVariables false
set_option linter.unnecessarySimpa false
namespace Go.Sx
open Go
/-- Places that are so, rising. -/
def tgs (f : Nat → Bool) (k : Nat) : List (List AV) := ((List.range k).filter f).map fun j => [.int .i64 (BitVec.ofNat 64 (16 * j))]
theorem tgs_succ (f : Nat → Bool) (k : Nat) : tgs f (k + 1) = cond (f k) (tgs f k ++ [[.int .i64 (BitVec.ofNat 64 (16 * k))]]) (tgs f k) := by
  unfold tgs
  rw [List.range_succ, List.filter_append, List.map_append]
  cases h : f k <;> simp [h]
theorem tgs_len (f : Nat → Bool) (k : Nat) : (tgs f k).length ≤ k := by
  unfold tgs
  rw [List.length_map]
  exact Nat.le_trans (List.length_filter_le _ _) (by simp)
def v_tagged (tg : List (List AV)) (n : Nat) : List (List AV) := tgs (fun j => v_tag tg (16 * j)) (n / 16)
def v_emp (l : List (List AV)) : Bool := l.isEmpty
theorem room_le {n b : Nat} (h : n * b ≤ 2 ^ 47) : v_room n b = true := by
  unfold v_room; exact decide_eq_true (by omega)
def mtgA (n : Nat) (tg : List (List AV)) (m : Nat) (d l : List (List AV)) (i : BitVec 64) : MtgS := match l with
  | [] => .z n tg m d i
  | _ :: _ => .s n tg m d l.length l.length l i
def mtgB (n : Nat) (tg : List (List AV)) (m : Nat) (d l : List (List AV)) : MtgE := match l with
  | [] => .z n tg m d
  | _ :: _ => .s n tg m d l.length l.length l
theorem mtg_step (n : Nat) (tg : List (List AV)) (m : Nat) (d l : List (List AV)) (j : Nat) (hj : 16 * j < n) (hn : n ≤ 65536) (hl : l.length ≤ j) :
    mtgStep (mtgA n tg m d l (BitVec.ofNat 64 (16 * j))) = some (.inl (mtgA n tg m d (cond (v_tag tg (16 * j)) (l ++ [[.int .i64 (BitVec.ofNat 64 (16 * j))]]) l) (BitVec.ofNat 64 (16 * (j + 1))))) := by
  have hi : (BitVec.ofNat 64 (16 * j)).toNat = 16 * j := ofNat_toNat (by omega)
  obtain ⟨a1, a2⟩ := dq (BitVec.ofNat 64 (16 * j)) (by omega)
  rw [hi] at a1 a2
  have e : BitVec.ofNat 64 (16 * j) + 16#64 = BitVec.ofNat 64 (16 * (j + 1)) := by
    apply BitVec.eq_of_toNat_eq
    rw [BitVec.toNat_add, hi, ofNat_toNat (n := 16 * (j + 1)) (by omega), show (16#64).toNat = 16 from rfl]; omega
  have c1 := slt_len (x := BitVec.ofNat 64 (16 * j)) (n := n) (by omega) (by omega)
  rw [hi, decide_eq_true hj] at c1
  have c2 := nonneg_lt (x := ((BitVec.ofNat 64 (16 * j)).sdiv 16#64).sdiv 64#64) (by omega)
  have c3 := nonneg_lt (x := ((BitVec.ofNat 64 (16 * j)).sdiv 16#64).srem 64#64) (by omega)
  cases l with
  | nil =>
    simp only [mtgA, mtgStep, c1, c2, c3, a1, a2, e, decide_eq_true (show 16 * j / 1024 < 64 by omega), Bool.and_true, cond_true]
    show cond (v_tag tg (16 * j)) _ _ = _
    cases v_tag tg (16 * j) <;> rfl
  | cons r l =>
    have c4 : v_room ((r :: l).length + 1) 8 = true := room_le (by omega)
    simp only [mtgA, mtgStep, c1, c2, c3, c4, a1, a2, e, decide_eq_true (show 16 * j / 1024 < 64 by omega), decide_eq_true (show 0 + (r :: l).length ≤ (r :: l).length by omega), decide_eq_true (show (r :: l).length = (r :: l).length from rfl), List.drop_zero, List.take_length, Bool.and_true, cond_true]
    show cond (v_tag tg (16 * j)) _ _ = _
    cases v_tag tg (16 * j) with
    | true =>
      simp only [cond_true]
      have : (r :: l ++ [[AV.int IntKind.i64 (BitVec.ofNat 64 (16 * j))]]).length = (r :: l).length + 1 := by simp
      show _ = some (Sum.inl (MtgS.s n tg m d (r :: l ++ [[AV.int IntKind.i64 (BitVec.ofNat 64 (16 * j))]]).length (r :: l ++ [[AV.int IntKind.i64 (BitVec.ofNat 64 (16 * j))]]).length (r :: l ++ [[AV.int IntKind.i64 (BitVec.ofNat 64 (16 * j))]]) _))
      rw [this]
      rfl
    | false => rfl
theorem mtg_rn (n : Nat) (tg : List (List AV)) (m : Nat) (d : List (List AV)) (hn : n ≤ 65536) (h16 : n % 16 = 0) : ∀ (k j : Nat), n / 16 - j = k → j ≤ n / 16 →
    Rn mtgStep (mtgA n tg m d (tgs (fun j => v_tag tg (16 * j)) j) (BitVec.ofNat 64 (16 * j))) (mtgB n tg m d (v_tagged tg n)) := by
  intro k
  induction k with
  | zero =>
    intro j hk hj
    have e : j = n / 16 := by omega
    subst e
    have e2 : 16 * (n / 16) = n := by omega
    refine .last ?_
    unfold v_tagged
    rw [e2]
    have c1 : (BitVec.ofNat 64 n).slt (BitVec.ofNat 64 n) = false := by rw [slt_nat (by rw [ofNat_toNat (by omega)]; omega) (by rw [ofNat_toNat (by omega)]; omega)]; exact decide_eq_false (by omega)
    generalize tgs (fun j => v_tag tg (16 * j)) (n / 16) = l
    cases l <;> simp only [mtgA, mtgB, mtgStep, c1, cond_false]
  | succ k ih =>
    intro j hk hj
    refine .next (mtg_step n tg m d _ j (by omega) hn (tgs_len _ _)) ?_
    have hs : tgs (fun j => v_tag tg (16 * j)) (j + 1) = cond (v_tag tg (16 * j)) (tgs (fun j => v_tag tg (16 * j)) j ++ [[.int .i64 (BitVec.ofNat 64 (16 * j))]]) (tgs (fun j => v_tag tg (16 * j)) j) := tgs_succ _ j
    rw [← hs]
    exact ih (j + 1) (by omega) (by omega)
def g_tag (n : Nat) (tg : List (List AV)) (m : Nat) (d : List (List AV)) : Bool := g_ram n tg m d && Nat.beq (n % 16) 0
def mtgCps : Cps MtgS := fun R x K => match x with
  | .z n tg m d i => cond (g_tag n tg m d && i == 0#64) (cond (v_emp (v_tagged tg n))
      (K (.exit 0) (tmOf [3] [.nilslice]) [(0, ⟨true, [.cell (.slice ⟨1, 0, 0, 1, 0⟩ 1 n), .arr [.int .u64] 64 tg]⟩), (1, ⟨true, [.arr [.int .u8] m d]⟩)] 2)
      (K (.exit 0) (tmOf [3] [.slice ⟨2, 0, 0, 1, 0⟩ 1 (v_tagged tg n).length]) [(0, ⟨true, [.cell (.slice ⟨1, 0, 0, 1, 0⟩ 1 n), .arr [.int .u64] 64 tg]⟩), (1, ⟨true, [.arr [.int .u8] m d]⟩), (2, ⟨true, [.arr [.int .i64] (v_tagged tg n).length (v_tagged tg n)]⟩)] 3)) none
  | .s .. => none
theorem mtgCps_ok (R : Type) (x : MtgS) (K : Out → TM → Heap → Nat → Option R) (r : R) (h : mtgCps R x K = some r) : ∃ z, Rn mtgStep x z ∧ K (mtgO z) (tmOf [3] (mtgV z)) (mtgG z) (mtgM z) = some r := by
  cases x with
  | s => simp [mtgCps] at h
  | z n tg m d i =>
    obtain ⟨hg, hk⟩ := condK h
    clear h
    simp only [g_tag, Bool.and_eq_true, beq_iff_eq, beq_true] at hg
    obtain ⟨⟨hg, h16⟩, rfl⟩ := hg
    obtain ⟨rfl, h1, h2, h3, h4⟩ := g_ram_iff.1 hg
    have hr := mtg_rn m tg m d h4 h16 _ 0 rfl (by omega)
    refine ⟨_, hr, ?_⟩
    cases hl : v_tagged tg m with
    | nil => rw [hl] at hk; exact hk
    | cons r l => rw [hl] at hk; exact hk
end Go.Sx

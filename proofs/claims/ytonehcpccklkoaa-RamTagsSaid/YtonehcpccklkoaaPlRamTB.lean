/- RamTags: granule by granule. -/
import Derived.Test.YtonehcpccklkoaaVl11v
import Derived.Test.YtonehcpccklkoaaPlRamR
set_option linter.unusedSimpArgs false
set_option linter.unusedVariables false
set_option linter.unnecessarySimpa false
namespace Go.Sx
open Go
def mtbA (tg d T l : List (List AV)) (i : BitVec 64) : MtbS := match l with
  | [] => .z 4096 tg 4096 d 256 256 T i
  | _ :: _ => .s 4096 tg 4096 d 256 256 T l.length l.length l i
def mtbB (tg d l : List (List AV)) : MtbE := match l with
  | [] => .z 4096 tg 4096 d
  | _ :: _ => .s 4096 tg 4096 d l.length l.length l
theorem okC16 {j : Nat} (hj : j < 256) : v_okC 4096 (BitVec.ofNat 64 (16 * j)) = true := by
  have hi : (BitVec.ofNat 64 (16 * j)).toNat = 16 * j := ofNat_toNat (by omega)
  unfold v_okC
  rw [Bool.and_eq_true, beq_iff_eq]
  refine ⟨(v_in_iff (n := 4096) (size := 16#64) (by decide) (by decide)).2 (by rw [hi]; show 16 * j + 16 ≤ 4096; omega), ?_⟩
  apply BitVec.eq_of_toNat_eq
  rw [sremN _ 16#64 (by decide) (by omega), BitVec.toNat_umod, hi]
  show 16 * j % 16 = 0
  omega
theorem mtb_step {tg d T : List (List AV)} (h : Mem 4096 tg d 256 T) (l : List (List AV)) (j : Nat) (hj : j < 256) (hl : l.length ≤ j) :
    mtbStep (mtbA tg d T l (BitVec.ofNat 64 j)) = some (.inl (mtbA tg d T (cond (cB T j) (l ++ [[.int .i64 (BitVec.ofNat 64 (16 * j))]]) l) (BitVec.ofNat 64 (j + 1)))) := by
  have hi : (BitVec.ofNat 64 j).toNat = j := ofNat_toNat (by omega)
  have e := ofNat_inc (i := j) (by omega)
  have c1 : (BitVec.ofNat 64 j).slt 256#64 = true := by rw [slt_nat (by omega) (by decide), hi]; exact decide_eq_true hj
  have c2 := nonneg_lt (x := BitVec.ofNat 64 j) (by omega)
  have e16 : 16#64 * BitVec.ofNat 64 j = BitVec.ofNat 64 (16 * j) := by
    apply BitVec.eq_of_toNat_eq
    rw [BitVec.toNat_mul, hi, ofNat_toNat (n := 16 * j) (by omega), show (16#64).toNat = 16 from rfl]; omega
  have hok := okC16 hj
  have hct : v_cT 4096 tg (BitVec.ofNat 64 (16 * j)) = cB T j := by
    unfold v_cT
    rw [hok, cond_true, ofNat_toNat (by omega), h.tag j hj]
  have hcb : ((T.getD j []).headD AV.any).asBool = cB T j := rfl
  cases l with
  | nil =>
    simp only [mtbA, mtbStep, c1, c2, e, e16, hi, hok, hct, hcb, h.ram, decide_eq_true hj, Nat.zero_add, Bool.and_true, Bool.not_true, beq_self_eq_true, cond_true, cond_false]
    cases cB T j <;> rfl
  | cons r l =>
    have c4 : v_room ((r :: l).length + 1) 8 = true := room_le (by omega)
    simp only [mtbA, mtbStep, c1, c2, c4, e, e16, hi, hok, hct, hcb, h.ram, decide_eq_true hj, decide_eq_true (show (r :: l).length ≤ (r :: l).length by omega), decide_eq_true (show (r :: l).length = (r :: l).length from rfl), List.drop_zero, List.take_length, Nat.zero_add, Bool.and_true, Bool.true_and, Bool.not_true, beq_self_eq_true, cond_true, cond_false]
    cases cB T j with
    | true =>
      simp only [cond_true]
      have : (r :: l ++ [[AV.int IntKind.i64 (BitVec.ofNat 64 (16 * j))]]).length = (r :: l).length + 1 := by simp
      show _ = some (Sum.inl (MtbS.s 4096 tg 4096 d 256 256 T (r :: l ++ [[AV.int IntKind.i64 (BitVec.ofNat 64 (16 * j))]]).length (r :: l ++ [[AV.int IntKind.i64 (BitVec.ofNat 64 (16 * j))]]).length (r :: l ++ [[AV.int IntKind.i64 (BitVec.ofNat 64 (16 * j))]]) _))
      rw [this]
      rfl
    | false => rfl
theorem mtb_rn {tg d T : List (List AV)} (h : Mem 4096 tg d 256 T) : ∀ (k j : Nat), 256 - j = k → j ≤ 256 →
    Rn mtbStep (mtbA tg d T (tgs (cB T) j) (BitVec.ofNat 64 j)) (mtbB tg d (v_xtagged T 256)) := by
  intro k
  induction k with
  | zero =>
    intro j hk hj
    have e : j = 256 := by omega
    subst e
    refine .last ?_
    unfold v_xtagged
    have c1 : (BitVec.ofNat 64 256).slt 256#64 = false := by decide
    generalize tgs (cB T) 256 = l
    cases l <;> simp only [mtbA, mtbB, mtbStep, c1, cond_false]
  | succ k ih =>
    intro j hk hj
    refine .next (mtb_step h _ j (by omega) (tgs_len _ _)) ?_
    rw [← tgs_succ (cB T) j]
    exact ih (j + 1) (by omega) (by omega)
def mtbOk : MtbS → Prop
  | .z n tg m d t mt T i => n = 4096 ∧ m = 4096 ∧ t = 256 ∧ mt = 256 ∧ i = 0#64 ∧ Mem 4096 tg d 256 T
  | .s .. => False
open Classical in
noncomputable def g_mtb (x : MtbS) : Bool := decide (mtbOk x)
theorem g_mtb_ok {x : MtbS} (h : mtbOk x) : g_mtb x = true := by unfold g_mtb; exact @decide_eq_true _ (Classical.propDecidable _) h
noncomputable def mtbCps : Cps MtbS := fun R x K => match x with
  | .z n tg m d t mt T i => cond (g_mtb (.z n tg m d t mt T i)) (cond (v_emp (v_xtagged T 256))
      (K (.exit 2) (tmOf [2, 3, 8] [.any, .ptr ⟨1, 0, 0, 0, 0⟩, .nilslice]) [(1, ⟨true, [.cell (.slice ⟨2, 0, 0, 1, 0⟩ 1 4096), .arr [.int .u64] 64 tg]⟩), (2, ⟨true, [.arr [.int .u8] 4096 d]⟩)] 4)
      (K (.exit 2) (tmOf [2, 3, 8] [.any, .ptr ⟨1, 0, 0, 0, 0⟩, .slice ⟨4, 0, 0, 1, 0⟩ 1 (v_xtagged T 256).length]) [(1, ⟨true, [.cell (.slice ⟨2, 0, 0, 1, 0⟩ 1 4096), .arr [.int .u64] 64 tg]⟩), (2, ⟨true, [.arr [.int .u8] 4096 d]⟩), (4, ⟨true, [.arr [.int .i64] (v_xtagged T 256).length (v_xtagged T 256)]⟩)] 5)) none
  | .s .. => none
theorem mtbCps_ok (R : Type) (x : MtbS) (K : Out → TM → Heap → Nat → Option R) (r : R) (h : mtbCps R x K = some r) : ∃ z, Rn mtbStep x z ∧ K (mtbO z) (tmOf [2, 3, 8] (mtbV z)) (mtbG z) (mtbM z) = some r := by
  cases x with
  | s => simp [mtbCps] at h
  | z n tg m d t mt T i =>
    unfold mtbCps at h
    dsimp only at h
    cases hg : g_mtb (.z n tg m d t mt T i) with
    | false => rw [hg] at h; simp at h
    | true =>
      rw [hg, cond_true] at h
      have hok : mtbOk (.z n tg m d t mt T i) := by unfold g_mtb at hg; simpa using hg
      obtain ⟨rfl, rfl, rfl, rfl, rfl, hm⟩ := hok
      refine ⟨_, mtb_rn hm _ 0 rfl (by omega), ?_⟩
      cases hl : v_xtagged T 256 with
      | nil => rw [hl] at h; exact h
      | cons r l => rw [hl] at h; exact h
end Go.Sx

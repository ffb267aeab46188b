/- The interrupt controller: PlicClaims. -/
import Derived.Test.YtaieimjeffedhaaVm12
import Derived.Test.YtaieimjeffedhaaPlPlc4
set_option linter.unusedSimpArgs false
set_option linter.unusedVariables false
set_option linter.unnecessarySimpa false
namespace Go.Sx
open Go
theorem zand (x y : BitVec 32) : BitVec.setWidth 64 x &&& BitVec.setWidth 64 y = BitVec.setWidth 64 (x &&& y) := by
  apply BitVec.eq_of_getLsbD_eq; intro i hi; simp
theorem clB_eq (pr : List (List AV)) (pe e : BitVec 32) : v_clB pr (BitVec.setWidth 64 pe &&& BitVec.setWidth 64 e) 0#64 0#64 1#64 = BitVec.setWidth 64 (v_best pr (pe &&& e) 0#32 0#32 1#32) := by
  unfold v_clB v_best
  rw [zand]
  exact congrArg Prod.fst (cl_best pr (pe &&& e) 32 0#32 0#32 1#32 (by decide))
theorem clM_eq (pr : List (List AV)) (pe e : BitVec 32) : v_clM pr (BitVec.setWidth 64 pe &&& BitVec.setWidth 64 e) 0#64 0#64 1#64 = BitVec.setWidth 64 (bestGo pr (pe &&& e) 32 0#32 0#32 1#32).2 := by
  unfold v_clM
  rw [zand]
  exact congrArg Prod.snd (cl_best pr (pe &&& e) 32 0#32 0#32 1#32 (by decide))
theorem told_eq (pr : List (List AV)) (o t : BitVec 32) : (0#32).ult (v_best pr o t 0#32 1#32) = t.ult (bestGo pr o 32 0#32 0#32 1#32).2 := by
  rw [ult0, ultN]
  unfold v_best
  have h1 := best_pos pr o 32 t 0#32 1#32 (by decide)
  have h2 := best_snd pr o 32 0#32 0#32 1#32
  rw [Bool.eq_iff_iff]
  simp only [decide_eq_true_eq]
  rw [h1, h2]
  simp
theorem left_eq (pe s : BitVec 32) (h : s.toNat < 32) : BitVec.setWidth 64 (pe &&& ~~~(1#32 <<< min s.toNat 32)) = BitVec.setWidth 64 pe &&& ~~~(1#64 <<< min (BitVec.setWidth 64 s).toNat 64) := by
  rw [zext_nat, Nat.min_eq_left (by omega), Nat.min_eq_left (by omega)]
  apply BitVec.eq_of_getLsbD_eq
  intro i hi
  simp
  by_cases h32 : i < 32
  · simp [h32, hi]
  · simp [BitVec.getLsbD_of_ge pe i (by omega)]
theorem zext_ult0 (s : BitVec 32) : (0#64).ult (BitVec.setWidth 64 s) = (0#32).ult s := ult_zext 0#32 s
theorem dn_first (n : Nat) (d : List (List AV)) (hn : n < 2 ^ 63) : dnOk (.a n n d zr32 0#32 0#32 zr2 zr2 0#64) := by
  refine ⟨?_, Nat.le_refl _, hn, by simp⟩
  have c32 : ∀ k, cell32 zr32 k = 0#32 := fun k => by
    by_cases h : k < 32
    · have : ∀ k : Fin 32, cell32 zr32 k.val = 0#32 := by decide
      exact this ⟨k, h⟩
    · unfold cell32; rw [show zr32.getD k [] = [] by simp [List.getD, List.getElem?_eq_none (show zr32.length ≤ k by show 32 ≤ k; omega)]]; rfl
  have c2 : ∀ k, cell32 zr2 k = 0#32 := fun k => by
    by_cases h : k < 2
    · have : ∀ k : Fin 2, cell32 zr2 k.val = 0#32 := by decide
      exact this ⟨k, h⟩
    · unfold cell32; rw [show zr2.getD k [] = [] by simp [List.getD, List.getElem?_eq_none (show zr2.length ≤ k by show 2 ≤ k; omega)]]; rfl
  exact { lpr := rfl, len := rfl, lth := rfl, pr0 := c32 0, pr7 := fun k => by rw [c32 k]; decide, en1 := fun k => by show (cell32 zr2 k)[0] = false; rw [c2 k]; simp, th7 := fun k => by show (cell32 zr2 k).toNat < 8; rw [c2 k]; decide, pe0 := rfl, se0 := rfl, dis := rfl }
theorem plicClaims_r (n : Nat) (d : List (List AV)) (second : Bool) (hl : d.length = n) (hf : fitsAll [.int .i64, .int .i64, .int .i64, .int .u64, .int .u32] d = true) (hn : n < 2 ^ 63) : t_PlicClaims_r n d second = some (.bool true) := by
  have hg := g_dn_ok (dn_first n d hn)
  have hok := (v_dn_ok (dn_first n d hn)).1
  unfold t_PlicClaims_r
  rw [hg]
  generalize v_dn (.a n n d zr32 0#32 0#32 zr2 zr2 0#64) = p at hok ⊢
  cases (300#64).slt (BitVec.ofNat 64 n) with
  | true => rfl
  | false =>
    simp only [cond_true, cond_false, clB_eq, clM_eq, told_eq, ult_zext, zext_ult0, beq_self_eq_true]
    cases second with
    | true =>
      simp only [cond_true]
      cases hs : (0#32).ult (bestGo p.pr (p.pe &&& asU32 ((p.en.getD 1 []).headD AV.any)) 32 0#32 0#32 1#32).2 with
      | true => simp only [cond_true, left_eq p.pe _ (best_lt p.pr _), beq_self_eq_true]
      | false => simp only [cond_true, cond_false, beq_self_eq_true]
    | false =>
      simp only [cond_false]
      cases hs : (0#32).ult (bestGo p.pr (p.pe &&& asU32 ((p.en.getD 0 []).headD AV.any)) 32 0#32 0#32 1#32).2 with
      | true => simp only [cond_true, left_eq p.pe _ (best_lt p.pr _), beq_self_eq_true]
      | false => simp only [cond_true, cond_false, beq_self_eq_true]
theorem plicClaims_n (second : Bool) : t_PlicClaims_n second = some (.bool true) := by
  unfold t_PlicClaims_n; cases second <;> rfl
end Go.Sx

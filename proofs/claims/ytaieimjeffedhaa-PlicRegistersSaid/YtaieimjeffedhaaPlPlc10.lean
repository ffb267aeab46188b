/- The interrupt controller: PlicRegisters. -/
import Derived.Test.YtaieimjeffedhaaVm12
import Derived.Test.YtaieimjeffedhaaPlPlc5
import Derived.Test.YtaieimjeffedhaaPlPlc7
import Derived.Test.YtaieimjeffedhaaPlPlc9
set_option linter.unusedSimpArgs false
set_option linter.unusedVariables false
set_option linter.unnecessarySimpa false
namespace Go.Sx
open Go
theorem z7 (v : BitVec 64) : BitVec.setWidth 64 (BitVec.setWidth 32 (v &&& 7#64)) = v % 8#64 := by
  apply BitVec.eq_of_toNat_eq
  rw [zext_nat, BitVec.toNat_setWidth, BitVec.toNat_umod, BitVec.toNat_and, show (7#64).toNat = 2 ^ 3 - 1 from rfl, Nat.and_two_pow_sub_one_eq_mod, show (8#64).toNat = 2 ^ 3 from rfl]
  omega
theorem zlow (v : BitVec 64) : BitVec.setWidth 64 (BitVec.setWidth 32 v &&& 4294967294#32) = v % 4294967296#64 &&& 18446744073709551614#64 := by
  have e : v % 4294967296#64 = BitVec.setWidth 64 (BitVec.setWidth 32 v) := by
    apply BitVec.eq_of_toNat_eq
    rw [zext_nat, BitVec.toNat_setWidth, BitVec.toNat_umod]; rfl
  rw [e]
  apply BitVec.eq_of_getLsbD_eq
  intro i hi
  by_cases h : i < 32
  · have : ∀ i : Fin 32, (4294967294#32).getLsbD i.val = (18446744073709551614#64).getLsbD i.val := by decide
    have := this ⟨i, h⟩
    simp only [BitVec.getLsbD_setWidth, BitVec.getLsbD_and, this, h, hi, decide_true, Bool.true_and]
  · simp [h]
theorem rgo_nat (j : Nat) (h : j < 37) : (rgo j).toNat < 2 ^ 63 := by
  have : ∀ j : Fin 37, (rgo j.val).toNat < 2 ^ 63 := by decide +kernel
  exact this ⟨j, h⟩
/-- What is read behind a store. -/
theorem regs_store (p : PSt) (h : POk p) (off size v : BitVec 64) (j : Nat) (hj : j < 37) : rdP (v_stP p off size v) (v_plic_which (rgo j) 4#64) = wantP (rdP p (v_plic_which (rgo j) 4#64)) off size v (rgo j) := by
  have hb := rg_which j hj
  have hJ := which_reg (rgo j) 4#64
  have hW := which_reg off size
  by_cases heq : size = 4#64 ∧ rgo j = off
  · obtain ⟨rfl, rfl⟩ := heq
    unfold wantP v_stP
    generalize hoff : rgo j = off at *
    generalize v_plic_which off 4#64 = W at *
    simp only [beq_self_eq_true, Bool.and_self, cond_true]
    rcases hJ with w | ⟨w1, w2, _, w4⟩ | ⟨w, _, w4⟩ | ⟨w, _, w4⟩ | ⟨w, _, w4⟩ | ⟨w, _, w4⟩ | ⟨w, _, w4⟩ | ⟨w, _, w4⟩ | ⟨w, _, w4⟩
    case none => subst w; exact absurd hb (by decide)
    case cl0 => subst w; exact absurd hb (by decide)
    case cl1 => subst w; exact absurd hb (by decide)
    case pend => subst w; subst w4; rfl
    case en0 => subst w; subst w4; show BitVec.setWidth 64 (cell32 (p.en.set 0 _) 0) = _; rw [cell32_set _ _ _ _ (by rw [h.len]; decide), if_pos rfl]; exact zlow v
    case en1 => subst w; subst w4; show BitVec.setWidth 64 (cell32 (p.en.set 1 _) 1) = _; rw [cell32_set _ _ _ _ (by rw [h.len]; decide), if_pos rfl]; exact zlow v
    case th0 => subst w; subst w4; show BitVec.setWidth 64 (cell32 (p.th.set 0 _) 0) = _; rw [cell32_set _ _ _ _ (by rw [h.lth]; decide), if_pos rfl]; exact z7 v
    case th1 => subst w; subst w4; show BitVec.setWidth 64 (cell32 (p.th.set 1 _) 1) = _; rw [cell32_set _ _ _ _ (by rw [h.lth]; decide), if_pos rfl]; exact z7 v
    case prio =>
      have n1 : (off == 8192#64) = false := by rw [beqN]; exact decide_eq_false (by rw [show (8192#64).toNat = 8192 from rfl]; omega)
      have n2 : (off == 8320#64) = false := by rw [beqN]; exact decide_eq_false (by rw [show (8320#64).toNat = 8320 from rfl]; omega)
      have n3 : (off == 4096#64) = false := by rw [beqN]; exact decide_eq_false (by rw [show (4096#64).toNat = 4096 from rfl]; omega)
      unfold rdP
      simp only [w1, BitVec.reduceBEq, cond_true, n1, n2, n3, Bool.or_self, cond_false, Bool.not_false, Bool.and_true]
      rw [slt_nat (by decide) (by omega), show (0#64).toNat = 0 from rfl]
      by_cases h0 : 0 < W.2.toNat
      · have n4 : (off == 0#64) = false := by rw [beqN]; exact decide_eq_false (by rw [show (0#64).toNat = 0 from rfl]; omega)
        rw [decide_eq_true h0, n4]
        simp only [cond_true, Bool.not_false]
        rw [cell32_set _ _ _ _ (by rw [h.lpr]; exact w2), if_pos rfl]
        exact z7 v
      · have n4 : (off == 0#64) = true := by rw [beqN]; exact decide_eq_true (by rw [show (0#64).toNat = 0 from rfl]; omega)
        rw [decide_eq_false h0, n4]
        simp only [cond_false, Bool.not_true]
  · have e0 : (size == 4#64 && rgo j == off) = false := by
      rw [Bool.and_eq_false_iff]
      by_cases hs : size = 4#64
      · right; rw [beq_eq_false_iff_ne]; intro e; exact heq ⟨hs, e⟩
      · left; rw [beq_eq_false_iff_ne]; exact hs
    unfold wantP
    rw [e0]
    simp only [cond_false]
    unfold v_stP
    generalize hoff : rgo j = o at *
    generalize v_plic_which off size = V at *
    generalize v_plic_which o 4#64 = W at *
    unfold rgB at hb
    simp only [Bool.or_eq_true, Bool.and_eq_true, beq_iff_eq, decide_eq_true_eq] at hb
    rcases hW with w | ⟨w1, w2, ws, w4⟩ | ⟨w, ws, w4⟩ | ⟨w, ws, w4⟩ | ⟨w, ws, w4⟩ | ⟨w, ws, w4⟩ | ⟨w, ws, w4⟩ | ⟨w, ws, w4⟩ | ⟨w, ws, w4⟩
    case none => subst w; rfl
    case pend => subst w; rfl
    case cl0 => subst w; show rdP (cond _ _ _) W = _; cases (BitVec.setWidth 32 v).ult 32#32 <;> rfl
    case cl1 => subst w; show rdP (cond _ _ _) W = _; cases (BitVec.setWidth 32 v).ult 32#32 <;> rfl
    case prio =>
      simp only [w1, BitVec.reduceBEq, cond_true]
      cases (0#64).slt V.2 with
      | false => rfl
      | true =>
        simp only [cond_true]
        unfold rdP
        cases hw : W.1 == 1#64 with
        | false => rfl
        | true =>
          simp only [cond_true]
          rw [cell32_set _ _ _ _ (by rw [h.lpr]; exact w2), if_neg]
          intro hn
          rcases hJ with z | ⟨z1, z2, _, z4⟩ | ⟨z, _, _⟩ | ⟨z, _, _⟩ | ⟨z, _, _⟩ | ⟨z, _, _⟩ | ⟨z, _, _⟩ | ⟨z, _, _⟩ | ⟨z, _, _⟩
          case prio => exact heq ⟨ws, BitVec.eq_of_toNat_eq (by omega)⟩
          all_goals (subst z; exact absurd hw (by decide))
    all_goals
      subst w
      simp only [BitVec.reduceBEq, cond_true, cond_false]
      unfold rdP
      rcases hJ with z | ⟨z1, z2, _, z4⟩ | ⟨z, _, z4⟩ | ⟨z, _, z4⟩ | ⟨z, _, z4⟩ | ⟨z, _, z4⟩ | ⟨z, _, z4⟩ | ⟨z, _, z4⟩ | ⟨z, _, z4⟩
      case prio => simp only [z1, BitVec.reduceBEq, cond_true]
      all_goals first
        | (exfalso; exact heq ⟨ws, z4.trans w4.symm⟩)
        | (subst z; exact absurd hb (by decide))
        | (subst z; rfl)
        | (subst z; simp only [BitVec.reduceBEq, cond_true, cond_false]
           first
             | (rw [cell32_set _ _ _ _ (by rw [h.len]; decide), if_neg (by decide)])
             | (rw [cell32_set _ _ _ _ (by rw [h.lth]; decide), if_neg (by decide)]))
theorem rgW_get (p : PSt) (j : Nat) (hj : j < 37) : asU64 (((rgW p).getD j []).headD .any) = rdP p (v_plic_which (rgo j) 4#64) := by
  unfold rgW
  simp [List.getD, hj]
theorem rg_first (p : PSt) (h : POk p) (off size v : BitVec 64) (stored t0 : Bool) :
    g_rg (.a (v_stP p off size v).pr (v_stP p off size v).pe (v_stP p off size v).se (v_stP p off size v).en (v_stP p off size v).th off size v 37 37 (rgW p) 37 37 rgR stored t0 0#64) = true := by
  refine g_rg_ok ⟨rfl, rfl, rfl, rfl, rfl, rfl, fun j hj => ?_⟩
  rw [rgW_get p j hj]
  exact regs_store p h off size v j hj
theorem stB_size (off size : BitVec 64) (h : (size == 4#64) = false) : v_stB off size = false := by
  unfold v_stB
  rw [which_eq, h]; rfl
theorem stB_any (off : BitVec 64) : v_stB off 4#64 = ((off == 2097156#64 || off == 2101252#64) || (List.range 37).any fun j => rgo j == off) := by
  have hW := which_reg off 4#64
  have hR : ((off == 2097156#64 || off == 2101252#64) || (List.range 37).any fun j => rgo j == off) = true → v_stB off 4#64 = true := by
    intro h
    simp only [Bool.or_eq_true, beq_iff_eq, List.any_eq_true, List.mem_range] at h
    rcases h with (rfl | rfl) | ⟨j, hj, rfl⟩
    · decide
    · decide
    · have hb := rg_which j hj
      unfold v_stB
      unfold rgB at hb
      simp only [Bool.or_eq_true, Bool.and_eq_true, beq_iff_eq] at hb
      rcases hb with ⟨e, _⟩ | e | ⟨e, _⟩ | ⟨e, _⟩ <;> rw [e] <;> rfl
  have hL : v_stB off 4#64 = true → ((off == 2097156#64 || off == 2101252#64) || (List.range 37).any fun j => rgo j == off) = true := by
    intro h
    have mem : ∀ j, j < 37 → rgo j = off → ((off == 2097156#64 || off == 2101252#64) || (List.range 37).any fun j => rgo j == off) = true := fun j hj e => by
      rw [Bool.or_eq_true]; right
      exact List.any_eq_true.2 ⟨j, List.mem_range.2 hj, by rw [e]; simp⟩
    unfold v_stB at h
    rcases hW with w | ⟨w1, w2, _, w4⟩ | ⟨_, _, w4⟩ | ⟨_, _, w4⟩ | ⟨_, _, w4⟩ | ⟨_, _, w4⟩ | ⟨_, _, w4⟩ | ⟨_, _, w4⟩ | ⟨_, _, w4⟩
    case none => rw [w] at h; exact absurd h (by decide)
    case prio =>
      have q : ∀ n : Fin 32, (rgo (5 + n.val)).toNat = 4 * n.val := by decide +kernel
      exact mem (5 + (v_plic_which off 4#64).2.toNat) (by omega) (BitVec.eq_of_toNat_eq (by rw [q ⟨_, w2⟩]; exact w4.symm))
    case pend => exact mem 0 (by decide) (by rw [w4]; rfl)
    case en0 => exact mem 1 (by decide) (by rw [w4]; rfl)
    case en1 => exact mem 2 (by decide) (by rw [w4]; rfl)
    case th0 => exact mem 3 (by decide) (by rw [w4]; rfl)
    case th1 => exact mem 4 (by decide) (by rw [w4]; rfl)
    case cl0 => rw [w4]; rfl
    case cl1 => rw [w4]; rfl
  cases h1 : v_stB off 4#64 with
  | true => exact (hL h1).symm
  | false =>
    cases h2 : ((off == 2097156#64 || off == 2101252#64) || (List.range 37).any fun j => rgo j == off) with
    | false => rfl
    | true => rw [hR h2] at h1; exact absurd h1 (by decide)
theorem plicRegisters_end (off size : BitVec 64) (A B : Bool) (hA : A = true) (hB : B = true) :
    cond (off == 2097156#64) (cond A (cond (size == 4#64) (cond (v_stB off size == v_rgAny off size true) (some (AV.bool true)) (some (AV.bool false))) (cond (v_stB off size == false) (some (AV.bool true)) (some (AV.bool false)))) none)
      (cond B (cond (size == 4#64) (cond (v_stB off size == v_rgAny off size (off == 2101252#64)) (some (AV.bool true)) (some (AV.bool false))) (cond (v_stB off size == false) (some (AV.bool true)) (some (AV.bool false)))) none) = some (.bool true) := by
  subst hA; subst hB
  cases hs : (size == 4#64) with
  | false => rw [stB_size off size hs]; cases (off == 2097156#64) <;> rfl
  | true =>
    have e : size = 4#64 := by simpa using hs
    subst e
    rw [stB_any]
    unfold v_rgAny rgAny
    simp only [beq_self_eq_true, Bool.true_and]
    cases (off == 2097156#64) <;> cases (off == 2101252#64) <;> cases ((List.range 37).any fun j => rgo j == off) <;> rfl
theorem plicRegisters_r (n : Nat) (d : List (List AV)) (off size v : BitVec 64) (hl : d.length = n) (hf : fitsAll [.int .i64, .int .i64, .int .i64, .int .u64, .int .u32] d = true) (hn : n < 2 ^ 63) : t_PlicRegisters_r n d off size v = some (.bool true) := by
  have hg := g_dn_ok (dn_first n d hn)
  have hok : POk (dnP n d) := (v_dn_ok (dn_first n d hn)).1
  unfold t_PlicRegisters_r
  rw [hg, g_stq_ok hok]
  cases (300#64).slt (BitVec.ofNat 64 n) with
  | true => rfl
  | false => exact plicRegisters_end off size _ _ (rg_first _ hok off size v _ _) (rg_first _ hok off size v _ _)
theorem plicRegisters_n (off size v : BitVec 64) : t_PlicRegisters_n off size v = some (.bool true) := by
  have hok : POk p00 := (dn_first 0 [] (by decide)).1
  unfold t_PlicRegisters_n
  exact plicRegisters_end off size _ _ (rg_first p00 hok off size v _ _) (rg_first p00 hok off size v _ _)
end Go.Sx

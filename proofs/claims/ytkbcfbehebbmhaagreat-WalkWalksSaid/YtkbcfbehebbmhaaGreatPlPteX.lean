/- Several texts in one. -/
import Derived.Test.YtkbcfbehebbmhaaGreatSxX
import Derived.Test.YtkbcfbehebbmhaaGreatSxLen2
import Derived.Test.YtkbcfbehebbmhaaGreatSxEC
import Derived.Test.YtkbcfbehebbmhaaGreatVa03
import Derived.Test.YtkbcfbehebbmhaaGreatVa21z
import Derived.Test.YtkbcfbehebbmhaaGreatPlPteC
set_option linter.unusedSimpArgs false
set_option linter.unusedVariables false
set_option linter.unnecessarySimpa false
/- What loops do, round by round. -/
namespace Go.Sx
open Go

/-! ### the document: is an entry right? (2) -/
inductive Mr2S where
  | a (p : BitVec 64)
inductive Mr2R where
  | r (r : Bool)
def mr2A : Mr2S → List AV
  | .a p => [.int .u64 p, .int .i64 2#64]
def mr2H : Mr2S → Heap
  | .a _ => []
def mr2Dec (args : List AV) (H : Heap) : Option Mr2S := match args, H with
  | [.int .u64 p, .int .i64 lv], [] => bif Nat.beq lv.toNat 2 then some (.a p) else none
  | _, _ => none
theorem mr2Dec_ok (args : List AV) (H : Heap) (x : Mr2S) (h : mr2Dec args H = some x) : args = mr2A x ∧ H = mr2H x := by
  unfold mr2Dec at h
  split at h
  all_goals (try simp only [cond_eq_ite, Bool.and_eq_true, beq_true] at h)
  all_goals (repeat' split at h)
  all_goals first
    | (cases h; done)
    | (obtain rfl := lit64d (n := 2) (by assumption) (by decide); cases h; exact ⟨rfl, rfl⟩)
    | (cases h; exact ⟨rfl, rfl⟩)
def mr2U : Mr2R → AV × Eff × Nat
  | .r r => (.bool r, [], 0)
def mr2DecR (v : AV) (e : Eff) (k : Nat) : Option Mr2R := match v, e, k with
  | .bool r, [], 0 => some (.r r)
  | _, _, _ => none
theorem mr2DecR_ok (v : AV) (e : Eff) (k : Nat) (z : Mr2R) (h : mr2DecR v e k = some z) : (v, e, k) = mr2U z := by
  unfold mr2DecR at h
  split at h
  all_goals first
    | (cases h; done)
    | (cases h; rfl)
noncomputable def mr2Step : Mr2S → Option Mr2R
 | .a p =>
 (cond (!v_r20_bit p 0#64)
 (some (Mr2R.r false))
 (cond (v_r20_bit p 2#64)
 (cond (!v_r20_bit p 1#64)
 (some (Mr2R.r false))
 (cond (!p / 18014398509481984#64 % 256#64 == 0#64)
 (some (Mr2R.r false))
 (cond (v_r20_Leaf p)
 (some (Mr2R.r (v_r20_Page p * 4096#64 % 1073741824#64 == 0#64)))
 (cond (!v_r20_bit p 6#64)
 (cond (!v_r20_bit p 7#64)
 (cond (!v_r20_bit p 4#64)
 (cond (!v_r20_bit p 62#64)
 (some (Mr2R.r !v_r20_bit p 63#64))
 (some (Mr2R.r false)))
 (some (Mr2R.r false)))
 (some (Mr2R.r false)))
 (some (Mr2R.r false))))))
 (cond (!p / 18014398509481984#64 % 256#64 == 0#64)
 (some (Mr2R.r false))
 (cond (v_r20_Leaf p)
 (some (Mr2R.r (v_r20_Page p * 4096#64 % 1073741824#64 == 0#64)))
 (cond (!v_r20_bit p 6#64)
 (cond (!v_r20_bit p 7#64)
 (cond (!v_r20_bit p 4#64)
 (cond (!v_r20_bit p 62#64)
 (some (Mr2R.r !v_r20_bit p 63#64))
 (some (Mr2R.r false)))
 (some (Mr2R.r false)))
 (some (Mr2R.r false)))
 (some (Mr2R.r false)))))))

/-! ### the document: is an entry right? (1) -/
inductive Mr1S where
  | a (p : BitVec 64)
inductive Mr1R where
  | r (r : Bool)
def mr1A : Mr1S → List AV
  | .a p => [.int .u64 p, .int .i64 1#64]
def mr1H : Mr1S → Heap
  | .a _ => []
def mr1Dec (args : List AV) (H : Heap) : Option Mr1S := match args, H with
  | [.int .u64 p, .int .i64 lv], [] => bif Nat.beq lv.toNat 1 then some (.a p) else none
  | _, _ => none
theorem mr1Dec_ok (args : List AV) (H : Heap) (x : Mr1S) (h : mr1Dec args H = some x) : args = mr1A x ∧ H = mr1H x := by
  unfold mr1Dec at h
  split at h
  all_goals (try simp only [cond_eq_ite, Bool.and_eq_true, beq_true] at h)
  all_goals (repeat' split at h)
  all_goals first
    | (cases h; done)
    | (obtain rfl := lit64d (n := 1) (by assumption) (by decide); cases h; exact ⟨rfl, rfl⟩)
    | (cases h; exact ⟨rfl, rfl⟩)
def mr1U : Mr1R → AV × Eff × Nat
  | .r r => (.bool r, [], 0)
def mr1DecR (v : AV) (e : Eff) (k : Nat) : Option Mr1R := match v, e, k with
  | .bool r, [], 0 => some (.r r)
  | _, _, _ => none
theorem mr1DecR_ok (v : AV) (e : Eff) (k : Nat) (z : Mr1R) (h : mr1DecR v e k = some z) : (v, e, k) = mr1U z := by
  unfold mr1DecR at h
  split at h
  all_goals first
    | (cases h; done)
    | (cases h; rfl)
noncomputable def mr1Step : Mr1S → Option Mr1R
 | .a p =>
 (cond (!v_r20_bit p 0#64)
 (some (Mr1R.r false))
 (cond (v_r20_bit p 2#64)
 (cond (!v_r20_bit p 1#64)
 (some (Mr1R.r false))
 (cond (!p / 18014398509481984#64 % 256#64 == 0#64)
 (some (Mr1R.r false))
 (cond (v_r20_Leaf p)
 (some (Mr1R.r (v_r20_Page p * 4096#64 % 2097152#64 == 0#64)))
 (cond (!v_r20_bit p 6#64)
 (cond (!v_r20_bit p 7#64)
 (cond (!v_r20_bit p 4#64)
 (cond (!v_r20_bit p 62#64)
 (some (Mr1R.r !v_r20_bit p 63#64))
 (some (Mr1R.r false)))
 (some (Mr1R.r false)))
 (some (Mr1R.r false)))
 (some (Mr1R.r false))))))
 (cond (!p / 18014398509481984#64 % 256#64 == 0#64)
 (some (Mr1R.r false))
 (cond (v_r20_Leaf p)
 (some (Mr1R.r (v_r20_Page p * 4096#64 % 2097152#64 == 0#64)))
 (cond (!v_r20_bit p 6#64)
 (cond (!v_r20_bit p 7#64)
 (cond (!v_r20_bit p 4#64)
 (cond (!v_r20_bit p 62#64)
 (some (Mr1R.r !v_r20_bit p 63#64))
 (some (Mr1R.r false)))
 (some (Mr1R.r false)))
 (some (Mr1R.r false)))
 (some (Mr1R.r false)))))))

/-! ### the document: is an entry right? (0) -/
inductive Mr0S where
  | a (p : BitVec 64)
inductive Mr0R where
  | r (r : Bool)
def mr0A : Mr0S → List AV
  | .a p => [.int .u64 p, .int .i64 0#64]
def mr0H : Mr0S → Heap
  | .a _ => []
def mr0Dec (args : List AV) (H : Heap) : Option Mr0S := match args, H with
  | [.int .u64 p, .int .i64 lv], [] => bif Nat.beq lv.toNat 0 then some (.a p) else none
  | _, _ => none
theorem mr0Dec_ok (args : List AV) (H : Heap) (x : Mr0S) (h : mr0Dec args H = some x) : args = mr0A x ∧ H = mr0H x := by
  unfold mr0Dec at h
  split at h
  all_goals (try simp only [cond_eq_ite, Bool.and_eq_true, beq_true] at h)
  all_goals (repeat' split at h)
  all_goals first
    | (cases h; done)
    | (obtain rfl := lit64d (n := 0) (by assumption) (by decide); cases h; exact ⟨rfl, rfl⟩)
    | (cases h; exact ⟨rfl, rfl⟩)
def mr0U : Mr0R → AV × Eff × Nat
  | .r r => (.bool r, [], 0)
def mr0DecR (v : AV) (e : Eff) (k : Nat) : Option Mr0R := match v, e, k with
  | .bool r, [], 0 => some (.r r)
  | _, _, _ => none
theorem mr0DecR_ok (v : AV) (e : Eff) (k : Nat) (z : Mr0R) (h : mr0DecR v e k = some z) : (v, e, k) = mr0U z := by
  unfold mr0DecR at h
  split at h
  all_goals first
    | (cases h; done)
    | (cases h; rfl)
noncomputable def mr0Step : Mr0S → Option Mr0R
 | .a p =>
 (cond (!v_r20_bit p 0#64)
 (some (Mr0R.r false))
 (cond (v_r20_bit p 2#64)
 (cond (!v_r20_bit p 1#64)
 (some (Mr0R.r false))
 (cond (!p / 18014398509481984#64 % 256#64 == 0#64)
 (some (Mr0R.r false))
 (cond (v_r20_Leaf p)
 (some (Mr0R.r (v_r20_Page p * 4096#64 % 4096#64 == 0#64)))
 (some (Mr0R.r false)))))
 (cond (!p / 18014398509481984#64 % 256#64 == 0#64)
 (some (Mr0R.r false))
 (cond (v_r20_Leaf p)
 (some (Mr0R.r (v_r20_Page p * 4096#64 % 4096#64 == 0#64)))
 (some (Mr0R.r false))))))
end Go.Sx

/- Entries of page tables: the document's answer is the program's. -/
namespace Go.Sx
open Go
theorem right_2 (p : BitVec 64) : mr2Step (.a p) = some (.r (v_pte_Right p 2#64)) := by
  have hal := page_al p 18 1073741824#64 (1#64 <<< min (9#64 * 2#64).toNat 64 - 1#64) (by decide) (by decide) (by decide)
  unfold mr2Step v_pte_Right
  dsimp only
  rw [show (2#64 : BitVec 64).slt 0#64 = false by decide, show (2#64).slt (2#64 : BitVec 64) = false by decide, show (0#64).slt (2#64 : BitVec 64) = true by decide, ← hal]
  have hL : v_pte_entry_leaf p = v_pte_Leaf p := rfl
  rw [hL, has_top, has_res, hasb p 1#64 0 (by decide) (by decide), hasb p 4#64 2 (by decide) (by decide), hasb p 2#64 1 (by decide) (by decide)]
  simp only [leaf_eq, page_eq, xbit p 0#64 0 (by decide), xbit p 1#64 1 (by decide), xbit p 2#64 2 (by decide), xbit p 4#64 4 (by decide), xbit p 6#64 6 (by decide), xbit p 7#64 7 (by decide), xbit p 62#64 62 (by decide), xbit p 63#64 63 (by decide)]
  generalize v_pte_Leaf p = l
  generalize (v_pte_entry_page p * 4096#64 % 1073741824#64 == 0#64) = al
  generalize (p / 18014398509481984#64 % 256#64 == 0#64) = re
  generalize p.getLsbD 0 = b0
  generalize p.getLsbD 1 = b1
  generalize p.getLsbD 2 = b2
  generalize p.getLsbD 4 = b4
  generalize p.getLsbD 6 = b6
  generalize p.getLsbD 7 = b7
  generalize p.getLsbD 62 = b62
  generalize p.getLsbD 63 = b63
  cases b0
  · rfl
  · cases b2 <;> cases b1 <;> cases re <;> cases l <;> first | rfl | (cases b4 <;> cases b6 <;> cases b7 <;> cases b62 <;> cases b63 <;> rfl)
noncomputable def mr2Cps : ECps Mr2S Mr2R := fun R x K => match x with
  | .a p => K (.r (v_pte_Right p 2#64))
theorem mr2Cps_ok : ECok mr2Step mr2Cps := by
  intro R x K r h
  cases x with
  | a p => exact ⟨_, right_2 p, h⟩
theorem right_1 (p : BitVec 64) : mr1Step (.a p) = some (.r (v_pte_Right p 1#64)) := by
  have hal := page_al p 9 2097152#64 (1#64 <<< min (9#64 * 1#64).toNat 64 - 1#64) (by decide) (by decide) (by decide)
  unfold mr1Step v_pte_Right
  dsimp only
  rw [show (1#64 : BitVec 64).slt 0#64 = false by decide, show (2#64).slt (1#64 : BitVec 64) = false by decide, show (0#64).slt (1#64 : BitVec 64) = true by decide, ← hal]
  have hL : v_pte_entry_leaf p = v_pte_Leaf p := rfl
  rw [hL, has_top, has_res, hasb p 1#64 0 (by decide) (by decide), hasb p 4#64 2 (by decide) (by decide), hasb p 2#64 1 (by decide) (by decide)]
  simp only [leaf_eq, page_eq, xbit p 0#64 0 (by decide), xbit p 1#64 1 (by decide), xbit p 2#64 2 (by decide), xbit p 4#64 4 (by decide), xbit p 6#64 6 (by decide), xbit p 7#64 7 (by decide), xbit p 62#64 62 (by decide), xbit p 63#64 63 (by decide)]
  generalize v_pte_Leaf p = l
  generalize (v_pte_entry_page p * 4096#64 % 2097152#64 == 0#64) = al
  generalize (p / 18014398509481984#64 % 256#64 == 0#64) = re
  generalize p.getLsbD 0 = b0
  generalize p.getLsbD 1 = b1
  generalize p.getLsbD 2 = b2
  generalize p.getLsbD 4 = b4
  generalize p.getLsbD 6 = b6
  generalize p.getLsbD 7 = b7
  generalize p.getLsbD 62 = b62
  generalize p.getLsbD 63 = b63
  cases b0
  · rfl
  · cases b2 <;> cases b1 <;> cases re <;> cases l <;> first | rfl | (cases b4 <;> cases b6 <;> cases b7 <;> cases b62 <;> cases b63 <;> rfl)
noncomputable def mr1Cps : ECps Mr1S Mr1R := fun R x K => match x with
  | .a p => K (.r (v_pte_Right p 1#64))
theorem mr1Cps_ok : ECok mr1Step mr1Cps := by
  intro R x K r h
  cases x with
  | a p => exact ⟨_, right_1 p, h⟩
theorem right_0 (p : BitVec 64) : mr0Step (.a p) = some (.r (v_pte_Right p 0#64)) := by
  have hal := page_al p 0 4096#64 (1#64 <<< min (9#64 * 0#64).toNat 64 - 1#64) (by decide) (by decide) (by decide)
  unfold mr0Step v_pte_Right
  dsimp only
  rw [show (0#64 : BitVec 64).slt 0#64 = false by decide, show (2#64).slt (0#64 : BitVec 64) = false by decide, ← hal]
  have hL : v_pte_entry_leaf p = v_pte_Leaf p := rfl
  rw [hL, has_top, has_res, hasb p 1#64 0 (by decide) (by decide), hasb p 4#64 2 (by decide) (by decide), hasb p 2#64 1 (by decide) (by decide)]
  simp only [leaf_eq, page_eq, xbit p 0#64 0 (by decide), xbit p 1#64 1 (by decide), xbit p 2#64 2 (by decide), xbit p 4#64 4 (by decide), xbit p 6#64 6 (by decide), xbit p 7#64 7 (by decide), xbit p 62#64 62 (by decide), xbit p 63#64 63 (by decide)]
  generalize v_pte_Leaf p = l
  generalize (v_pte_entry_page p * 4096#64 % 4096#64 == 0#64) = al
  generalize (p / 18014398509481984#64 % 256#64 == 0#64) = re
  generalize p.getLsbD 0 = b0
  generalize p.getLsbD 1 = b1
  generalize p.getLsbD 2 = b2
  generalize p.getLsbD 4 = b4
  generalize p.getLsbD 6 = b6
  generalize p.getLsbD 7 = b7
  generalize p.getLsbD 62 = b62
  generalize p.getLsbD 63 = b63
  cases b0
  · rfl
  · cases b2 <;> cases b1 <;> cases re <;> cases l <;> first | rfl | (cases b4 <;> cases b6 <;> cases b7 <;> cases b62 <;> cases b63 <;> rfl)
noncomputable def mr0Cps : ECps Mr0S Mr0R := fun R x K => match x with
  | .a p => K (.r (v_pte_Right p 0#64))
theorem mr0Cps_ok : ECok mr0Step mr0Cps := by
  intro R x K r h
  cases x with
  | a p => exact ⟨_, right_0 p, h⟩
end Go.Sx


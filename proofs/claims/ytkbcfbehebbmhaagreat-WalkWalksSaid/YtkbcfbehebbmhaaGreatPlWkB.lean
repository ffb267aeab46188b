/- A walk, as one answer: where it read, why it ended, what was found. -/
import Derived.Test.YtkbcfbehebbmhaaGreatVl21a
set_option linter.unusedSimpArgs false
set_option linter.unusedVariables false
set_option linter.unnecessarySimpa false
namespace Go.Sx
open Go
structure Wk where
  A : List (BitVec 64)
  why : BitVec 64
  asid : BitVec 64
  lev : BitVec 64
  page : BitVec 64
  pte : BitVec 64
  at_ : BitVec 64
  wr : Bool
def wkNo (A : List (BitVec 64)) (why : BitVec 64) : Wk := ⟨A, why, 0#64, 0#64, 0#64, 0#64, 0#64, false⟩
def wkBad (va : BitVec 64) : Bool := !((BitVec.setWidth 64 va <<< 25).sshiftRight 25 == BitVec.setWidth 64 va)
def wkIn (n : Nat) (a : BitVec 64) : Bool := v_reg (2147483648#64) (BitVec.signExtend 64 (BitVec.ofNat 64 n)) a 8#64
def wkRd (n : Nat) (d : List (List AV)) (a : BitVec 64) : BitVec 64 := v_lV n d (a - 2147483648#64) 8#64
def wkAt (t va : BitVec 64) (s : Nat) : BitVec 64 := (t &&& 17592186044415#64) <<< 12 + (va >>> s &&& 511#64) * 8#64
def wkLeaf (satp va kind priv mst p lev mask a : BitVec 64) (A : List (BitVec 64)) : Wk :=
  cond (v_pte_May p kind priv mst) ⟨A, 0#64, BitVec.setWidth 64 (satp >>> 44 &&& 65535#64), lev, va >>> 12 &&& mask, v_pte_Mark p kind, a, !(v_pte_Mark p kind == p)⟩ (wkNo A 1#64)
def wk0 (n : Nat) (d : List (List AV)) (satp va kind priv mst p1 : BitVec 64) (A : List (BitVec 64)) : Wk :=
  cond (wkIn n (wkAt (p1 >>> 10) va 12)) (cond (v_pte_Right (wkRd n d (wkAt (p1 >>> 10) va 12)) 0#64)
    (cond (v_pte_Leaf (wkRd n d (wkAt (p1 >>> 10) va 12)))
      (wkLeaf satp va kind priv mst (wkRd n d (wkAt (p1 >>> 10) va 12)) 0#64 18446744073709551615#64 (wkAt (p1 >>> 10) va 12) (A ++ [wkAt (p1 >>> 10) va 12]))
      (wkNo (A ++ [wkAt (p1 >>> 10) va 12]) 1#64))
    (wkNo (A ++ [wkAt (p1 >>> 10) va 12]) 1#64)) (wkNo A 2#64)
def wk1 (n : Nat) (d : List (List AV)) (satp va kind priv mst p2 : BitVec 64) (A : List (BitVec 64)) : Wk :=
  cond (wkIn n (wkAt (p2 >>> 10) va 21)) (cond (v_pte_Right (wkRd n d (wkAt (p2 >>> 10) va 21)) 1#64)
    (cond (v_pte_Leaf (wkRd n d (wkAt (p2 >>> 10) va 21)))
      (wkLeaf satp va kind priv mst (wkRd n d (wkAt (p2 >>> 10) va 21)) 1#64 18446744073709551104#64 (wkAt (p2 >>> 10) va 21) (A ++ [wkAt (p2 >>> 10) va 21]))
      (wk0 n d satp va kind priv mst (wkRd n d (wkAt (p2 >>> 10) va 21)) (A ++ [wkAt (p2 >>> 10) va 21])))
    (wkNo (A ++ [wkAt (p2 >>> 10) va 21]) 1#64)) (wkNo A 2#64)
def wk2 (n : Nat) (d : List (List AV)) (satp va kind priv mst : BitVec 64) : Wk :=
  cond (wkIn n (wkAt satp va 30)) (cond (v_pte_Right (wkRd n d (wkAt satp va 30)) 2#64)
    (cond (v_pte_Leaf (wkRd n d (wkAt satp va 30)))
      (wkLeaf satp va kind priv mst (wkRd n d (wkAt satp va 30)) 2#64 18446744073709289472#64 (wkAt satp va 30) [wkAt satp va 30])
      (wk1 n d satp va kind priv mst (wkRd n d (wkAt satp va 30)) [wkAt satp va 30]))
    (wkNo [wkAt satp va 30] 1#64)) (wkNo [] 2#64)
def v_wk (n : Nat) (d : List (List AV)) (satp va kind priv mst : BitVec 64) : Wk := cond (wkBad va) (wkNo [] 1#64) (wk2 n d satp va kind priv mst)
def v_wkD (n : Nat) (d : List (List AV)) (W : Wk) : List (List AV) := cond W.wr (v_sD n d (W.at_ - 2147483648#64) 8#64 W.pte) d
def v_wkT (n : Nat) (tg : List (List AV)) (W : Wk) : List (List AV) := cond W.wr (v_sT n tg (W.at_ - 2147483648#64) 8#64) tg
def v_wkE (W : Wk) : Bool := W.A.isEmpty
def v_wkL (W : Wk) : List (BitVec 64) := cond W.wr (W.A ++ [W.at_]) W.A
def wkRow (va a : BitVec 64) : List AV := [AV.int IntKind.i64 4#64, AV.int IntKind.i64 64#64, AV.int IntKind.i64 8#64, AV.int IntKind.u64 va, AV.int IntKind.u64 a]
def v_wkG (va : BitVec 64) (W : Wk) : List (List AV) := (v_wkL W).map (wkRow va)
def v_wkN (W : Wk) : Nat := (v_wkL W).length
theorem gR2 (p : BitVec 64) : g_pte_Right p 2#64 = true := by
  unfold g_pte_Right
  simp (decide := true)
theorem gR1 (p : BitVec 64) : g_pte_Right p 1#64 = true := by
  unfold g_pte_Right
  simp (decide := true)
theorem gR0 (p : BitVec 64) : g_pte_Right p 0#64 = true := by
  unfold g_pte_Right
  simp (decide := true)
noncomputable def mwkOut (n : Nat) (tg : List (List AV)) (m : Nat) (d : List (List AV)) (b0 b3 b4 b5 b6 : Blk) (va : BitVec 64) (W : Wk) : MwkR :=
  cond (v_wkE W) (.z n tg m d b0 b3 b4 b5 b6 0#64 0#64 0#64 0#64 W.why)
    (.s n (v_wkT n tg W) m (v_wkD n d W) b0 b3 b4 b5 b6 W.asid W.lev W.page W.pte W.why (v_wkN W) (v_wkN W) (v_wkG va W))
theorem wkAt_fold (t va : BitVec 64) (s : Nat) : (t &&& 17592186044415#64) <<< 12 + (va >>> s &&& 511#64) * 8#64 = wkAt t va s := rfl
theorem wkRd_fold (n : Nat) (d : List (List AV)) (a : BitVec 64) : v_lV n d (a - 2147483648#64) 8#64 = wkRd n d a := rfl
theorem wkIn_fold (n : Nat) (a : BitVec 64) : v_reg (2147483648#64) (BitVec.signExtend 64 (BitVec.ofNat 64 n)) a 8#64 = wkIn n a := rfl
theorem mwk_step (n : Nat) (tg : List (List AV)) (m : Nat) (d : List (List AV)) (c0 c1 c2 : BitVec 64) (pr : List (List AV)) (p1 p2 : BitVec 32) (en th q : List (List AV)) (u1 u2 : BitVec 64) (u3 w : Bool) (satp va kind priv mst : BitVec 64) (hg : g_ram n tg m d = true) :
    mwkStep (.a n tg m d c0 c1 c2 pr p1 p2 en th q u1 u2 u3 w satp va kind priv mst) = some (mwkOut n tg m d bus0 (bClint c0 c1 c2) (bPlic pr p1 p2 en th) (bUart q u1 u2 u3) (bPow w) va (v_wk n d satp va kind priv mst)) := by
  unfold mwkStep
  simp only [hg, cond_true, gR2, gR1, gR0, wkAt_fold, wkRd_fold, wkIn_fold]
  unfold v_wk
  have hbad : (!(BitVec.setWidth 64 va <<< 25).sshiftRight 25 == BitVec.setWidth 64 va) = wkBad va := rfl
  rw [hbad]
  cases wkBad va with
  | true => rfl
  | false =>
  rw [cond_false, cond_false]
  unfold wk2
  generalize wkAt satp va 30 = A2
  cases hi2 : wkIn n A2 with
  | false => rfl
  | true =>
  simp only [Bool.not_true, Bool.not_false, cond_true, cond_false]
  generalize wkRd n d A2 = P2
  cases v_pte_Right P2 2#64 with
  | false => rfl
  | true =>
  simp only [Bool.not_true, Bool.not_false, cond_true, cond_false]
  cases v_pte_Leaf P2 with
  | true =>
    simp only [cond_true, wkLeaf]
    cases v_pte_May P2 kind priv mst with
    | false => rfl
    | true =>
      cases hq : (v_pte_Mark P2 kind == P2) <;> simp only [hq, Bool.not_true, Bool.not_false, cond_true, cond_false] <;> rfl
  | false =>
  simp only [cond_false]
  unfold wk1
  generalize wkAt (P2 >>> 10) va 21 = A1
  cases hi1 : wkIn n A1 with
  | false => rfl
  | true =>
  simp only [Bool.not_true, Bool.not_false, cond_true, cond_false]
  generalize wkRd n d A1 = P1
  cases v_pte_Right P1 1#64 with
  | false => rfl
  | true =>
  simp only [Bool.not_true, Bool.not_false, cond_true, cond_false]
  cases v_pte_Leaf P1 with
  | true =>
    simp only [cond_true, wkLeaf]
    cases v_pte_May P1 kind priv mst with
    | false => rfl
    | true =>
      cases hq : (v_pte_Mark P1 kind == P1) <;> simp only [hq, Bool.not_true, Bool.not_false, cond_true, cond_false] <;> rfl
  | false =>
  simp only [cond_false]
  unfold wk0
  generalize wkAt (P1 >>> 10) va 12 = A0
  cases hi0 : wkIn n A0 with
  | false => rfl
  | true =>
  simp only [Bool.not_true, Bool.not_false, cond_true, cond_false]
  generalize wkRd n d A0 = P0
  cases v_pte_Right P0 0#64 with
  | false => rfl
  | true =>
  simp only [Bool.not_true, Bool.not_false, cond_true, cond_false]
  cases v_pte_Leaf P0 with
  | true =>
    simp only [cond_true, wkLeaf]
    cases v_pte_May P0 kind priv mst with
    | false => rfl
    | true =>
      cases hq : (v_pte_Mark P0 kind == P0) <;> simp only [hq, Bool.not_true, Bool.not_false, cond_true, cond_false] <;> rfl
  | false => rfl
def g_rmw (n : Nat) (tg : List (List AV)) (m : Nat) (d : List (List AV)) : Bool := Nat.beq tg.length 64 && g_ram n tg m d
noncomputable def mwkCps : ECps MwkS MwkR := fun R x K => match x with
  | .a n tg m d c0 c1 c2 pr p1 p2 en th q u1 u2 u3 w satp va kind priv mst =>
    cond (g_rmw n tg m d) (cond (v_wkE (v_wk n d satp va kind priv mst))
      (K (.z n tg m d bus0 (bClint c0 c1 c2) (bPlic pr p1 p2 en th) (bUart q u1 u2 u3) (bPow w) 0#64 0#64 0#64 0#64 (v_wk n d satp va kind priv mst).why))
      (K (.s n (v_wkT n tg (v_wk n d satp va kind priv mst)) m (v_wkD n d (v_wk n d satp va kind priv mst)) bus0 (bClint c0 c1 c2) (bPlic pr p1 p2 en th) (bUart q u1 u2 u3) (bPow w) (v_wk n d satp va kind priv mst).asid (v_wk n d satp va kind priv mst).lev (v_wk n d satp va kind priv mst).page (v_wk n d satp va kind priv mst).pte (v_wk n d satp va kind priv mst).why (v_wkN (v_wk n d satp va kind priv mst)) (v_wkN (v_wk n d satp va kind priv mst)) (v_wkG va (v_wk n d satp va kind priv mst))))) none
theorem mwkCps_ok : ECok mwkStep mwkCps := by
  intro R x K r h
  cases x with
  | a n tg m d c0 c1 c2 pr p1 p2 en th q u1 u2 u3 w satp va kind priv mst =>
    obtain ⟨hg, h⟩ := condK h
    have hg : g_ram n tg m d = true := by unfold g_rmw at hg; rw [Bool.and_eq_true] at hg; exact hg.2
    refine ⟨_, mwk_step n tg m d c0 c1 c2 pr p1 p2 en th q u1 u2 u3 w satp va kind priv mst hg, ?_⟩
    unfold mwkOut
    cases hE : v_wkE (v_wk n d satp va kind priv mst) with
    | true => rw [hE] at h; exact h
    | false => rw [hE] at h; exact h
end Go.Sx

/- More kinds of plain values: numbers of two words, traps, questions, processors; entries of five and six arguments. -/
import Derived.Test.YtmlhjbdhpojjkaaSxU
set_option linter.unusedSimpArgs false
set_option linter.unusedVariables false
set_option linter.unnecessarySimpa false
namespace Go.Sx
open Go

def decU32 : AV → Option (BitVec 32)
  | .int .u32 b => some b
  | _ => none
def dU32 : Dec (BitVec 32) := ⟨decU32, fun x => .int .u32 x, fun v a h => by unfold decU32 at h; split at h <;> cases h; rfl, fun a => rfl⟩

/-- Two words. -/
structure W2 where
  hi : BitVec 64
  lo : BitVec 64
def W2.av (r : W2) : AV := .agg [.int .u64 r.hi, .int .u64 r.lo]
def decW2 : AV → Option W2
  | .agg [.int .u64 a, .int .u64 b] => some ⟨a, b⟩
  | _ => none
def dW2 : Dec W2 := ⟨decW2, W2.av, fun v a h => by unfold decW2 at h; split at h <;> cases h; rfl, fun a => rfl⟩

/-- A trap. -/
structure Tr where
  is : Bool
  cause : BitVec 64
  val : BitVec 64
def Tr.av (r : Tr) : AV := .agg [.bool r.is, .int .i64 r.cause, .int .u64 r.val]
def decTr : AV → Option Tr
  | .agg [.bool a, .int .i64 b, .int .u64 c] => some ⟨a, b, c⟩
  | _ => none
def dTr : Dec Tr := ⟨decTr, Tr.av, fun v a h => by unfold decTr at h; split at h <;> cases h; rfl, fun a => rfl⟩

/-- A question. -/
structure Qu where
  no : Bool
  why : BitVec 64
def Qu.av (r : Qu) : AV := .agg [.bool r.no, .int .i64 r.why]
def decQu : AV → Option Qu
  | .agg [.bool a, .int .i64 b] => some ⟨a, b⟩
  | _ => none
def dQu : Dec Qu := ⟨decQu, Qu.av, fun v a h => by unfold decQu at h; split at h <;> cases h; rfl, fun a => rfl⟩

/-- A row of cells: numbers and truths, by their places. -/
structure Ht where
  e : Nat → BitVec 64
  t : Nat → Bool
/-- The kinds of a row: numbers (i64, u64) and truths. -/
inductive HK where
  | i | u | b
def rowAV (h : Ht) : List HK → Nat → List AV
  | [], _ => []
  | .i :: l, n => .int .i64 (h.e n) :: rowAV h l (n + 1)
  | .u :: l, n => .int .u64 (h.e n) :: rowAV h l (n + 1)
  | .b :: l, n => .bool (h.t n) :: rowAV h l (n + 1)
def capK : List HK := [.b, .i, .i, .i, .i, .i, .i, .b, .u]
def hartK : List HK := (List.replicate 42 capK).flatten ++ [.i, .u, .u, .u, .u, .u, .u, .u, .u, .u, .u, .u, .u, .u, .u, .u, .u, .b]
def Ht.av (h : Ht) : AV := .agg (rowAV h hartK 0)
theorem rowAV_names (h : Ht) : ∀ (l : List HK) (n : Nat), AV.namesL (rowAV h l n) = []
  | [], _ => rfl
  | .i :: l, n => by simp [rowAV, AV.namesL, AV.names, rowAV_names h l]
  | .u :: l, n => by simp [rowAV, AV.namesL, AV.names, rowAV_names h l]
  | .b :: l, n => by simp [rowAV, AV.namesL, AV.names, rowAV_names h l]

section
variable {P : Program} {α β γ δ ε ζ : Type}
def pure5 (d0 : Dec α) (d1 : Dec β) (d2 : Dec γ) (d3 : Dec δ) (d4 : Dec ε) (f : α → β → γ → δ → ε → AV) : List AV → Option AV
  | [a0, a1, a2, a3, a4] => match d0.dec a0 with
    | some x0 => match d1.dec a1 with
      | some x1 => match d2.dec a2 with
        | some x2 => match d3.dec a3 with
          | some x3 => match d4.dec a4 with
            | some x4 => some (f x0 x1 x2 x3 x4)
            | none => none
          | none => none
        | none => none
      | none => none
    | none => none
  | _ => none
theorem pure5_ok {C : Oracle} (hC : Snd P C) {F : Cfg} {g : FuncId} {fn : Func} (hfn : P.funcs[g]? = some fn) (hname : (fn.name == "runtime.NumGoroutine") = false) {d0 : Dec α} {d1 : Dec β} {d2 : Dec γ} {d3 : Dec δ} {d4 : Dec ε} {f : α → β → γ → δ → ε → AV}
    (h : ∀ x0 x1 x2 x3 x4, pureRun P C F fn [d0.av x0, d1.av x1, d2.av x2, d3.av x3, d4.av x4] = some (f x0 x1 x2 x3 x4)) (hn : ∀ x0 x1 x2 x3 x4, (f x0 x1 x2 x3 x4).names = []) : PureOK P g (pure5 d0 d1 d2 d3 d4 f) := by
  refine pureOK_of (F := F) hC hfn hname fun args v hv => ?_
  unfold pure5 at hv
  split at hv
  · split at hv
    · rename_i x0 hx0
      split at hv
      · rename_i x1 hx1
        split at hv
        · rename_i x2 hx2
          split at hv
          · rename_i x3 hx3
            split at hv
            · rename_i x4 hx4
              cases hv
              obtain rfl := d0.ok _ _ hx0
              obtain rfl := d1.ok _ _ hx1
              obtain rfl := d2.ok _ _ hx2
              obtain rfl := d3.ok _ _ hx3
              obtain rfl := d4.ok _ _ hx4
              exact ⟨h x0 x1 x2 x3 x4, by simp [AV.namesL, d0.nm, d1.nm, d2.nm, d3.nm, d4.nm], hn x0 x1 x2 x3 x4⟩
            · simp at hv
          · simp at hv
        · simp at hv
      · simp at hv
    · simp at hv
  · simp at hv
def pure6 (d0 : Dec α) (d1 : Dec β) (d2 : Dec γ) (d3 : Dec δ) (d4 : Dec ε) (d5 : Dec ζ) (f : α → β → γ → δ → ε → ζ → AV) : List AV → Option AV
  | [a0, a1, a2, a3, a4, a5] => match d0.dec a0 with
    | some x0 => match d1.dec a1 with
      | some x1 => match d2.dec a2 with
        | some x2 => match d3.dec a3 with
          | some x3 => match d4.dec a4 with
            | some x4 => match d5.dec a5 with
              | some x5 => some (f x0 x1 x2 x3 x4 x5)
              | none => none
            | none => none
          | none => none
        | none => none
      | none => none
    | none => none
  | _ => none
theorem pure6_ok {C : Oracle} (hC : Snd P C) {F : Cfg} {g : FuncId} {fn : Func} (hfn : P.funcs[g]? = some fn) (hname : (fn.name == "runtime.NumGoroutine") = false) {d0 : Dec α} {d1 : Dec β} {d2 : Dec γ} {d3 : Dec δ} {d4 : Dec ε} {d5 : Dec ζ} {f : α → β → γ → δ → ε → ζ → AV}
    (h : ∀ x0 x1 x2 x3 x4 x5, pureRun P C F fn [d0.av x0, d1.av x1, d2.av x2, d3.av x3, d4.av x4, d5.av x5] = some (f x0 x1 x2 x3 x4 x5)) (hn : ∀ x0 x1 x2 x3 x4 x5, (f x0 x1 x2 x3 x4 x5).names = []) : PureOK P g (pure6 d0 d1 d2 d3 d4 d5 f) := by
  refine pureOK_of (F := F) hC hfn hname fun args v hv => ?_
  unfold pure6 at hv
  split at hv
  · split at hv
    · rename_i x0 hx0
      split at hv
      · rename_i x1 hx1
        split at hv
        · rename_i x2 hx2
          split at hv
          · rename_i x3 hx3
            split at hv
            · rename_i x4 hx4
              split at hv
              · rename_i x5 hx5
                cases hv
                obtain rfl := d0.ok _ _ hx0
                obtain rfl := d1.ok _ _ hx1
                obtain rfl := d2.ok _ _ hx2
                obtain rfl := d3.ok _ _ hx3
                obtain rfl := d4.ok _ _ hx4
                obtain rfl := d5.ok _ _ hx5
                exact ⟨h x0 x1 x2 x3 x4 x5, by simp [AV.namesL, d0.nm, d1.nm, d2.nm, d3.nm, d4.nm, d5.nm], hn x0 x1 x2 x3 x4 x5⟩
              · simp at hv
            · simp at hv
          · simp at hv
        · simp at hv
      · simp at hv
    · simp at hv
  · simp at hv
end

/-! entries of functions that may panic: what they answer where a guard holds -/
/-- One function's answers by a law of values under a guard. -/
def pureGE (g : Nat) (s : List AV → Option AV) (C : Oracle) : Oracle := fun R g' args H N K =>
  bif Nat.beq g' g then (match s args with
    | some (.tup [.bool b, v]) => cond b (K v [] N) none
    | _ => C R g' args H N K) else C R g' args H N K
def PureGOK (P : Program) (g : FuncId) (s : List AV → Option AV) : Prop := ∀ args v, s args = some (.tup [.bool true, v]) → ∀ H N, Ans P g args H N v [] N
theorem pureGE_snd {P : Program} {g : FuncId} {s : List AV → Option AV} {C : Oracle} (hs : PureGOK P g s) (hC : Snd P C) : Snd P (pureGE g s C) := by
  intro R g' args H N K r h
  unfold pureGE at h
  cases hg : Nat.beq g' g with
  | false => rw [hg] at h; exact hC R g' args H N K r h
  | true =>
    rw [hg] at h
    have hg' : g' = g := Nat.eq_of_beq_eq_true hg
    subst hg'
    simp only [cond_true] at h
    split at h
    · rename_i b v hv
      cases b with
      | true => exact ⟨v, [], N, h, Nat.le_refl _, hs args v hv H N⟩
      | false => simp at h
    · exact hC R g' args H N K r h
theorem pureGOK_of {P : Program} {C : Oracle} (hC : Snd P C) {F : Cfg} {g : FuncId} {fn : Func} (hfn : P.funcs[g]? = some fn) (hname : (fn.name == "runtime.NumGoroutine") = false) {s : List AV → Option AV}
    (h : ∀ args v, s args = some (.tup [.bool true, v]) → pureRun P C F fn args = some v ∧ AV.namesL args = [] ∧ v.names = []) : PureGOK P g s := by
  intro args v hv H N
  obtain ⟨h1, h2, h3⟩ := h args v hv
  exact pure_sound hC hfn hname h1 h2 h3 H N
section
variable {P : Program} {α β γ δ ε ζ : Type}
theorem pure1_inv {d0 : Dec α} {f : α → AV} {args : List AV} {v : AV} (hv : pure1 d0 f args = some v) : ∃ x0, args = [d0.av x0] ∧ v = f x0 := by
  unfold pure1 at hv
  split at hv
  · split at hv
    · rename_i x0 hx0
      cases hv
      obtain rfl := d0.ok _ _ hx0
      exact ⟨x0, rfl, rfl⟩
    · simp at hv
  · simp at hv
theorem pure1_gok {C : Oracle} (hC : Snd P C) {F : Cfg} {g : FuncId} {fn : Func} (hfn : P.funcs[g]? = some fn) (hname : (fn.name == "runtime.NumGoroutine") = false) {d0 : Dec α} {gd : α → Bool} {f : α → AV}
    (h : ∀ x0, pureRun P C F fn [d0.av x0] = cond (gd x0) (some (f x0)) none) (hn : ∀ x0, (f x0).names = []) : PureGOK P g (pure1 d0 (fun x0 => .tup [.bool (gd x0), f x0])) := by
  refine pureGOK_of (F := F) hC hfn hname fun args v hv => ?_
  obtain ⟨x0, rfl, e⟩ := pure1_inv hv
  simp only [AV.tup.injEq, List.cons.injEq, AV.bool.injEq, and_true] at e
  obtain ⟨e1, rfl⟩ := e
  exact ⟨by rw [h, ← e1]; rfl, by simp [AV.namesL, d0.nm], hn x0⟩
theorem pure2_inv {d0 : Dec α} {d1 : Dec β} {f : α → β → AV} {args : List AV} {v : AV} (hv : pure2 d0 d1 f args = some v) : ∃ x0 x1, args = [d0.av x0, d1.av x1] ∧ v = f x0 x1 := by
  unfold pure2 at hv
  split at hv
  · split at hv
    · rename_i x0 hx0
      split at hv
      · rename_i x1 hx1
        cases hv
        obtain rfl := d0.ok _ _ hx0
        obtain rfl := d1.ok _ _ hx1
        exact ⟨x0, x1, rfl, rfl⟩
      · simp at hv
    · simp at hv
  · simp at hv
theorem pure2_gok {C : Oracle} (hC : Snd P C) {F : Cfg} {g : FuncId} {fn : Func} (hfn : P.funcs[g]? = some fn) (hname : (fn.name == "runtime.NumGoroutine") = false) {d0 : Dec α} {d1 : Dec β} {gd : α → β → Bool} {f : α → β → AV}
    (h : ∀ x0 x1, pureRun P C F fn [d0.av x0, d1.av x1] = cond (gd x0 x1) (some (f x0 x1)) none) (hn : ∀ x0 x1, (f x0 x1).names = []) : PureGOK P g (pure2 d0 d1 (fun x0 x1 => .tup [.bool (gd x0 x1), f x0 x1])) := by
  refine pureGOK_of (F := F) hC hfn hname fun args v hv => ?_
  obtain ⟨x0, x1, rfl, e⟩ := pure2_inv hv
  simp only [AV.tup.injEq, List.cons.injEq, AV.bool.injEq, and_true] at e
  obtain ⟨e1, rfl⟩ := e
  exact ⟨by rw [h, ← e1]; rfl, by simp [AV.namesL, d0.nm, d1.nm], hn x0 x1⟩
theorem pure3_inv {d0 : Dec α} {d1 : Dec β} {d2 : Dec γ} {f : α → β → γ → AV} {args : List AV} {v : AV} (hv : pure3 d0 d1 d2 f args = some v) : ∃ x0 x1 x2, args = [d0.av x0, d1.av x1, d2.av x2] ∧ v = f x0 x1 x2 := by
  unfold pure3 at hv
  split at hv
  · split at hv
    · rename_i x0 hx0
      split at hv
      · rename_i x1 hx1
        split at hv
        · rename_i x2 hx2
          cases hv
          obtain rfl := d0.ok _ _ hx0
          obtain rfl := d1.ok _ _ hx1
          obtain rfl := d2.ok _ _ hx2
          exact ⟨x0, x1, x2, rfl, rfl⟩
        · simp at hv
      · simp at hv
    · simp at hv
  · simp at hv
theorem pure3_gok {C : Oracle} (hC : Snd P C) {F : Cfg} {g : FuncId} {fn : Func} (hfn : P.funcs[g]? = some fn) (hname : (fn.name == "runtime.NumGoroutine") = false) {d0 : Dec α} {d1 : Dec β} {d2 : Dec γ} {gd : α → β → γ → Bool} {f : α → β → γ → AV}
    (h : ∀ x0 x1 x2, pureRun P C F fn [d0.av x0, d1.av x1, d2.av x2] = cond (gd x0 x1 x2) (some (f x0 x1 x2)) none) (hn : ∀ x0 x1 x2, (f x0 x1 x2).names = []) : PureGOK P g (pure3 d0 d1 d2 (fun x0 x1 x2 => .tup [.bool (gd x0 x1 x2), f x0 x1 x2])) := by
  refine pureGOK_of (F := F) hC hfn hname fun args v hv => ?_
  obtain ⟨x0, x1, x2, rfl, e⟩ := pure3_inv hv
  simp only [AV.tup.injEq, List.cons.injEq, AV.bool.injEq, and_true] at e
  obtain ⟨e1, rfl⟩ := e
  exact ⟨by rw [h, ← e1]; rfl, by simp [AV.namesL, d0.nm, d1.nm, d2.nm], hn x0 x1 x2⟩
theorem pure4_inv {d0 : Dec α} {d1 : Dec β} {d2 : Dec γ} {d3 : Dec δ} {f : α → β → γ → δ → AV} {args : List AV} {v : AV} (hv : pure4 d0 d1 d2 d3 f args = some v) : ∃ x0 x1 x2 x3, args = [d0.av x0, d1.av x1, d2.av x2, d3.av x3] ∧ v = f x0 x1 x2 x3 := by
  unfold pure4 at hv
  split at hv
  · split at hv
    · rename_i x0 hx0
      split at hv
      · rename_i x1 hx1
        split at hv
        · rename_i x2 hx2
          split at hv
          · rename_i x3 hx3
            cases hv
            obtain rfl := d0.ok _ _ hx0
            obtain rfl := d1.ok _ _ hx1
            obtain rfl := d2.ok _ _ hx2
            obtain rfl := d3.ok _ _ hx3
            exact ⟨x0, x1, x2, x3, rfl, rfl⟩
          · simp at hv
        · simp at hv
      · simp at hv
    · simp at hv
  · simp at hv
theorem pure4_gok {C : Oracle} (hC : Snd P C) {F : Cfg} {g : FuncId} {fn : Func} (hfn : P.funcs[g]? = some fn) (hname : (fn.name == "runtime.NumGoroutine") = false) {d0 : Dec α} {d1 : Dec β} {d2 : Dec γ} {d3 : Dec δ} {gd : α → β → γ → δ → Bool} {f : α → β → γ → δ → AV}
    (h : ∀ x0 x1 x2 x3, pureRun P C F fn [d0.av x0, d1.av x1, d2.av x2, d3.av x3] = cond (gd x0 x1 x2 x3) (some (f x0 x1 x2 x3)) none) (hn : ∀ x0 x1 x2 x3, (f x0 x1 x2 x3).names = []) : PureGOK P g (pure4 d0 d1 d2 d3 (fun x0 x1 x2 x3 => .tup [.bool (gd x0 x1 x2 x3), f x0 x1 x2 x3])) := by
  refine pureGOK_of (F := F) hC hfn hname fun args v hv => ?_
  obtain ⟨x0, x1, x2, x3, rfl, e⟩ := pure4_inv hv
  simp only [AV.tup.injEq, List.cons.injEq, AV.bool.injEq, and_true] at e
  obtain ⟨e1, rfl⟩ := e
  exact ⟨by rw [h, ← e1]; rfl, by simp [AV.namesL, d0.nm, d1.nm, d2.nm, d3.nm], hn x0 x1 x2 x3⟩
theorem pure5_inv {d0 : Dec α} {d1 : Dec β} {d2 : Dec γ} {d3 : Dec δ} {d4 : Dec ε} {f : α → β → γ → δ → ε → AV} {args : List AV} {v : AV} (hv : pure5 d0 d1 d2 d3 d4 f args = some v) : ∃ x0 x1 x2 x3 x4, args = [d0.av x0, d1.av x1, d2.av x2, d3.av x3, d4.av x4] ∧ v = f x0 x1 x2 x3 x4 := by
  unfold pure5 at hv
  split at hv
  · split at hv
    · rename_i x0 hx0
      split at hv
      · rename_i x1 hx1
        split at hv
        · rename_i x2 hx2
          split at hv
          · rename_i x3 hx3
            split at hv
            · rename_i x4 hx4
              cases hv
              obtain rfl := d0.ok _ _ hx0
              obtain rfl := d1.ok _ _ hx1
              obtain rfl := d2.ok _ _ hx2
              obtain rfl := d3.ok _ _ hx3
              obtain rfl := d4.ok _ _ hx4
              exact ⟨x0, x1, x2, x3, x4, rfl, rfl⟩
            · simp at hv
          · simp at hv
        · simp at hv
      · simp at hv
    · simp at hv
  · simp at hv
theorem pure5_gok {C : Oracle} (hC : Snd P C) {F : Cfg} {g : FuncId} {fn : Func} (hfn : P.funcs[g]? = some fn) (hname : (fn.name == "runtime.NumGoroutine") = false) {d0 : Dec α} {d1 : Dec β} {d2 : Dec γ} {d3 : Dec δ} {d4 : Dec ε} {gd : α → β → γ → δ → ε → Bool} {f : α → β → γ → δ → ε → AV}
    (h : ∀ x0 x1 x2 x3 x4, pureRun P C F fn [d0.av x0, d1.av x1, d2.av x2, d3.av x3, d4.av x4] = cond (gd x0 x1 x2 x3 x4) (some (f x0 x1 x2 x3 x4)) none) (hn : ∀ x0 x1 x2 x3 x4, (f x0 x1 x2 x3 x4).names = []) : PureGOK P g (pure5 d0 d1 d2 d3 d4 (fun x0 x1 x2 x3 x4 => .tup [.bool (gd x0 x1 x2 x3 x4), f x0 x1 x2 x3 x4])) := by
  refine pureGOK_of (F := F) hC hfn hname fun args v hv => ?_
  obtain ⟨x0, x1, x2, x3, x4, rfl, e⟩ := pure5_inv hv
  simp only [AV.tup.injEq, List.cons.injEq, AV.bool.injEq, and_true] at e
  obtain ⟨e1, rfl⟩ := e
  exact ⟨by rw [h, ← e1]; rfl, by simp [AV.namesL, d0.nm, d1.nm, d2.nm, d3.nm, d4.nm], hn x0 x1 x2 x3 x4⟩
theorem pure6_inv {d0 : Dec α} {d1 : Dec β} {d2 : Dec γ} {d3 : Dec δ} {d4 : Dec ε} {d5 : Dec ζ} {f : α → β → γ → δ → ε → ζ → AV} {args : List AV} {v : AV} (hv : pure6 d0 d1 d2 d3 d4 d5 f args = some v) : ∃ x0 x1 x2 x3 x4 x5, args = [d0.av x0, d1.av x1, d2.av x2, d3.av x3, d4.av x4, d5.av x5] ∧ v = f x0 x1 x2 x3 x4 x5 := by
  unfold pure6 at hv
  split at hv
  · split at hv
    · rename_i x0 hx0
      split at hv
      · rename_i x1 hx1
        split at hv
        · rename_i x2 hx2
          split at hv
          · rename_i x3 hx3
            split at hv
            · rename_i x4 hx4
              split at hv
              · rename_i x5 hx5
                cases hv
                obtain rfl := d0.ok _ _ hx0
                obtain rfl := d1.ok _ _ hx1
                obtain rfl := d2.ok _ _ hx2
                obtain rfl := d3.ok _ _ hx3
                obtain rfl := d4.ok _ _ hx4
                obtain rfl := d5.ok _ _ hx5
                exact ⟨x0, x1, x2, x3, x4, x5, rfl, rfl⟩
              · simp at hv
            · simp at hv
          · simp at hv
        · simp at hv
      · simp at hv
    · simp at hv
  · simp at hv
theorem pure6_gok {C : Oracle} (hC : Snd P C) {F : Cfg} {g : FuncId} {fn : Func} (hfn : P.funcs[g]? = some fn) (hname : (fn.name == "runtime.NumGoroutine") = false) {d0 : Dec α} {d1 : Dec β} {d2 : Dec γ} {d3 : Dec δ} {d4 : Dec ε} {d5 : Dec ζ} {gd : α → β → γ → δ → ε → ζ → Bool} {f : α → β → γ → δ → ε → ζ → AV}
    (h : ∀ x0 x1 x2 x3 x4 x5, pureRun P C F fn [d0.av x0, d1.av x1, d2.av x2, d3.av x3, d4.av x4, d5.av x5] = cond (gd x0 x1 x2 x3 x4 x5) (some (f x0 x1 x2 x3 x4 x5)) none) (hn : ∀ x0 x1 x2 x3 x4 x5, (f x0 x1 x2 x3 x4 x5).names = []) : PureGOK P g (pure6 d0 d1 d2 d3 d4 d5 (fun x0 x1 x2 x3 x4 x5 => .tup [.bool (gd x0 x1 x2 x3 x4 x5), f x0 x1 x2 x3 x4 x5])) := by
  refine pureGOK_of (F := F) hC hfn hname fun args v hv => ?_
  obtain ⟨x0, x1, x2, x3, x4, x5, rfl, e⟩ := pure6_inv hv
  simp only [AV.tup.injEq, List.cons.injEq, AV.bool.injEq, and_true] at e
  obtain ⟨e1, rfl⟩ := e
  exact ⟨by rw [h, ← e1]; rfl, by simp [AV.namesL, d0.nm, d1.nm, d2.nm, d3.nm, d4.nm, d5.nm], hn x0 x1 x2 x3 x4 x5⟩
end
section
variable (c : Bool) {α : Type} (f : α → AV)
theorem merS {x : α} : (some (f x) : Option AV) = cond true (some (f x)) none := rfl
theorem merG {T F : Option AV} {ga gb : Bool} {x y : α} (hT : T = cond ga (some (f x)) none) (hF : F = cond gb (some (f y)) none) : cond c T F = cond (cond c ga gb) (some (f (cond c x y))) none := by cases c <;> assumption
theorem merL {F : Option AV} {gb : Bool} {y : α} (hF : F = cond gb (some (f y)) none) : cond c none F = cond (cond c false gb) (some (f y)) none := by cases c <;> first | assumption | rfl
theorem merR {T : Option AV} {ga : Bool} {x : α} (hT : T = cond ga (some (f x)) none) : cond c T none = cond (cond c ga false) (some (f x)) none := by cases c <;> first | assumption | rfl
end
end Go.Sx

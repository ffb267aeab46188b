/- More kinds of plain values: numbers of two words, traps, questions, processors; entries of five and six arguments. -/
import Derived.Test.YtonehcpccklkoaaSxU
set_option linter.unusedSimpArgs false
set_option linter.unusedVariables false
set_option linter.unnecessarySimpa false
namespace Go.Sx
open Go

def decU32 : AV → Option (BitVec 32)
  | .int .u32 b => some b
  | _ => none
def dU32 : Dec (BitVec 32) := ⟨decU32, fun x => .int .u32 x, fun v a h => by unfold decU32 at h; split at h <;> cases h; rfl, fun a => rfl⟩

/-- Two words. -/
structure W2 where
  hi : BitVec 64
  lo : BitVec 64
def W2.av (r : W2) : AV := .agg [.int .u64 r.hi, .int .u64 r.lo]
def decW2 : AV → Option W2
  | .agg [.int .u64 a, .int .u64 b] => some ⟨a, b⟩
  | _ => none
def dW2 : Dec W2 := ⟨decW2, W2.av, fun v a h => by unfold decW2 at h; split at h <;> cases h; rfl, fun a => rfl⟩

/-- A trap. -/
structure Tr where
  is : Bool
  cause : BitVec 64
  val : BitVec 64
def Tr.av (r : Tr) : AV := .agg [.bool r.is, .int .i64 r.cause, .int .u64 r.val]
def decTr : AV → Option Tr
  | .agg [.bool a, .int .i64 b, .int .u64 c] => some ⟨a, b, c⟩
  | _ => none
def dTr : Dec Tr := ⟨decTr, Tr.av, fun v a h => by unfold decTr at h; split at h <;> cases h; rfl, fun a => rfl⟩

/-- A question. -/
structure Qu where
  no : Bool
  why : BitVec 64
def Qu.av (r : Qu) : AV := .agg [.bool r.no, .int .i64 r.why]
def decQu : AV → Option Qu
  | .agg [.bool a, .int .i64 b] => some ⟨a, b⟩
  | _ => none
def dQu : Dec Qu := ⟨decQu, Qu.av, fun v a h => by unfold decQu at h; split at h <;> cases h; rfl, fun a => rfl⟩

/-- A processor: its capabilities (32 registers, then ten), its numbers, whether it waits. -/
structure Ht where
  c : Nat → Cp
  e : Nat → BitVec 64
  w : Bool
def Ht.cells (h : Ht) : List AV := [.bool (h.c 0).tag, .int .i64 (h.c 0).per, .int .i64 (h.c 0).ty, .int .i64 (h.c 0).mo, .int .i64 (h.c 0).e, .int .i64 (h.c 0).b, .int .i64 (h.c 0).t, .bool (h.c 0).big, .int .u64 (h.c 0).ad, .bool (h.c 1).tag, .int .i64 (h.c 1).per, .int .i64 (h.c 1).ty, .int .i64 (h.c 1).mo, .int .i64 (h.c 1).e, .int .i64 (h.c 1).b, .int .i64 (h.c 1).t, .bool (h.c 1).big, .int .u64 (h.c 1).ad, .bool (h.c 2).tag, .int .i64 (h.c 2).per, .int .i64 (h.c 2).ty, .int .i64 (h.c 2).mo, .int .i64 (h.c 2).e, .int .i64 (h.c 2).b, .int .i64 (h.c 2).t, .bool (h.c 2).big, .int .u64 (h.c 2).ad, .bool (h.c 3).tag, .int .i64 (h.c 3).per, .int .i64 (h.c 3).ty, .int .i64 (h.c 3).mo, .int .i64 (h.c 3).e, .int .i64 (h.c 3).b, .int .i64 (h.c 3).t, .bool (h.c 3).big, .int .u64 (h.c 3).ad, .bool (h.c 4).tag, .int .i64 (h.c 4).per, .int .i64 (h.c 4).ty, .int .i64 (h.c 4).mo, .int .i64 (h.c 4).e, .int .i64 (h.c 4).b, .int .i64 (h.c 4).t, .bool (h.c 4).big, .int .u64 (h.c 4).ad, .bool (h.c 5).tag, .int .i64 (h.c 5).per, .int .i64 (h.c 5).ty, .int .i64 (h.c 5).mo, .int .i64 (h.c 5).e, .int .i64 (h.c 5).b, .int .i64 (h.c 5).t, .bool (h.c 5).big, .int .u64 (h.c 5).ad, .bool (h.c 6).tag, .int .i64 (h.c 6).per, .int .i64 (h.c 6).ty, .int .i64 (h.c 6).mo, .int .i64 (h.c 6).e, .int .i64 (h.c 6).b, .int .i64 (h.c 6).t, .bool (h.c 6).big, .int .u64 (h.c 6).ad, .bool (h.c 7).tag, .int .i64 (h.c 7).per, .int .i64 (h.c 7).ty, .int .i64 (h.c 7).mo, .int .i64 (h.c 7).e, .int .i64 (h.c 7).b, .int .i64 (h.c 7).t, .bool (h.c 7).big, .int .u64 (h.c 7).ad, .bool (h.c 8).tag, .int .i64 (h.c 8).per, .int .i64 (h.c 8).ty, .int .i64 (h.c 8).mo, .int .i64 (h.c 8).e, .int .i64 (h.c 8).b, .int .i64 (h.c 8).t, .bool (h.c 8).big, .int .u64 (h.c 8).ad, .bool (h.c 9).tag, .int .i64 (h.c 9).per, .int .i64 (h.c 9).ty, .int .i64 (h.c 9).mo, .int .i64 (h.c 9).e, .int .i64 (h.c 9).b, .int .i64 (h.c 9).t, .bool (h.c 9).big, .int .u64 (h.c 9).ad, .bool (h.c 10).tag, .int .i64 (h.c 10).per, .int .i64 (h.c 10).ty, .int .i64 (h.c 10).mo, .int .i64 (h.c 10).e, .int .i64 (h.c 10).b, .int .i64 (h.c 10).t, .bool (h.c 10).big, .int .u64 (h.c 10).ad, .bool (h.c 11).tag, .int .i64 (h.c 11).per, .int .i64 (h.c 11).ty, .int .i64 (h.c 11).mo, .int .i64 (h.c 11).e, .int .i64 (h.c 11).b, .int .i64 (h.c 11).t, .bool (h.c 11).big, .int .u64 (h.c 11).ad, .bool (h.c 12).tag, .int .i64 (h.c 12).per, .int .i64 (h.c 12).ty, .int .i64 (h.c 12).mo, .int .i64 (h.c 12).e, .int .i64 (h.c 12).b, .int .i64 (h.c 12).t, .bool (h.c 12).big, .int .u64 (h.c 12).ad, .bool (h.c 13).tag, .int .i64 (h.c 13).per, .int .i64 (h.c 13).ty, .int .i64 (h.c 13).mo, .int .i64 (h.c 13).e, .int .i64 (h.c 13).b, .int .i64 (h.c 13).t, .bool (h.c 13).big, .int .u64 (h.c 13).ad, .bool (h.c 14).tag, .int .i64 (h.c 14).per, .int .i64 (h.c 14).ty, .int .i64 (h.c 14).mo, .int .i64 (h.c 14).e, .int .i64 (h.c 14).b, .int .i64 (h.c 14).t, .bool (h.c 14).big, .int .u64 (h.c 14).ad, .bool (h.c 15).tag, .int .i64 (h.c 15).per, .int .i64 (h.c 15).ty, .int .i64 (h.c 15).mo, .int .i64 (h.c 15).e, .int .i64 (h.c 15).b, .int .i64 (h.c 15).t, .bool (h.c 15).big, .int .u64 (h.c 15).ad, .bool (h.c 16).tag, .int .i64 (h.c 16).per, .int .i64 (h.c 16).ty, .int .i64 (h.c 16).mo, .int .i64 (h.c 16).e, .int .i64 (h.c 16).b, .int .i64 (h.c 16).t, .bool (h.c 16).big, .int .u64 (h.c 16).ad, .bool (h.c 17).tag, .int .i64 (h.c 17).per, .int .i64 (h.c 17).ty, .int .i64 (h.c 17).mo, .int .i64 (h.c 17).e, .int .i64 (h.c 17).b, .int .i64 (h.c 17).t, .bool (h.c 17).big, .int .u64 (h.c 17).ad, .bool (h.c 18).tag, .int .i64 (h.c 18).per, .int .i64 (h.c 18).ty, .int .i64 (h.c 18).mo, .int .i64 (h.c 18).e, .int .i64 (h.c 18).b, .int .i64 (h.c 18).t, .bool (h.c 18).big, .int .u64 (h.c 18).ad, .bool (h.c 19).tag, .int .i64 (h.c 19).per, .int .i64 (h.c 19).ty, .int .i64 (h.c 19).mo, .int .i64 (h.c 19).e, .int .i64 (h.c 19).b, .int .i64 (h.c 19).t, .bool (h.c 19).big, .int .u64 (h.c 19).ad, .bool (h.c 20).tag, .int .i64 (h.c 20).per, .int .i64 (h.c 20).ty, .int .i64 (h.c 20).mo, .int .i64 (h.c 20).e, .int .i64 (h.c 20).b, .int .i64 (h.c 20).t, .bool (h.c 20).big, .int .u64 (h.c 20).ad, .bool (h.c 21).tag, .int .i64 (h.c 21).per, .int .i64 (h.c 21).ty, .int .i64 (h.c 21).mo, .int .i64 (h.c 21).e, .int .i64 (h.c 21).b, .int .i64 (h.c 21).t, .bool (h.c 21).big, .int .u64 (h.c 21).ad, .bool (h.c 22).tag, .int .i64 (h.c 22).per, .int .i64 (h.c 22).ty, .int .i64 (h.c 22).mo, .int .i64 (h.c 22).e, .int .i64 (h.c 22).b, .int .i64 (h.c 22).t, .bool (h.c 22).big, .int .u64 (h.c 22).ad, .bool (h.c 23).tag, .int .i64 (h.c 23).per, .int .i64 (h.c 23).ty, .int .i64 (h.c 23).mo, .int .i64 (h.c 23).e, .int .i64 (h.c 23).b, .int .i64 (h.c 23).t, .bool (h.c 23).big, .int .u64 (h.c 23).ad, .bool (h.c 24).tag, .int .i64 (h.c 24).per, .int .i64 (h.c 24).ty, .int .i64 (h.c 24).mo, .int .i64 (h.c 24).e, .int .i64 (h.c 24).b, .int .i64 (h.c 24).t, .bool (h.c 24).big, .int .u64 (h.c 24).ad, .bool (h.c 25).tag, .int .i64 (h.c 25).per, .int .i64 (h.c 25).ty, .int .i64 (h.c 25).mo, .int .i64 (h.c 25).e, .int .i64 (h.c 25).b, .int .i64 (h.c 25).t, .bool (h.c 25).big, .int .u64 (h.c 25).ad, .bool (h.c 26).tag, .int .i64 (h.c 26).per, .int .i64 (h.c 26).ty, .int .i64 (h.c 26).mo, .int .i64 (h.c 26).e, .int .i64 (h.c 26).b, .int .i64 (h.c 26).t, .bool (h.c 26).big, .int .u64 (h.c 26).ad, .bool (h.c 27).tag, .int .i64 (h.c 27).per, .int .i64 (h.c 27).ty, .int .i64 (h.c 27).mo, .int .i64 (h.c 27).e, .int .i64 (h.c 27).b, .int .i64 (h.c 27).t, .bool (h.c 27).big, .int .u64 (h.c 27).ad, .bool (h.c 28).tag, .int .i64 (h.c 28).per, .int .i64 (h.c 28).ty, .int .i64 (h.c 28).mo, .int .i64 (h.c 28).e, .int .i64 (h.c 28).b, .int .i64 (h.c 28).t, .bool (h.c 28).big, .int .u64 (h.c 28).ad, .bool (h.c 29).tag, .int .i64 (h.c 29).per, .int .i64 (h.c 29).ty, .int .i64 (h.c 29).mo, .int .i64 (h.c 29).e, .int .i64 (h.c 29).b, .int .i64 (h.c 29).t, .bool (h.c 29).big, .int .u64 (h.c 29).ad, .bool (h.c 30).tag, .int .i64 (h.c 30).per, .int .i64 (h.c 30).ty, .int .i64 (h.c 30).mo, .int .i64 (h.c 30).e, .int .i64 (h.c 30).b, .int .i64 (h.c 30).t, .bool (h.c 30).big, .int .u64 (h.c 30).ad, .bool (h.c 31).tag, .int .i64 (h.c 31).per, .int .i64 (h.c 31).ty, .int .i64 (h.c 31).mo, .int .i64 (h.c 31).e, .int .i64 (h.c 31).b, .int .i64 (h.c 31).t, .bool (h.c 31).big, .int .u64 (h.c 31).ad, .bool (h.c 32).tag, .int .i64 (h.c 32).per, .int .i64 (h.c 32).ty, .int .i64 (h.c 32).mo, .int .i64 (h.c 32).e, .int .i64 (h.c 32).b, .int .i64 (h.c 32).t, .bool (h.c 32).big, .int .u64 (h.c 32).ad, .bool (h.c 33).tag, .int .i64 (h.c 33).per, .int .i64 (h.c 33).ty, .int .i64 (h.c 33).mo, .int .i64 (h.c 33).e, .int .i64 (h.c 33).b, .int .i64 (h.c 33).t, .bool (h.c 33).big, .int .u64 (h.c 33).ad, .bool (h.c 34).tag, .int .i64 (h.c 34).per, .int .i64 (h.c 34).ty, .int .i64 (h.c 34).mo, .int .i64 (h.c 34).e, .int .i64 (h.c 34).b, .int .i64 (h.c 34).t, .bool (h.c 34).big, .int .u64 (h.c 34).ad, .bool (h.c 35).tag, .int .i64 (h.c 35).per, .int .i64 (h.c 35).ty, .int .i64 (h.c 35).mo, .int .i64 (h.c 35).e, .int .i64 (h.c 35).b, .int .i64 (h.c 35).t, .bool (h.c 35).big, .int .u64 (h.c 35).ad, .bool (h.c 36).tag, .int .i64 (h.c 36).per, .int .i64 (h.c 36).ty, .int .i64 (h.c 36).mo, .int .i64 (h.c 36).e, .int .i64 (h.c 36).b, .int .i64 (h.c 36).t, .bool (h.c 36).big, .int .u64 (h.c 36).ad, .bool (h.c 37).tag, .int .i64 (h.c 37).per, .int .i64 (h.c 37).ty, .int .i64 (h.c 37).mo, .int .i64 (h.c 37).e, .int .i64 (h.c 37).b, .int .i64 (h.c 37).t, .bool (h.c 37).big, .int .u64 (h.c 37).ad, .bool (h.c 38).tag, .int .i64 (h.c 38).per, .int .i64 (h.c 38).ty, .int .i64 (h.c 38).mo, .int .i64 (h.c 38).e, .int .i64 (h.c 38).b, .int .i64 (h.c 38).t, .bool (h.c 38).big, .int .u64 (h.c 38).ad, .bool (h.c 39).tag, .int .i64 (h.c 39).per, .int .i64 (h.c 39).ty, .int .i64 (h.c 39).mo, .int .i64 (h.c 39).e, .int .i64 (h.c 39).b, .int .i64 (h.c 39).t, .bool (h.c 39).big, .int .u64 (h.c 39).ad, .bool (h.c 40).tag, .int .i64 (h.c 40).per, .int .i64 (h.c 40).ty, .int .i64 (h.c 40).mo, .int .i64 (h.c 40).e, .int .i64 (h.c 40).b, .int .i64 (h.c 40).t, .bool (h.c 40).big, .int .u64 (h.c 40).ad, .bool (h.c 41).tag, .int .i64 (h.c 41).per, .int .i64 (h.c 41).ty, .int .i64 (h.c 41).mo, .int .i64 (h.c 41).e, .int .i64 (h.c 41).b, .int .i64 (h.c 41).t, .bool (h.c 41).big, .int .u64 (h.c 41).ad, .int .i64 (h.e 0), .int .u64 (h.e 1), .int .u64 (h.e 2), .int .u64 (h.e 3), .int .u64 (h.e 4), .int .u64 (h.e 5), .int .u64 (h.e 6), .int .u64 (h.e 7), .int .u64 (h.e 8), .int .u64 (h.e 9), .int .u64 (h.e 10), .int .u64 (h.e 11), .int .u64 (h.e 12), .int .u64 (h.e 13), .int .u64 (h.e 14), .int .u64 (h.e 15), .int .u64 (h.e 16), .bool h.w]
def Ht.av (h : Ht) : AV := .agg h.cells
set_option maxRecDepth 100000 in
theorem Ht.names (h : Ht) : h.av.names = [] := rfl

section
variable {P : Program} {α β γ δ ε ζ : Type}
def pure5 (d0 : Dec α) (d1 : Dec β) (d2 : Dec γ) (d3 : Dec δ) (d4 : Dec ε) (f : α → β → γ → δ → ε → AV) : List AV → Option AV
  | [a0, a1, a2, a3, a4] => match d0.dec a0 with
    | some x0 => match d1.dec a1 with
      | some x1 => match d2.dec a2 with
        | some x2 => match d3.dec a3 with
          | some x3 => match d4.dec a4 with
            | some x4 => some (f x0 x1 x2 x3 x4)
            | none => none
          | none => none
        | none => none
      | none => none
    | none => none
  | _ => none
theorem pure5_ok {C : Oracle} (hC : Snd P C) {F : Cfg} {g : FuncId} {fn : Func} (hfn : P.funcs[g]? = some fn) (hname : (fn.name == "runtime.NumGoroutine") = false) {d0 : Dec α} {d1 : Dec β} {d2 : Dec γ} {d3 : Dec δ} {d4 : Dec ε} {f : α → β → γ → δ → ε → AV}
    (h : ∀ x0 x1 x2 x3 x4, pureRun P C F fn [d0.av x0, d1.av x1, d2.av x2, d3.av x3, d4.av x4] = some (f x0 x1 x2 x3 x4)) (hn : ∀ x0 x1 x2 x3 x4, (f x0 x1 x2 x3 x4).names = []) (hF : FOK P fn F := by first | exact fok_nil rfl | assumption) : PureOK P g (pure5 d0 d1 d2 d3 d4 f) := by
  refine pureOK_of (F := F) hC hfn hname (hF := hF) fun args v hv => ?_
  unfold pure5 at hv
  split at hv
  · split at hv
    · rename_i x0 hx0
      split at hv
      · rename_i x1 hx1
        split at hv
        · rename_i x2 hx2
          split at hv
          · rename_i x3 hx3
            split at hv
            · rename_i x4 hx4
              cases hv
              obtain rfl := d0.ok _ _ hx0
              obtain rfl := d1.ok _ _ hx1
              obtain rfl := d2.ok _ _ hx2
              obtain rfl := d3.ok _ _ hx3
              obtain rfl := d4.ok _ _ hx4
              exact ⟨h x0 x1 x2 x3 x4, by simp [AV.namesL, d0.nm, d1.nm, d2.nm, d3.nm, d4.nm], hn x0 x1 x2 x3 x4⟩
            · simp at hv
          · simp at hv
        · simp at hv
      · simp at hv
    · simp at hv
  · simp at hv
def pure6 (d0 : Dec α) (d1 : Dec β) (d2 : Dec γ) (d3 : Dec δ) (d4 : Dec ε) (d5 : Dec ζ) (f : α → β → γ → δ → ε → ζ → AV) : List AV → Option AV
  | [a0, a1, a2, a3, a4, a5] => match d0.dec a0 with
    | some x0 => match d1.dec a1 with
      | some x1 => match d2.dec a2 with
        | some x2 => match d3.dec a3 with
          | some x3 => match d4.dec a4 with
            | some x4 => match d5.dec a5 with
              | some x5 => some (f x0 x1 x2 x3 x4 x5)
              | none => none
            | none => none
          | none => none
        | none => none
      | none => none
    | none => none
  | _ => none
theorem pure6_ok {C : Oracle} (hC : Snd P C) {F : Cfg} {g : FuncId} {fn : Func} (hfn : P.funcs[g]? = some fn) (hname : (fn.name == "runtime.NumGoroutine") = false) {d0 : Dec α} {d1 : Dec β} {d2 : Dec γ} {d3 : Dec δ} {d4 : Dec ε} {d5 : Dec ζ} {f : α → β → γ → δ → ε → ζ → AV}
    (h : ∀ x0 x1 x2 x3 x4 x5, pureRun P C F fn [d0.av x0, d1.av x1, d2.av x2, d3.av x3, d4.av x4, d5.av x5] = some (f x0 x1 x2 x3 x4 x5)) (hn : ∀ x0 x1 x2 x3 x4 x5, (f x0 x1 x2 x3 x4 x5).names = []) (hF : FOK P fn F := by first | exact fok_nil rfl | assumption) : PureOK P g (pure6 d0 d1 d2 d3 d4 d5 f) := by
  refine pureOK_of (F := F) hC hfn hname (hF := hF) fun args v hv => ?_
  unfold pure6 at hv
  split at hv
  · split at hv
    · rename_i x0 hx0
      split at hv
      · rename_i x1 hx1
        split at hv
        · rename_i x2 hx2
          split at hv
          · rename_i x3 hx3
            split at hv
            · rename_i x4 hx4
              split at hv
              · rename_i x5 hx5
                cases hv
                obtain rfl := d0.ok _ _ hx0
                obtain rfl := d1.ok _ _ hx1
                obtain rfl := d2.ok _ _ hx2
                obtain rfl := d3.ok _ _ hx3
                obtain rfl := d4.ok _ _ hx4
                obtain rfl := d5.ok _ _ hx5
                exact ⟨h x0 x1 x2 x3 x4 x5, by simp [AV.namesL, d0.nm, d1.nm, d2.nm, d3.nm, d4.nm, d5.nm], hn x0 x1 x2 x3 x4 x5⟩
              · simp at hv
            · simp at hv
          · simp at hv
        · simp at hv
      · simp at hv
    · simp at hv
  · simp at hv
end

/-! entries of functions that may panic: what they answer where a guard holds -/
/-- One function's answers by a law of values under a guard. -/
def pureGE (g : Nat) (s : List AV → Option AV) (C : Oracle) : Oracle := fun R g' args H N K =>
  bif Nat.beq g' g then (match s args with
    | some (.tup [.bool b, v]) => cond b (K v [] N) none
    | _ => C R g' args H N K) else C R g' args H N K
def PureGOK (P : Program) (g : FuncId) (s : List AV → Option AV) : Prop := ∀ args v, s args = some (.tup [.bool true, v]) → ∀ H N, Ans P g args H N v [] N
theorem pureGE_snd {P : Program} {g : FuncId} {s : List AV → Option AV} {C : Oracle} (hs : PureGOK P g s) (hC : Snd P C) : Snd P (pureGE g s C) := by
  intro R g' args H N K r h
  unfold pureGE at h
  cases hg : Nat.beq g' g with
  | false => rw [hg] at h; exact hC R g' args H N K r h
  | true =>
    rw [hg] at h
    have hg' : g' = g := Nat.eq_of_beq_eq_true hg
    subst hg'
    simp only [cond_true] at h
    split at h
    · rename_i b v hv
      cases b with
      | true => exact ⟨v, [], N, h, Nat.le_refl _, hs args v hv H N⟩
      | false => simp at h
    · exact hC R g' args H N K r h
theorem pureGOK_of {P : Program} {C : Oracle} (hC : Snd P C) {F : Cfg} {g : FuncId} {fn : Func} (hfn : P.funcs[g]? = some fn) (hname : (fn.name == "runtime.NumGoroutine") = false) {s : List AV → Option AV}
    (h : ∀ args v, s args = some (.tup [.bool true, v]) → pureRun P C F fn args = some v ∧ AV.namesL args = [] ∧ v.names = []) (hF : FOK P fn F := by first | exact fok_nil rfl | assumption) : PureGOK P g s := by
  intro args v hv H N
  obtain ⟨h1, h2, h3⟩ := h args v hv
  exact pure_sound hC hfn hF hname h1 h2 h3 H N
section
variable {P : Program} {α β γ δ ε ζ : Type}
theorem pure1_inv {d0 : Dec α} {f : α → AV} {args : List AV} {v : AV} (hv : pure1 d0 f args = some v) : ∃ x0, args = [d0.av x0] ∧ v = f x0 := by
  unfold pure1 at hv
  split at hv
  · split at hv
    · rename_i x0 hx0
      cases hv
      obtain rfl := d0.ok _ _ hx0
      exact ⟨x0, rfl, rfl⟩
    · simp at hv
  · simp at hv
theorem pure1_gok {C : Oracle} (hC : Snd P C) {F : Cfg} {g : FuncId} {fn : Func} (hfn : P.funcs[g]? = some fn) (hname : (fn.name == "runtime.NumGoroutine") = false) {d0 : Dec α} {gd : α → Bool} {f : α → AV}
    (h : ∀ x0, pureRun P C F fn [d0.av x0] = cond (gd x0) (some (f x0)) none) (hn : ∀ x0, (f x0).names = []) (hF : FOK P fn F := by first | exact fok_nil rfl | assumption) : PureGOK P g (pure1 d0 (fun x0 => .tup [.bool (gd x0), f x0])) := by
  refine pureGOK_of (F := F) hC hfn hname (hF := hF) fun args v hv => ?_
  obtain ⟨x0, rfl, e⟩ := pure1_inv hv
  simp only [AV.tup.injEq, List.cons.injEq, AV.bool.injEq, and_true] at e
  obtain ⟨e1, rfl⟩ := e
  exact ⟨by rw [h, ← e1]; rfl, by simp [AV.namesL, d0.nm], hn x0⟩
theorem pure2_inv {d0 : Dec α} {d1 : Dec β} {f : α → β → AV} {args : List AV} {v : AV} (hv : pure2 d0 d1 f args = some v) : ∃ x0 x1, args = [d0.av x0, d1.av x1] ∧ v = f x0 x1 := by
  unfold pure2 at hv
  split at hv
  · split at hv
    · rename_i x0 hx0
      split at hv
      · rename_i x1 hx1
        cases hv
        obtain rfl := d0.ok _ _ hx0
        obtain rfl := d1.ok _ _ hx1
        exact ⟨x0, x1, rfl, rfl⟩
      · simp at hv
    · simp at hv
  · simp at hv
theorem pure2_gok {C : Oracle} (hC : Snd P C) {F : Cfg} {g : FuncId} {fn : Func} (hfn : P.funcs[g]? = some fn) (hname : (fn.name == "runtime.NumGoroutine") = false) {d0 : Dec α} {d1 : Dec β} {gd : α → β → Bool} {f : α → β → AV}
    (h : ∀ x0 x1, pureRun P C F fn [d0.av x0, d1.av x1] = cond (gd x0 x1) (some (f x0 x1)) none) (hn : ∀ x0 x1, (f x0 x1).names = []) (hF : FOK P fn F := by first | exact fok_nil rfl | assumption) : PureGOK P g (pure2 d0 d1 (fun x0 x1 => .tup [.bool (gd x0 x1), f x0 x1])) := by
  refine pureGOK_of (F := F) hC hfn hname (hF := hF) fun args v hv => ?_
  obtain ⟨x0, x1, rfl, e⟩ := pure2_inv hv
  simp only [AV.tup.injEq, List.cons.injEq, AV.bool.injEq, and_true] at e
  obtain ⟨e1, rfl⟩ := e
  exact ⟨by rw [h, ← e1]; rfl, by simp [AV.namesL, d0.nm, d1.nm], hn x0 x1⟩
theorem pure3_inv {d0 : Dec α} {d1 : Dec β} {d2 : Dec γ} {f : α → β → γ → AV} {args : List AV} {v : AV} (hv : pure3 d0 d1 d2 f args = some v) : ∃ x0 x1 x2, args = [d0.av x0, d1.av x1, d2.av x2] ∧ v = f x0 x1 x2 := by
  unfold pure3 at hv
  split at hv
  · split at hv
    · rename_i x0 hx0
      split at hv
      · rename_i x1 hx1
        split at hv
        · rename_i x2 hx2
          cases hv
          obtain rfl := d0.ok _ _ hx0
          obtain rfl := d1.ok _ _ hx1
          obtain rfl := d2.ok _ _ hx2
          exact ⟨x0, x1, x2, rfl, rfl⟩
        · simp at hv
      · simp at hv
    · simp at hv
  · simp at hv
theorem pure3_gok {C : Oracle} (hC : Snd P C) {F : Cfg} {g : FuncId} {fn : Func} (hfn : P.funcs[g]? = some fn) (hname : (fn.name == "runtime.NumGoroutine") = false) {d0 : Dec α} {d1 : Dec β} {d2 : Dec γ} {gd : α → β → γ → Bool} {f : α → β → γ → AV}
    (h : ∀ x0 x1 x2, pureRun P C F fn [d0.av x0, d1.av x1, d2.av x2] = cond (gd x0 x1 x2) (some (f x0 x1 x2)) none) (hn : ∀ x0 x1 x2, (f x0 x1 x2).names = []) (hF : FOK P fn F := by first | exact fok_nil rfl | assumption) : PureGOK P g (pure3 d0 d1 d2 (fun x0 x1 x2 => .tup [.bool (gd x0 x1 x2), f x0 x1 x2])) := by
  refine pureGOK_of (F := F) hC hfn hname (hF := hF) fun args v hv => ?_
  obtain ⟨x0, x1, x2, rfl, e⟩ := pure3_inv hv
  simp only [AV.tup.injEq, List.cons.injEq, AV.bool.injEq, and_true] at e
  obtain ⟨e1, rfl⟩ := e
  exact ⟨by rw [h, ← e1]; rfl, by simp [AV.namesL, d0.nm, d1.nm, d2.nm], hn x0 x1 x2⟩
theorem pure4_inv {d0 : Dec α} {d1 : Dec β} {d2 : Dec γ} {d3 : Dec δ} {f : α → β → γ → δ → AV} {args : List AV} {v : AV} (hv : pure4 d0 d1 d2 d3 f args = some v) : ∃ x0 x1 x2 x3, args = [d0.av x0, d1.av x1, d2.av x2, d3.av x3] ∧ v = f x0 x1 x2 x3 := by
  unfold pure4 at hv
  split at hv
  · split at hv
    · rename_i x0 hx0
      split at hv
      · rename_i x1 hx1
        split at hv
        · rename_i x2 hx2
          split at hv
          · rename_i x3 hx3
            cases hv
            obtain rfl := d0.ok _ _ hx0
            obtain rfl := d1.ok _ _ hx1
            obtain rfl := d2.ok _ _ hx2
            obtain rfl := d3.ok _ _ hx3
            exact ⟨x0, x1, x2, x3, rfl, rfl⟩
          · simp at hv
        · simp at hv
      · simp at hv
    · simp at hv
  · simp at hv
theorem pure4_gok {C : Oracle} (hC : Snd P C) {F : Cfg} {g : FuncId} {fn : Func} (hfn : P.funcs[g]? = some fn) (hname : (fn.name == "runtime.NumGoroutine") = false) {d0 : Dec α} {d1 : Dec β} {d2 : Dec γ} {d3 : Dec δ} {gd : α → β → γ → δ → Bool} {f : α → β → γ → δ → AV}
    (h : ∀ x0 x1 x2 x3, pureRun P C F fn [d0.av x0, d1.av x1, d2.av x2, d3.av x3] = cond (gd x0 x1 x2 x3) (some (f x0 x1 x2 x3)) none) (hn : ∀ x0 x1 x2 x3, (f x0 x1 x2 x3).names = []) (hF : FOK P fn F := by first | exact fok_nil rfl | assumption) : PureGOK P g (pure4 d0 d1 d2 d3 (fun x0 x1 x2 x3 => .tup [.bool (gd x0 x1 x2 x3), f x0 x1 x2 x3])) := by
  refine pureGOK_of (F := F) hC hfn hname (hF := hF) fun args v hv => ?_
  obtain ⟨x0, x1, x2, x3, rfl, e⟩ := pure4_inv hv
  simp only [AV.tup.injEq, List.cons.injEq, AV.bool.injEq, and_true] at e
  obtain ⟨e1, rfl⟩ := e
  exact ⟨by rw [h, ← e1]; rfl, by simp [AV.namesL, d0.nm, d1.nm, d2.nm, d3.nm], hn x0 x1 x2 x3⟩
theorem pure5_inv {d0 : Dec α} {d1 : Dec β} {d2 : Dec γ} {d3 : Dec δ} {d4 : Dec ε} {f : α → β → γ → δ → ε → AV} {args : List AV} {v : AV} (hv : pure5 d0 d1 d2 d3 d4 f args = some v) : ∃ x0 x1 x2 x3 x4, args = [d0.av x0, d1.av x1, d2.av x2, d3.av x3, d4.av x4] ∧ v = f x0 x1 x2 x3 x4 := by
  unfold pure5 at hv
  split at hv
  · split at hv
    · rename_i x0 hx0
      split at hv
      · rename_i x1 hx1
        split at hv
        · rename_i x2 hx2
          split at hv
          · rename_i x3 hx3
            split at hv
            · rename_i x4 hx4
              cases hv
              obtain rfl := d0.ok _ _ hx0
              obtain rfl := d1.ok _ _ hx1
              obtain rfl := d2.ok _ _ hx2
              obtain rfl := d3.ok _ _ hx3
              obtain rfl := d4.ok _ _ hx4
              exact ⟨x0, x1, x2, x3, x4, rfl, rfl⟩
            · simp at hv
          · simp at hv
        · simp at hv
      · simp at hv
    · simp at hv
  · simp at hv
theorem pure5_gok {C : Oracle} (hC : Snd P C) {F : Cfg} {g : FuncId} {fn : Func} (hfn : P.funcs[g]? = some fn) (hname : (fn.name == "runtime.NumGoroutine") = false) {d0 : Dec α} {d1 : Dec β} {d2 : Dec γ} {d3 : Dec δ} {d4 : Dec ε} {gd : α → β → γ → δ → ε → Bool} {f : α → β → γ → δ → ε → AV}
    (h : ∀ x0 x1 x2 x3 x4, pureRun P C F fn [d0.av x0, d1.av x1, d2.av x2, d3.av x3, d4.av x4] = cond (gd x0 x1 x2 x3 x4) (some (f x0 x1 x2 x3 x4)) none) (hn : ∀ x0 x1 x2 x3 x4, (f x0 x1 x2 x3 x4).names = []) (hF : FOK P fn F := by first | exact fok_nil rfl | assumption) : PureGOK P g (pure5 d0 d1 d2 d3 d4 (fun x0 x1 x2 x3 x4 => .tup [.bool (gd x0 x1 x2 x3 x4), f x0 x1 x2 x3 x4])) := by
  refine pureGOK_of (F := F) hC hfn hname (hF := hF) fun args v hv => ?_
  obtain ⟨x0, x1, x2, x3, x4, rfl, e⟩ := pure5_inv hv
  simp only [AV.tup.injEq, List.cons.injEq, AV.bool.injEq, and_true] at e
  obtain ⟨e1, rfl⟩ := e
  exact ⟨by rw [h, ← e1]; rfl, by simp [AV.namesL, d0.nm, d1.nm, d2.nm, d3.nm, d4.nm], hn x0 x1 x2 x3 x4⟩
theorem pure6_inv {d0 : Dec α} {d1 : Dec β} {d2 : Dec γ} {d3 : Dec δ} {d4 : Dec ε} {d5 : Dec ζ} {f : α → β → γ → δ → ε → ζ → AV} {args : List AV} {v : AV} (hv : pure6 d0 d1 d2 d3 d4 d5 f args = some v) : ∃ x0 x1 x2 x3 x4 x5, args = [d0.av x0, d1.av x1, d2.av x2, d3.av x3, d4.av x4, d5.av x5] ∧ v = f x0 x1 x2 x3 x4 x5 := by
  unfold pure6 at hv
  split at hv
  · split at hv
    · rename_i x0 hx0
      split at hv
      · rename_i x1 hx1
        split at hv
        · rename_i x2 hx2
          split at hv
          · rename_i x3 hx3
            split at hv
            · rename_i x4 hx4
              split at hv
              · rename_i x5 hx5
                cases hv
                obtain rfl := d0.ok _ _ hx0
                obtain rfl := d1.ok _ _ hx1
                obtain rfl := d2.ok _ _ hx2
                obtain rfl := d3.ok _ _ hx3
                obtain rfl := d4.ok _ _ hx4
                obtain rfl := d5.ok _ _ hx5
                exact ⟨x0, x1, x2, x3, x4, x5, rfl, rfl⟩
              · simp at hv
            · simp at hv
          · simp at hv
        · simp at hv
      · simp at hv
    · simp at hv
  · simp at hv
theorem pure6_gok {C : Oracle} (hC : Snd P C) {F : Cfg} {g : FuncId} {fn : Func} (hfn : P.funcs[g]? = some fn) (hname : (fn.name == "runtime.NumGoroutine") = false) {d0 : Dec α} {d1 : Dec β} {d2 : Dec γ} {d3 : Dec δ} {d4 : Dec ε} {d5 : Dec ζ} {gd : α → β → γ → δ → ε → ζ → Bool} {f : α → β → γ → δ → ε → ζ → AV}
    (h : ∀ x0 x1 x2 x3 x4 x5, pureRun P C F fn [d0.av x0, d1.av x1, d2.av x2, d3.av x3, d4.av x4, d5.av x5] = cond (gd x0 x1 x2 x3 x4 x5) (some (f x0 x1 x2 x3 x4 x5)) none) (hn : ∀ x0 x1 x2 x3 x4 x5, (f x0 x1 x2 x3 x4 x5).names = []) (hF : FOK P fn F := by first | exact fok_nil rfl | assumption) : PureGOK P g (pure6 d0 d1 d2 d3 d4 d5 (fun x0 x1 x2 x3 x4 x5 => .tup [.bool (gd x0 x1 x2 x3 x4 x5), f x0 x1 x2 x3 x4 x5])) := by
  refine pureGOK_of (F := F) hC hfn hname (hF := hF) fun args v hv => ?_
  obtain ⟨x0, x1, x2, x3, x4, x5, rfl, e⟩ := pure6_inv hv
  simp only [AV.tup.injEq, List.cons.injEq, AV.bool.injEq, and_true] at e
  obtain ⟨e1, rfl⟩ := e
  exact ⟨by rw [h, ← e1]; rfl, by simp [AV.namesL, d0.nm, d1.nm, d2.nm, d3.nm, d4.nm, d5.nm], hn x0 x1 x2 x3 x4 x5⟩
end
section
variable (c : Bool) {α : Type} (f : α → AV)
theorem merS {x : α} : (some (f x) : Option AV) = cond true (some (f x)) none := rfl
theorem merG {T F : Option AV} {ga gb : Bool} {x y : α} (hT : T = cond ga (some (f x)) none) (hF : F = cond gb (some (f y)) none) : cond c T F = cond (cond c ga gb) (some (f (cond c x y))) none := by cases c <;> assumption
theorem merL {F : Option AV} {gb : Bool} {y : α} (hF : F = cond gb (some (f y)) none) : cond c none F = cond (cond c false gb) (some (f y)) none := by cases c <;> first | assumption | rfl
theorem merR {T : Option AV} {ga : Bool} {x : α} (hT : T = cond ga (some (f x)) none) : cond c T none = cond (cond c ga false) (some (f x)) none := by cases c <;> first | assumption | rfl
end
end Go.Sx

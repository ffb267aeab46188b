/- Several texts in one. -/
import Derived.Test.YtkbcfbehebbmhaaGreatSxR
import Derived.Test.YtkbcfbehebbmhaaGreatSxAC
set_option linter.unusedSimpArgs false
set_option linter.unusedVariables false
set_option linter.unnecessarySimpa false
/- Entries for functions of plain values; branches brought together; a capability's fields. -/
namespace Go.Sx
open Go

structure Dec (α : Type) where
  dec : AV → Option α
  av : α → AV
  ok : ∀ v a, dec v = some a → v = av a
  nm : ∀ a, (av a).names = []

def decBool : AV → Option Bool
  | .bool b => some b
  | _ => none
def dBool : Dec Bool := ⟨decBool, .bool, fun v a h => by unfold decBool at h; split at h <;> cases h; rfl, fun a => rfl⟩
def decI64 : AV → Option (BitVec 64)
  | .int .i64 b => some b
  | _ => none
def dI64 : Dec (BitVec 64) := ⟨decI64, fun x => .int .i64 x, fun v a h => by unfold decI64 at h; split at h <;> cases h; rfl, fun a => rfl⟩
def decU64 : AV → Option (BitVec 64)
  | .int .u64 b => some b
  | _ => none
def dU64 : Dec (BitVec 64) := ⟨decU64, fun x => .int .u64 x, fun v a h => by unfold decU64 at h; split at h <;> cases h; rfl, fun a => rfl⟩
def decU8 : AV → Option (BitVec 8)
  | .int .u8 b => some b
  | _ => none
def dU8 : Dec (BitVec 8) := ⟨decU8, fun x => .int .u8 x, fun v a h => by unfold decU8 at h; split at h <;> cases h; rfl, fun a => rfl⟩

/-- A capability. -/
structure Cp where
  tag : Bool
  per : BitVec 64
  ty : BitVec 64
  mo : BitVec 64
  e : BitVec 64
  b : BitVec 64
  t : BitVec 64
  big : Bool
  ad : BitVec 64
def Cp.av (c : Cp) : AV := .agg [.bool c.tag, .int .i64 c.per, .int .i64 c.ty, .int .i64 c.mo, .int .i64 c.e, .int .i64 c.b, .int .i64 c.t, .bool c.big, .int .u64 c.ad]
def decCp : AV → Option Cp
  | .agg [.bool tag, .int .i64 per, .int .i64 ty, .int .i64 mo, .int .i64 e, .int .i64 b, .int .i64 t, .bool big, .int .u64 ad] => some ⟨tag, per, ty, mo, e, b, t, big, ad⟩
  | _ => none
def dCp : Dec Cp := ⟨decCp, Cp.av, fun v a h => by unfold decCp at h; split at h <;> cases h; rfl, fun a => rfl⟩

/-- A range. -/
structure Rg where
  base : BitVec 64
  top : BitVec 64
  over : Bool
def Rg.av (r : Rg) : AV := .agg [.int .u64 r.base, .int .u64 r.top, .bool r.over]
def decRg : AV → Option Rg
  | .agg [.int .u64 a, .int .u64 b, .bool c] => some ⟨a, b, c⟩
  | _ => none
def dRg : Dec Rg := ⟨decRg, Rg.av, fun v a h => by unfold decRg at h; split at h <;> cases h; rfl, fun a => rfl⟩

section
variable {P : Program} {α β γ δ : Type}
def pure0 (f : AV) : List AV → Option AV
  | [] => some f
  | _ => none
def pure1 (d : Dec α) (f : α → AV) : List AV → Option AV
  | [a] => match d.dec a with
    | some x => some (f x)
    | none => none
  | _ => none
def pure2 (d : Dec α) (d2 : Dec β) (f : α → β → AV) : List AV → Option AV
  | [a, b] => match d.dec a with
    | some x => match d2.dec b with
      | some y => some (f x y)
      | none => none
    | none => none
  | _ => none
def pure3 (d : Dec α) (d2 : Dec β) (d3 : Dec γ) (f : α → β → γ → AV) : List AV → Option AV
  | [a, b, c] => match d.dec a with
    | some x => match d2.dec b with
      | some y => match d3.dec c with
        | some z => some (f x y z)
        | none => none
      | none => none
    | none => none
  | _ => none
def pure4 (d : Dec α) (d2 : Dec β) (d3 : Dec γ) (d4 : Dec δ) (f : α → β → γ → δ → AV) : List AV → Option AV
  | [a, b, c, e] => match d.dec a with
    | some x => match d2.dec b with
      | some y => match d3.dec c with
        | some z => match d4.dec e with
          | some u => some (f x y z u)
          | none => none
        | none => none
      | none => none
    | none => none
  | _ => none

theorem pure0_ok {C : Oracle} (hC : Snd P C) {F : Cfg} {g : FuncId} {fn : Func} (hfn : P.funcs[g]? = some fn) (hname : (fn.name == "runtime.NumGoroutine") = false) {f : AV}
    (h : pureRun P C F fn [] = some f) (hn : f.names = []) (hF : FOK P fn F := by first | exact fok_nil rfl | assumption) : PureOK P g (pure0 f) := by
  refine pureOK_of (F := F) hC hfn hname (hF := hF) fun args v hv => ?_
  unfold pure0 at hv
  split at hv
  · cases hv; exact ⟨h, rfl, hn⟩
  · simp at hv
theorem pure1_ok {C : Oracle} (hC : Snd P C) {F : Cfg} {g : FuncId} {fn : Func} (hfn : P.funcs[g]? = some fn) (hname : (fn.name == "runtime.NumGoroutine") = false) {d : Dec α} {f : α → AV}
    (h : ∀ a, pureRun P C F fn [d.av a] = some (f a)) (hn : ∀ a, (f a).names = []) (hF : FOK P fn F := by first | exact fok_nil rfl | assumption) : PureOK P g (pure1 d f) := by
  refine pureOK_of (F := F) hC hfn hname (hF := hF) fun args v hv => ?_
  unfold pure1 at hv
  split at hv
  · split at hv
    · rename_i x hx
      cases hv
      obtain rfl := d.ok _ _ hx
      exact ⟨h x, by simp [AV.namesL, d.nm], hn x⟩
    · simp at hv
  · simp at hv
theorem pure2_ok {C : Oracle} (hC : Snd P C) {F : Cfg} {g : FuncId} {fn : Func} (hfn : P.funcs[g]? = some fn) (hname : (fn.name == "runtime.NumGoroutine") = false) {d : Dec α} {d2 : Dec β} {f : α → β → AV}
    (h : ∀ a b, pureRun P C F fn [d.av a, d2.av b] = some (f a b)) (hn : ∀ a b, (f a b).names = []) (hF : FOK P fn F := by first | exact fok_nil rfl | assumption) : PureOK P g (pure2 d d2 f) := by
  refine pureOK_of (F := F) hC hfn hname (hF := hF) fun args v hv => ?_
  unfold pure2 at hv
  split at hv
  · split at hv
    · rename_i x hx
      split at hv
      · rename_i y hy
        cases hv
        obtain rfl := d.ok _ _ hx
        obtain rfl := d2.ok _ _ hy
        exact ⟨h x y, by simp [AV.namesL, d.nm, d2.nm], hn x y⟩
      · simp at hv
    · simp at hv
  · simp at hv
theorem pure3_ok {C : Oracle} (hC : Snd P C) {F : Cfg} {g : FuncId} {fn : Func} (hfn : P.funcs[g]? = some fn) (hname : (fn.name == "runtime.NumGoroutine") = false) {d : Dec α} {d2 : Dec β} {d3 : Dec γ} {f : α → β → γ → AV}
    (h : ∀ a b c, pureRun P C F fn [d.av a, d2.av b, d3.av c] = some (f a b c)) (hn : ∀ a b c, (f a b c).names = []) (hF : FOK P fn F := by first | exact fok_nil rfl | assumption) : PureOK P g (pure3 d d2 d3 f) := by
  refine pureOK_of (F := F) hC hfn hname (hF := hF) fun args v hv => ?_
  unfold pure3 at hv
  split at hv
  · split at hv
    · rename_i x hx
      split at hv
      · rename_i y hy
        split at hv
        · rename_i z hz
          cases hv
          obtain rfl := d.ok _ _ hx
          obtain rfl := d2.ok _ _ hy
          obtain rfl := d3.ok _ _ hz
          exact ⟨h x y z, by simp [AV.namesL, d.nm, d2.nm, d3.nm], hn x y z⟩
        · simp at hv
      · simp at hv
    · simp at hv
  · simp at hv
theorem pure4_ok {C : Oracle} (hC : Snd P C) {F : Cfg} {g : FuncId} {fn : Func} (hfn : P.funcs[g]? = some fn) (hname : (fn.name == "runtime.NumGoroutine") = false) {d : Dec α} {d2 : Dec β} {d3 : Dec γ} {d4 : Dec δ} {f : α → β → γ → δ → AV}
    (h : ∀ a b c e, pureRun P C F fn [d.av a, d2.av b, d3.av c, d4.av e] = some (f a b c e)) (hn : ∀ a b c e, (f a b c e).names = []) (hF : FOK P fn F := by first | exact fok_nil rfl | assumption) : PureOK P g (pure4 d d2 d3 d4 f) := by
  refine pureOK_of (F := F) hC hfn hname (hF := hF) fun args v hv => ?_
  unfold pure4 at hv
  split at hv
  · split at hv
    · rename_i x hx
      split at hv
      · rename_i y hy
        split at hv
        · rename_i z hz
          split at hv
          · rename_i u hu
            cases hv
            obtain rfl := d.ok _ _ hx
            obtain rfl := d2.ok _ _ hy
            obtain rfl := d3.ok _ _ hz
            obtain rfl := d4.ok _ _ hu
            exact ⟨h x y z u, by simp [AV.namesL, d.nm, d2.nm, d3.nm, d4.nm], hn x y z u⟩
          · simp at hv
        · simp at hv
      · simp at hv
    · simp at hv
  · simp at hv
end

section
variable (c : Bool)
theorem cond_some {α : Type} (x y : α) : cond c (some x) (some y) = some (cond c x y) := by cases c <;> rfl
theorem cond_avbool (x y : Bool) : cond c (AV.bool x) (AV.bool y) = AV.bool (cond c x y) := by cases c <;> rfl
theorem cond_avint (k : IntKind) (x y : BitVec k.bits) : cond c (AV.int k x) (AV.int k y) = AV.int k (cond c x y) := by cases c <;> rfl
theorem cond_agg (x y : List AV) : cond c (AV.agg x) (AV.agg y) = AV.agg (cond c x y) := by cases c <;> rfl
theorem cond_tup (x y : List AV) : cond c (AV.tup x) (AV.tup y) = AV.tup (cond c x y) := by cases c <;> rfl
theorem cond_cons (x y : AV) (l m : List AV) : cond c (x :: l) (y :: m) = cond c x y :: cond c l m := by cases c <;> rfl
theorem mer {α : Type} (f : α → AV) {T F : Option AV} {x y : α} (hT : T = some (f x)) (hF : F = some (f y)) : cond c T F = some (f (cond c x y)) := by cases c <;> assumption
theorem cond_same {α : Type} (x : α) : cond c x x = x := by cases c <;> rfl
end
end Go.Sx

/- More kinds of plain values: numbers of two words, traps, questions, processors; entries of five and six arguments. -/
namespace Go.Sx
open Go

def decU32 : AV → Option (BitVec 32)
  | .int .u32 b => some b
  | _ => none
def dU32 : Dec (BitVec 32) := ⟨decU32, fun x => .int .u32 x, fun v a h => by unfold decU32 at h; split at h <;> cases h; rfl, fun a => rfl⟩

/-- Two words. -/
structure W2 where
  hi : BitVec 64
  lo : BitVec 64
def W2.av (r : W2) : AV := .agg [.int .u64 r.hi, .int .u64 r.lo]
def decW2 : AV → Option W2
  | .agg [.int .u64 a, .int .u64 b] => some ⟨a, b⟩
  | _ => none
def dW2 : Dec W2 := ⟨decW2, W2.av, fun v a h => by unfold decW2 at h; split at h <;> cases h; rfl, fun a => rfl⟩

/-- A trap. -/
structure Tr where
  is : Bool
  cause : BitVec 64
  val : BitVec 64
def Tr.av (r : Tr) : AV := .agg [.bool r.is, .int .i64 r.cause, .int .u64 r.val]
def decTr : AV → Option Tr
  | .agg [.bool a, .int .i64 b, .int .u64 c] => some ⟨a, b, c⟩
  | _ => none
def dTr : Dec Tr := ⟨decTr, Tr.av, fun v a h => by unfold decTr at h; split at h <;> cases h; rfl, fun a => rfl⟩

/-- A question. -/
structure Qu where
  no : Bool
  why : BitVec 64
def Qu.av (r : Qu) : AV := .agg [.bool r.no, .int .i64 r.why]
def decQu : AV → Option Qu
  | .agg [.bool a, .int .i64 b] => some ⟨a, b⟩
  | _ => none
def dQu : Dec Qu := ⟨decQu, Qu.av, fun v a h => by unfold decQu at h; split at h <;> cases h; rfl, fun a => rfl⟩

/-- A processor: its capabilities (32 registers, then ten), its numbers, whether it waits. -/
structure Ht where
  c : Nat → Cp
  e : Nat → BitVec 64
  w : Bool
def Ht.cells (h : Ht) : List AV := [.bool (h.c 0).tag, .int .i64 (h.c 0).per, .int .i64 (h.c 0).ty, .int .i64 (h.c 0).mo, .int .i64 (h.c 0).e, .int .i64 (h.c 0).b, .int .i64 (h.c 0).t, .bool (h.c 0).big, .int .u64 (h.c 0).ad, .bool (h.c 1).tag, .int .i64 (h.c 1).per, .int .i64 (h.c 1).ty, .int .i64 (h.c 1).mo, .int .i64 (h.c 1).e, .int .i64 (h.c 1).b, .int .i64 (h.c 1).t, .bool (h.c 1).big, .int .u64 (h.c 1).ad, .bool (h.c 2).tag, .int .i64 (h.c 2).per, .int .i64 (h.c 2).ty, .int .i64 (h.c 2).mo, .int .i64 (h.c 2).e, .int .i64 (h.c 2).b, .int .i64 (h.c 2).t, .bool (h.c 2).big, .int .u64 (h.c 2).ad, .bool (h.c 3).tag, .int .i64 (h.c 3).per, .int .i64 (h.c 3).ty, .int .i64 (h.c 3).mo, .int .i64 (h.c 3).e, .int .i64 (h.c 3).b, .int .i64 (h.c 3).t, .bool (h.c 3).big, .int .u64 (h.c 3).ad, .bool (h.c 4).tag, .int .i64 (h.c 4).per, .int .i64 (h.c 4).ty, .int .i64 (h.c 4).mo, .int .i64 (h.c 4).e, .int .i64 (h.c 4).b, .int .i64 (h.c 4).t, .bool (h.c 4).big, .int .u64 (h.c 4).ad, .bool (h.c 5).tag, .int .i64 (h.c 5).per, .int .i64 (h.c 5).ty, .int .i64 (h.c 5).mo, .int .i64 (h.c 5).e, .int .i64 (h.c 5).b, .int .i64 (h.c 5).t, .bool (h.c 5).big, .int .u64 (h.c 5).ad, .bool (h.c 6).tag, .int .i64 (h.c 6).per, .int .i64 (h.c 6).ty, .int .i64 (h.c 6).mo, .int .i64 (h.c 6).e, .int .i64 (h.c 6).b, .int .i64 (h.c 6).t, .bool (h.c 6).big, .int .u64 (h.c 6).ad, .bool (h.c 7).tag, .int .i64 (h.c 7).per, .int .i64 (h.c 7).ty, .int .i64 (h.c 7).mo, .int .i64 (h.c 7).e, .int .i64 (h.c 7).b, .int .i64 (h.c 7).t, .bool (h.c 7).big, .int .u64 (h.c 7).ad, .bool (h.c 8).tag, .int .i64 (h.c 8).per, .int .i64 (h.c 8).ty, .int .i64 (h.c 8).mo, .int .i64 (h.c 8).e, .int .i64 (h.c 8).b, .int .i64 (h.c 8).t, .bool (h.c 8).big, .int .u64 (h.c 8).ad, .bool (h.c 9).tag, .int .i64 (h.c 9).per, .int .i64 (h.c 9).ty, .int .i64 (h.c 9).mo, .int .i64 (h.c 9).e, .int .i64 (h.c 9).b, .int .i64 (h.c 9).t, .bool (h.c 9).big, .int .u64 (h.c 9).ad, .bool (h.c 10).tag, .int .i64 (h.c 10).per, .int .i64 (h.c 10).ty, .int .i64 (h.c 10).mo, .int .i64 (h.c 10).e, .int .i64 (h.c 10).b, .int .i64 (h.c 10).t, .bool (h.c 10).big, .int .u64 (h.c 10).ad, .bool (h.c 11).tag, .int .i64 (h.c 11).per, .int .i64 (h.c 11).ty, .int .i64 (h.c 11).mo, .int .i64 (h.c 11).e, .int .i64 (h.c 11).b, .int .i64 (h.c 11).t, .bool (h.c 11).big, .int .u64 (h.c 11).ad, .bool (h.c 12).tag, .int .i64 (h.c 12).per, .int .i64 (h.c 12).ty, .int .i64 (h.c 12).mo, .int .i64 (h.c 12).e, .int .i64 (h.c 12).b, .int .i64 (h.c 12).t, .bool (h.c 12).big, .int .u64 (h.c 12).ad, .bool (h.c 13).tag, .int .i64 (h.c 13).per, .int .i64 (h.c 13).ty, .int .i64 (h.c 13).mo, .int .i64 (h.c 13).e, .int .i64 (h.c 13).b, .int .i64 (h.c 13).t, .bool (h.c 13).big, .int .u64 (h.c 13).ad, .bool (h.c 14).tag, .int .i64 (h.c 14).per, .int .i64 (h.c 14).ty, .int .i64 (h.c 14).mo, .int .i64 (h.c 14).e, .int .i64 (h.c 14).b, .int .i64 (h.c 14).t, .bool (h.c 14).big, .int .u64 (h.c 14).ad, .bool (h.c 15).tag, .int .i64 (h.c 15).per, .int .i64 (h.c 15).ty, .int .i64 (h.c 15).mo, .int .i64 (h.c 15).e, .int .i64 (h.c 15).b, .int .i64 (h.c 15).t, .bool (h.c 15).big, .int .u64 (h.c 15).ad, .bool (h.c 16).tag, .int .i64 (h.c 16).per, .int .i64 (h.c 16).ty, .int .i64 (h.c 16).mo, .int .i64 (h.c 16).e, .int .i64 (h.c 16).b, .int .i64 (h.c 16).t, .bool (h.c 16).big, .int .u64 (h.c 16).ad, .bool (h.c 17).tag, .int .i64 (h.c 17).per, .int .i64 (h.c 17).ty, .int .i64 (h.c 17).mo, .int .i64 (h.c 17).e, .int .i64 (h.c 17).b, .int .i64 (h.c 17).t, .bool (h.c 17).big, .int .u64 (h.c 17).ad, .bool (h.c 18).tag, .int .i64 (h.c 18).per, .int .i64 (h.c 18).ty, .int .i64 (h.c 18).mo, .int .i64 (h.c 18).e, .int .i64 (h.c 18).b, .int .i64 (h.c 18).t, .bool (h.c 18).big, .int .u64 (h.c 18).ad, .bool (h.c 19).tag, .int .i64 (h.c 19).per, .int .i64 (h.c 19).ty, .int .i64 (h.c 19).mo, .int .i64 (h.c 19).e, .int .i64 (h.c 19).b, .int .i64 (h.c 19).t, .bool (h.c 19).big, .int .u64 (h.c 19).ad, .bool (h.c 20).tag, .int .i64 (h.c 20).per, .int .i64 (h.c 20).ty, .int .i64 (h.c 20).mo, .int .i64 (h.c 20).e, .int .i64 (h.c 20).b, .int .i64 (h.c 20).t, .bool (h.c 20).big, .int .u64 (h.c 20).ad, .bool (h.c 21).tag, .int .i64 (h.c 21).per, .int .i64 (h.c 21).ty, .int .i64 (h.c 21).mo, .int .i64 (h.c 21).e, .int .i64 (h.c 21).b, .int .i64 (h.c 21).t, .bool (h.c 21).big, .int .u64 (h.c 21).ad, .bool (h.c 22).tag, .int .i64 (h.c 22).per, .int .i64 (h.c 22).ty, .int .i64 (h.c 22).mo, .int .i64 (h.c 22).e, .int .i64 (h.c 22).b, .int .i64 (h.c 22).t, .bool (h.c 22).big, .int .u64 (h.c 22).ad, .bool (h.c 23).tag, .int .i64 (h.c 23).per, .int .i64 (h.c 23).ty, .int .i64 (h.c 23).mo, .int .i64 (h.c 23).e, .int .i64 (h.c 23).b, .int .i64 (h.c 23).t, .bool (h.c 23).big, .int .u64 (h.c 23).ad, .bool (h.c 24).tag, .int .i64 (h.c 24).per, .int .i64 (h.c 24).ty, .int .i64 (h.c 24).mo, .int .i64 (h.c 24).e, .int .i64 (h.c 24).b, .int .i64 (h.c 24).t, .bool (h.c 24).big, .int .u64 (h.c 24).ad, .bool (h.c 25).tag, .int .i64 (h.c 25).per, .int .i64 (h.c 25).ty, .int .i64 (h.c 25).mo, .int .i64 (h.c 25).e, .int .i64 (h.c 25).b, .int .i64 (h.c 25).t, .bool (h.c 25).big, .int .u64 (h.c 25).ad, .bool (h.c 26).tag, .int .i64 (h.c 26).per, .int .i64 (h.c 26).ty, .int .i64 (h.c 26).mo, .int .i64 (h.c 26).e, .int .i64 (h.c 26).b, .int .i64 (h.c 26).t, .bool (h.c 26).big, .int .u64 (h.c 26).ad, .bool (h.c 27).tag, .int .i64 (h.c 27).per, .int .i64 (h.c 27).ty, .int .i64 (h.c 27).mo, .int .i64 (h.c 27).e, .int .i64 (h.c 27).b, .int .i64 (h.c 27).t, .bool (h.c 27).big, .int .u64 (h.c 27).ad, .bool (h.c 28).tag, .int .i64 (h.c 28).per, .int .i64 (h.c 28).ty, .int .i64 (h.c 28).mo, .int .i64 (h.c 28).e, .int .i64 (h.c 28).b, .int .i64 (h.c 28).t, .bool (h.c 28).big, .int .u64 (h.c 28).ad, .bool (h.c 29).tag, .int .i64 (h.c 29).per, .int .i64 (h.c 29).ty, .int .i64 (h.c 29).mo, .int .i64 (h.c 29).e, .int .i64 (h.c 29).b, .int .i64 (h.c 29).t, .bool (h.c 29).big, .int .u64 (h.c 29).ad, .bool (h.c 30).tag, .int .i64 (h.c 30).per, .int .i64 (h.c 30).ty, .int .i64 (h.c 30).mo, .int .i64 (h.c 30).e, .int .i64 (h.c 30).b, .int .i64 (h.c 30).t, .bool (h.c 30).big, .int .u64 (h.c 30).ad, .bool (h.c 31).tag, .int .i64 (h.c 31).per, .int .i64 (h.c 31).ty, .int .i64 (h.c 31).mo, .int .i64 (h.c 31).e, .int .i64 (h.c 31).b, .int .i64 (h.c 31).t, .bool (h.c 31).big, .int .u64 (h.c 31).ad, .bool (h.c 32).tag, .int .i64 (h.c 32).per, .int .i64 (h.c 32).ty, .int .i64 (h.c 32).mo, .int .i64 (h.c 32).e, .int .i64 (h.c 32).b, .int .i64 (h.c 32).t, .bool (h.c 32).big, .int .u64 (h.c 32).ad, .bool (h.c 33).tag, .int .i64 (h.c 33).per, .int .i64 (h.c 33).ty, .int .i64 (h.c 33).mo, .int .i64 (h.c 33).e, .int .i64 (h.c 33).b, .int .i64 (h.c 33).t, .bool (h.c 33).big, .int .u64 (h.c 33).ad, .bool (h.c 34).tag, .int .i64 (h.c 34).per, .int .i64 (h.c 34).ty, .int .i64 (h.c 34).mo, .int .i64 (h.c 34).e, .int .i64 (h.c 34).b, .int .i64 (h.c 34).t, .bool (h.c 34).big, .int .u64 (h.c 34).ad, .bool (h.c 35).tag, .int .i64 (h.c 35).per, .int .i64 (h.c 35).ty, .int .i64 (h.c 35).mo, .int .i64 (h.c 35).e, .int .i64 (h.c 35).b, .int .i64 (h.c 35).t, .bool (h.c 35).big, .int .u64 (h.c 35).ad, .bool (h.c 36).tag, .int .i64 (h.c 36).per, .int .i64 (h.c 36).ty, .int .i64 (h.c 36).mo, .int .i64 (h.c 36).e, .int .i64 (h.c 36).b, .int .i64 (h.c 36).t, .bool (h.c 36).big, .int .u64 (h.c 36).ad, .bool (h.c 37).tag, .int .i64 (h.c 37).per, .int .i64 (h.c 37).ty, .int .i64 (h.c 37).mo, .int .i64 (h.c 37).e, .int .i64 (h.c 37).b, .int .i64 (h.c 37).t, .bool (h.c 37).big, .int .u64 (h.c 37).ad, .bool (h.c 38).tag, .int .i64 (h.c 38).per, .int .i64 (h.c 38).ty, .int .i64 (h.c 38).mo, .int .i64 (h.c 38).e, .int .i64 (h.c 38).b, .int .i64 (h.c 38).t, .bool (h.c 38).big, .int .u64 (h.c 38).ad, .bool (h.c 39).tag, .int .i64 (h.c 39).per, .int .i64 (h.c 39).ty, .int .i64 (h.c 39).mo, .int .i64 (h.c 39).e, .int .i64 (h.c 39).b, .int .i64 (h.c 39).t, .bool (h.c 39).big, .int .u64 (h.c 39).ad, .bool (h.c 40).tag, .int .i64 (h.c 40).per, .int .i64 (h.c 40).ty, .int .i64 (h.c 40).mo, .int .i64 (h.c 40).e, .int .i64 (h.c 40).b, .int .i64 (h.c 40).t, .bool (h.c 40).big, .int .u64 (h.c 40).ad, .bool (h.c 41).tag, .int .i64 (h.c 41).per, .int .i64 (h.c 41).ty, .int .i64 (h.c 41).mo, .int .i64 (h.c 41).e, .int .i64 (h.c 41).b, .int .i64 (h.c 41).t, .bool (h.c 41).big, .int .u64 (h.c 41).ad, .int .i64 (h.e 0), .int .u64 (h.e 1), .int .u64 (h.e 2), .int .u64 (h.e 3), .int .u64 (h.e 4), .int .u64 (h.e 5), .int .u64 (h.e 6), .int .u64 (h.e 7), .int .u64 (h.e 8), .int .u64 (h.e 9), .int .u64 (h.e 10), .int .u64 (h.e 11), .int .u64 (h.e 12), .int .u64 (h.e 13), .int .u64 (h.e 14), .int .u64 (h.e 15), .int .u64 (h.e 16), .bool h.w]
def Ht.av (h : Ht) : AV := .agg h.cells
set_option maxRecDepth 100000 in
theorem Ht.names (h : Ht) : h.av.names = [] := rfl

section
variable {P : Program} {α β γ δ ε ζ : Type}
def pure5 (d0 : Dec α) (d1 : Dec β) (d2 : Dec γ) (d3 : Dec δ) (d4 : Dec ε) (f : α → β → γ → δ → ε → AV) : List AV → Option AV
  | [a0, a1, a2, a3, a4] => match d0.dec a0 with
    | some x0 => match d1.dec a1 with
      | some x1 => match d2.dec a2 with
        | some x2 => match d3.dec a3 with
          | some x3 => match d4.dec a4 with
            | some x4 => some (f x0 x1 x2 x3 x4)
            | none => none
          | none => none
        | none => none
      | none => none
    | none => none
  | _ => none
theorem pure5_ok {C : Oracle} (hC : Snd P C) {F : Cfg} {g : FuncId} {fn : Func} (hfn : P.funcs[g]? = some fn) (hname : (fn.name == "runtime.NumGoroutine") = false) {d0 : Dec α} {d1 : Dec β} {d2 : Dec γ} {d3 : Dec δ} {d4 : Dec ε} {f : α → β → γ → δ → ε → AV}
    (h : ∀ x0 x1 x2 x3 x4, pureRun P C F fn [d0.av x0, d1.av x1, d2.av x2, d3.av x3, d4.av x4] = some (f x0 x1 x2 x3 x4)) (hn : ∀ x0 x1 x2 x3 x4, (f x0 x1 x2 x3 x4).names = []) (hF : FOK P fn F := by first | exact fok_nil rfl | assumption) : PureOK P g (pure5 d0 d1 d2 d3 d4 f) := by
  refine pureOK_of (F := F) hC hfn hname (hF := hF) fun args v hv => ?_
  unfold pure5 at hv
  split at hv
  · split at hv
    · rename_i x0 hx0
      split at hv
      · rename_i x1 hx1
        split at hv
        · rename_i x2 hx2
          split at hv
          · rename_i x3 hx3
            split at hv
            · rename_i x4 hx4
              cases hv
              obtain rfl := d0.ok _ _ hx0
              obtain rfl := d1.ok _ _ hx1
              obtain rfl := d2.ok _ _ hx2
              obtain rfl := d3.ok _ _ hx3
              obtain rfl := d4.ok _ _ hx4
              exact ⟨h x0 x1 x2 x3 x4, by simp [AV.namesL, d0.nm, d1.nm, d2.nm, d3.nm, d4.nm], hn x0 x1 x2 x3 x4⟩
            · simp at hv
          · simp at hv
        · simp at hv
      · simp at hv
    · simp at hv
  · simp at hv
def pure6 (d0 : Dec α) (d1 : Dec β) (d2 : Dec γ) (d3 : Dec δ) (d4 : Dec ε) (d5 : Dec ζ) (f : α → β → γ → δ → ε → ζ → AV) : List AV → Option AV
  | [a0, a1, a2, a3, a4, a5] => match d0.dec a0 with
    | some x0 => match d1.dec a1 with
      | some x1 => match d2.dec a2 with
        | some x2 => match d3.dec a3 with
          | some x3 => match d4.dec a4 with
            | some x4 => match d5.dec a5 with
              | some x5 => some (f x0 x1 x2 x3 x4 x5)
              | none => none
            | none => none
          | none => none
        | none => none
      | none => none
    | none => none
  | _ => none
theorem pure6_ok {C : Oracle} (hC : Snd P C) {F : Cfg} {g : FuncId} {fn : Func} (hfn : P.funcs[g]? = some fn) (hname : (fn.name == "runtime.NumGoroutine") = false) {d0 : Dec α} {d1 : Dec β} {d2 : Dec γ} {d3 : Dec δ} {d4 : Dec ε} {d5 : Dec ζ} {f : α → β → γ → δ → ε → ζ → AV}
    (h : ∀ x0 x1 x2 x3 x4 x5, pureRun P C F fn [d0.av x0, d1.av x1, d2.av x2, d3.av x3, d4.av x4, d5.av x5] = some (f x0 x1 x2 x3 x4 x5)) (hn : ∀ x0 x1 x2 x3 x4 x5, (f x0 x1 x2 x3 x4 x5).names = []) (hF : FOK P fn F := by first | exact fok_nil rfl | assumption) : PureOK P g (pure6 d0 d1 d2 d3 d4 d5 f) := by
  refine pureOK_of (F := F) hC hfn hname (hF := hF) fun args v hv => ?_
  unfold pure6 at hv
  split at hv
  · split at hv
    · rename_i x0 hx0
      split at hv
      · rename_i x1 hx1
        split at hv
        · rename_i x2 hx2
          split at hv
          · rename_i x3 hx3
            split at hv
            · rename_i x4 hx4
              split at hv
              · rename_i x5 hx5
                cases hv
                obtain rfl := d0.ok _ _ hx0
                obtain rfl := d1.ok _ _ hx1
                obtain rfl := d2.ok _ _ hx2
                obtain rfl := d3.ok _ _ hx3
                obtain rfl := d4.ok _ _ hx4
                obtain rfl := d5.ok _ _ hx5
                exact ⟨h x0 x1 x2 x3 x4 x5, by simp [AV.namesL, d0.nm, d1.nm, d2.nm, d3.nm, d4.nm, d5.nm], hn x0 x1 x2 x3 x4 x5⟩
              · simp at hv
            · simp at hv
          · simp at hv
        · simp at hv
      · simp at hv
    · simp at hv
  · simp at hv
end

/-! entries of functions that may panic: what they answer where a guard holds -/
/-- One function's answers by a law of values under a guard. -/
def pureGE (g : Nat) (s : List AV → Option AV) (C : Oracle) : Oracle := fun R g' args H N K =>
  bif Nat.beq g' g then (match s args with
    | some (.tup [.bool b, v]) => cond b (K v [] N) none
    | _ => C R g' args H N K) else C R g' args H N K
def PureGOK (P : Program) (g : FuncId) (s : List AV → Option AV) : Prop := ∀ args v, s args = some (.tup [.bool true, v]) → ∀ H N, Ans P g args H N v [] N
theorem pureGE_snd {P : Program} {g : FuncId} {s : List AV → Option AV} {C : Oracle} (hs : PureGOK P g s) (hC : Snd P C) : Snd P (pureGE g s C) := by
  intro R g' args H N K r h
  unfold pureGE at h
  cases hg : Nat.beq g' g with
  | false => rw [hg] at h; exact hC R g' args H N K r h
  | true =>
    rw [hg] at h
    have hg' : g' = g := Nat.eq_of_beq_eq_true hg
    subst hg'
    simp only [cond_true] at h
    split at h
    · rename_i b v hv
      cases b with
      | true => exact ⟨v, [], N, h, Nat.le_refl _, hs args v hv H N⟩
      | false => simp at h
    · exact hC R g' args H N K r h
theorem pureGOK_of {P : Program} {C : Oracle} (hC : Snd P C) {F : Cfg} {g : FuncId} {fn : Func} (hfn : P.funcs[g]? = some fn) (hname : (fn.name == "runtime.NumGoroutine") = false) {s : List AV → Option AV}
    (h : ∀ args v, s args = some (.tup [.bool true, v]) → pureRun P C F fn args = some v ∧ AV.namesL args = [] ∧ v.names = []) (hF : FOK P fn F := by first | exact fok_nil rfl | assumption) : PureGOK P g s := by
  intro args v hv H N
  obtain ⟨h1, h2, h3⟩ := h args v hv
  exact pure_sound hC hfn hF hname h1 h2 h3 H N
section
variable {P : Program} {α β γ δ ε ζ : Type}
theorem pure1_inv {d0 : Dec α} {f : α → AV} {args : List AV} {v : AV} (hv : pure1 d0 f args = some v) : ∃ x0, args = [d0.av x0] ∧ v = f x0 := by
  unfold pure1 at hv
  split at hv
  · split at hv
    · rename_i x0 hx0
      cases hv
      obtain rfl := d0.ok _ _ hx0
      exact ⟨x0, rfl, rfl⟩
    · simp at hv
  · simp at hv
theorem pure1_gok {C : Oracle} (hC : Snd P C) {F : Cfg} {g : FuncId} {fn : Func} (hfn : P.funcs[g]? = some fn) (hname : (fn.name == "runtime.NumGoroutine") = false) {d0 : Dec α} {gd : α → Bool} {f : α → AV}
    (h : ∀ x0, pureRun P C F fn [d0.av x0] = cond (gd x0) (some (f x0)) none) (hn : ∀ x0, (f x0).names = []) (hF : FOK P fn F := by first | exact fok_nil rfl | assumption) : PureGOK P g (pure1 d0 (fun x0 => .tup [.bool (gd x0), f x0])) := by
  refine pureGOK_of (F := F) hC hfn hname (hF := hF) fun args v hv => ?_
  obtain ⟨x0, rfl, e⟩ := pure1_inv hv
  simp only [AV.tup.injEq, List.cons.injEq, AV.bool.injEq, and_true] at e
  obtain ⟨e1, rfl⟩ := e
  exact ⟨by rw [h, ← e1]; rfl, by simp [AV.namesL, d0.nm], hn x0⟩
theorem pure2_inv {d0 : Dec α} {d1 : Dec β} {f : α → β → AV} {args : List AV} {v : AV} (hv : pure2 d0 d1 f args = some v) : ∃ x0 x1, args = [d0.av x0, d1.av x1] ∧ v = f x0 x1 := by
  unfold pure2 at hv
  split at hv
  · split at hv
    · rename_i x0 hx0
      split at hv
      · rename_i x1 hx1
        cases hv
        obtain rfl := d0.ok _ _ hx0
        obtain rfl := d1.ok _ _ hx1
        exact ⟨x0, x1, rfl, rfl⟩
      · simp at hv
    · simp at hv
  · simp at hv
theorem pure2_gok {C : Oracle} (hC : Snd P C) {F : Cfg} {g : FuncId} {fn : Func} (hfn : P.funcs[g]? = some fn) (hname : (fn.name == "runtime.NumGoroutine") = false) {d0 : Dec α} {d1 : Dec β} {gd : α → β → Bool} {f : α → β → AV}
    (h : ∀ x0 x1, pureRun P C F fn [d0.av x0, d1.av x1] = cond (gd x0 x1) (some (f x0 x1)) none) (hn : ∀ x0 x1, (f x0 x1).names = []) (hF : FOK P fn F := by first | exact fok_nil rfl | assumption) : PureGOK P g (pure2 d0 d1 (fun x0 x1 => .tup [.bool (gd x0 x1), f x0 x1])) := by
  refine pureGOK_of (F := F) hC hfn hname (hF := hF) fun args v hv => ?_
  obtain ⟨x0, x1, rfl, e⟩ := pure2_inv hv
  simp only [AV.tup.injEq, List.cons.injEq, AV.bool.injEq, and_true] at e
  obtain ⟨e1, rfl⟩ := e
  exact ⟨by rw [h, ← e1]; rfl, by simp [AV.namesL, d0.nm, d1.nm], hn x0 x1⟩
theorem pure3_inv {d0 : Dec α} {d1 : Dec β} {d2 : Dec γ} {f : α → β → γ → AV} {args : List AV} {v : AV} (hv : pure3 d0 d1 d2 f args = some v) : ∃ x0 x1 x2, args = [d0.av x0, d1.av x1, d2.av x2] ∧ v = f x0 x1 x2 := by
  unfold pure3 at hv
  split at hv
  · split at hv
    · rename_i x0 hx0
      split at hv
      · rename_i x1 hx1
        split at hv
        · rename_i x2 hx2
          cases hv
          obtain rfl := d0.ok _ _ hx0
          obtain rfl := d1.ok _ _ hx1
          obtain rfl := d2.ok _ _ hx2
          exact ⟨x0, x1, x2, rfl, rfl⟩
        · simp at hv
      · simp at hv
    · simp at hv
  · simp at hv
theorem pure3_gok {C : Oracle} (hC : Snd P C) {F : Cfg} {g : FuncId} {fn : Func} (hfn : P.funcs[g]? = some fn) (hname : (fn.name == "runtime.NumGoroutine") = false) {d0 : Dec α} {d1 : Dec β} {d2 : Dec γ} {gd : α → β → γ → Bool} {f : α → β → γ → AV}
    (h : ∀ x0 x1 x2, pureRun P C F fn [d0.av x0, d1.av x1, d2.av x2] = cond (gd x0 x1 x2) (some (f x0 x1 x2)) none) (hn : ∀ x0 x1 x2, (f x0 x1 x2).names = []) (hF : FOK P fn F := by first | exact fok_nil rfl | assumption) : PureGOK P g (pure3 d0 d1 d2 (fun x0 x1 x2 => .tup [.bool (gd x0 x1 x2), f x0 x1 x2])) := by
  refine pureGOK_of (F := F) hC hfn hname (hF := hF) fun args v hv => ?_
  obtain ⟨x0, x1, x2, rfl, e⟩ := pure3_inv hv
  simp only [AV.tup.injEq, List.cons.injEq, AV.bool.injEq, and_true] at e
  obtain ⟨e1, rfl⟩ := e
  exact ⟨by rw [h, ← e1]; rfl, by simp [AV.namesL, d0.nm, d1.nm, d2.nm], hn x0 x1 x2⟩
theorem pure4_inv {d0 : Dec α} {d1 : Dec β} {d2 : Dec γ} {d3 : Dec δ} {f : α → β → γ → δ → AV} {args : List AV} {v : AV} (hv : pure4 d0 d1 d2 d3 f args = some v) : ∃ x0 x1 x2 x3, args = [d0.av x0, d1.av x1, d2.av x2, d3.av x3] ∧ v = f x0 x1 x2 x3 := by
  unfold pure4 at hv
  split at hv
  · split at hv
    · rename_i x0 hx0
      split at hv
      · rename_i x1 hx1
        split at hv
        · rename_i x2 hx2
          split at hv
          · rename_i x3 hx3
            cases hv
            obtain rfl := d0.ok _ _ hx0
            obtain rfl := d1.ok _ _ hx1
            obtain rfl := d2.ok _ _ hx2
            obtain rfl := d3.ok _ _ hx3
            exact ⟨x0, x1, x2, x3, rfl, rfl⟩
          · simp at hv
        · simp at hv
      · simp at hv
    · simp at hv
  · simp at hv
theorem pure4_gok {C : Oracle} (hC : Snd P C) {F : Cfg} {g : FuncId} {fn : Func} (hfn : P.funcs[g]? = some fn) (hname : (fn.name == "runtime.NumGoroutine") = false) {d0 : Dec α} {d1 : Dec β} {d2 : Dec γ} {d3 : Dec δ} {gd : α → β → γ → δ → Bool} {f : α → β → γ → δ → AV}
    (h : ∀ x0 x1 x2 x3, pureRun P C F fn [d0.av x0, d1.av x1, d2.av x2, d3.av x3] = cond (gd x0 x1 x2 x3) (some (f x0 x1 x2 x3)) none) (hn : ∀ x0 x1 x2 x3, (f x0 x1 x2 x3).names = []) (hF : FOK P fn F := by first | exact fok_nil rfl | assumption) : PureGOK P g (pure4 d0 d1 d2 d3 (fun x0 x1 x2 x3 => .tup [.bool (gd x0 x1 x2 x3), f x0 x1 x2 x3])) := by
  refine pureGOK_of (F := F) hC hfn hname (hF := hF) fun args v hv => ?_
  obtain ⟨x0, x1, x2, x3, rfl, e⟩ := pure4_inv hv
  simp only [AV.tup.injEq, List.cons.injEq, AV.bool.injEq, and_true] at e
  obtain ⟨e1, rfl⟩ := e
  exact ⟨by rw [h, ← e1]; rfl, by simp [AV.namesL, d0.nm, d1.nm, d2.nm, d3.nm], hn x0 x1 x2 x3⟩
theorem pure5_inv {d0 : Dec α} {d1 : Dec β} {d2 : Dec γ} {d3 : Dec δ} {d4 : Dec ε} {f : α → β → γ → δ → ε → AV} {args : List AV} {v : AV} (hv : pure5 d0 d1 d2 d3 d4 f args = some v) : ∃ x0 x1 x2 x3 x4, args = [d0.av x0, d1.av x1, d2.av x2, d3.av x3, d4.av x4] ∧ v = f x0 x1 x2 x3 x4 := by
  unfold pure5 at hv
  split at hv
  · split at hv
    · rename_i x0 hx0
      split at hv
      · rename_i x1 hx1
        split at hv
        · rename_i x2 hx2
          split at hv
          · rename_i x3 hx3
            split at hv
            · rename_i x4 hx4
              cases hv
              obtain rfl := d0.ok _ _ hx0
              obtain rfl := d1.ok _ _ hx1
              obtain rfl := d2.ok _ _ hx2
              obtain rfl := d3.ok _ _ hx3
              obtain rfl := d4.ok _ _ hx4
              exact ⟨x0, x1, x2, x3, x4, rfl, rfl⟩
            · simp at hv
          · simp at hv
        · simp at hv
      · simp at hv
    · simp at hv
  · simp at hv
theorem pure5_gok {C : Oracle} (hC : Snd P C) {F : Cfg} {g : FuncId} {fn : Func} (hfn : P.funcs[g]? = some fn) (hname : (fn.name == "runtime.NumGoroutine") = false) {d0 : Dec α} {d1 : Dec β} {d2 : Dec γ} {d3 : Dec δ} {d4 : Dec ε} {gd : α → β → γ → δ → ε → Bool} {f : α → β → γ → δ → ε → AV}
    (h : ∀ x0 x1 x2 x3 x4, pureRun P C F fn [d0.av x0, d1.av x1, d2.av x2, d3.av x3, d4.av x4] = cond (gd x0 x1 x2 x3 x4) (some (f x0 x1 x2 x3 x4)) none) (hn : ∀ x0 x1 x2 x3 x4, (f x0 x1 x2 x3 x4).names = []) (hF : FOK P fn F := by first | exact fok_nil rfl | assumption) : PureGOK P g (pure5 d0 d1 d2 d3 d4 (fun x0 x1 x2 x3 x4 => .tup [.bool (gd x0 x1 x2 x3 x4), f x0 x1 x2 x3 x4])) := by
  refine pureGOK_of (F := F) hC hfn hname (hF := hF) fun args v hv => ?_
  obtain ⟨x0, x1, x2, x3, x4, rfl, e⟩ := pure5_inv hv
  simp only [AV.tup.injEq, List.cons.injEq, AV.bool.injEq, and_true] at e
  obtain ⟨e1, rfl⟩ := e
  exact ⟨by rw [h, ← e1]; rfl, by simp [AV.namesL, d0.nm, d1.nm, d2.nm, d3.nm, d4.nm], hn x0 x1 x2 x3 x4⟩
theorem pure6_inv {d0 : Dec α} {d1 : Dec β} {d2 : Dec γ} {d3 : Dec δ} {d4 : Dec ε} {d5 : Dec ζ} {f : α → β → γ → δ → ε → ζ → AV} {args : List AV} {v : AV} (hv : pure6 d0 d1 d2 d3 d4 d5 f args = some v) : ∃ x0 x1 x2 x3 x4 x5, args = [d0.av x0, d1.av x1, d2.av x2, d3.av x3, d4.av x4, d5.av x5] ∧ v = f x0 x1 x2 x3 x4 x5 := by
  unfold pure6 at hv
  split at hv
  · split at hv
    · rename_i x0 hx0
      split at hv
      · rename_i x1 hx1
        split at hv
        · rename_i x2 hx2
          split at hv
          · rename_i x3 hx3
            split at hv
            · rename_i x4 hx4
              split at hv
              · rename_i x5 hx5
                cases hv
                obtain rfl := d0.ok _ _ hx0
                obtain rfl := d1.ok _ _ hx1
                obtain rfl := d2.ok _ _ hx2
                obtain rfl := d3.ok _ _ hx3
                obtain rfl := d4.ok _ _ hx4
                obtain rfl := d5.ok _ _ hx5
                exact ⟨x0, x1, x2, x3, x4, x5, rfl, rfl⟩
              · simp at hv
            · simp at hv
          · simp at hv
        · simp at hv
      · simp at hv
    · simp at hv
  · simp at hv
theorem pure6_gok {C : Oracle} (hC : Snd P C) {F : Cfg} {g : FuncId} {fn : Func} (hfn : P.funcs[g]? = some fn) (hname : (fn.name == "runtime.NumGoroutine") = false) {d0 : Dec α} {d1 : Dec β} {d2 : Dec γ} {d3 : Dec δ} {d4 : Dec ε} {d5 : Dec ζ} {gd : α → β → γ → δ → ε → ζ → Bool} {f : α → β → γ → δ → ε → ζ → AV}
    (h : ∀ x0 x1 x2 x3 x4 x5, pureRun P C F fn [d0.av x0, d1.av x1, d2.av x2, d3.av x3, d4.av x4, d5.av x5] = cond (gd x0 x1 x2 x3 x4 x5) (some (f x0 x1 x2 x3 x4 x5)) none) (hn : ∀ x0 x1 x2 x3 x4 x5, (f x0 x1 x2 x3 x4 x5).names = []) (hF : FOK P fn F := by first | exact fok_nil rfl | assumption) : PureGOK P g (pure6 d0 d1 d2 d3 d4 d5 (fun x0 x1 x2 x3 x4 x5 => .tup [.bool (gd x0 x1 x2 x3 x4 x5), f x0 x1 x2 x3 x4 x5])) := by
  refine pureGOK_of (F := F) hC hfn hname (hF := hF) fun args v hv => ?_
  obtain ⟨x0, x1, x2, x3, x4, x5, rfl, e⟩ := pure6_inv hv
  simp only [AV.tup.injEq, List.cons.injEq, AV.bool.injEq, and_true] at e
  obtain ⟨e1, rfl⟩ := e
  exact ⟨by rw [h, ← e1]; rfl, by simp [AV.namesL, d0.nm, d1.nm, d2.nm, d3.nm, d4.nm, d5.nm], hn x0 x1 x2 x3 x4 x5⟩
end
section
variable (c : Bool) {α : Type} (f : α → AV)
theorem merS {x : α} : (some (f x) : Option AV) = cond true (some (f x)) none := rfl
theorem merG {T F : Option AV} {ga gb : Bool} {x y : α} (hT : T = cond ga (some (f x)) none) (hF : F = cond gb (some (f y)) none) : cond c T F = cond (cond c ga gb) (some (f (cond c x y))) none := by cases c <;> assumption
theorem merL {F : Option AV} {gb : Bool} {y : α} (hF : F = cond gb (some (f y)) none) : cond c none F = cond (cond c false gb) (some (f y)) none := by cases c <;> first | assumption | rfl
theorem merR {T : Option AV} {ga : Bool} {x : α} (hT : T = cond ga (some (f x)) none) : cond c T none = cond (cond c ga false) (some (f x)) none := by cases c <;> first | assumption | rfl
end
end Go.Sx

/- A processor's row, read; its right form. -/
namespace Go.Sx
open Go
def c00 : Cp := ⟨false, 0, 0, 0, 0, 0, 0, false, 0⟩
def decCaps : Nat → List AV → Option (List Cp × List AV)
  | 0, l => some ([], l)
  | n + 1, l => match decCp (.agg (l.take 9)) with
    | some c => match decCaps n (l.drop 9) with
      | some p => some (c :: p.1, p.2)
      | none => none
    | none => none
def decNums : Nat → List AV → Option (List (BitVec 64) × List AV)
  | 0, l => some ([], l)
  | n + 1, l => match l with
    | v :: t => match decU64 v with
      | some x => match decNums n t with
        | some p => some (x :: p.1, p.2)
        | none => none
      | none => none
    | [] => none
def decHt (v : AV) : Option Ht := match v with
  | .agg l => match decCaps 42 l with
    | some (cs, u :: t) => match decI64 u with
      | some p => match decNums 16 t with
        | some (ns, [.bool w]) => some ⟨fun i => cs.getD i c00, fun i => bif Nat.beq i 0 then p else ns.getD (Nat.sub i 1) 0, w⟩
        | _ => none
      | none => none
    | _ => none
  | _ => none
def capsOf (f : Nat → Cp) : Nat → Nat → List AV → List AV
  | 0, _, t => t
  | n + 1, i, t => .bool (f i).tag :: .int .i64 (f i).per :: .int .i64 (f i).ty :: .int .i64 (f i).mo :: .int .i64 (f i).e :: .int .i64 (f i).b :: .int .i64 (f i).t :: .bool (f i).big :: .int .u64 (f i).ad :: capsOf f n (i + 1) t
theorem capsOf_congr {f g : Nat → Cp} : ∀ {n i : Nat} {t : List AV}, (∀ m, i ≤ m → f m = g m) → capsOf f n i t = capsOf g n i t
  | 0, _, _, _ => rfl
  | n + 1, i, t, h => by simp only [capsOf]; rw [h i (Nat.le_refl _), capsOf_congr (fun m hm => h m (by omega))]
theorem capsOf_shift {f : Nat → Cp} (k : Nat) : ∀ {n i : Nat} {t : List AV}, capsOf f n (i + k) t = capsOf (fun m => f (m + k)) n i t
  | 0, _, _ => rfl
  | n + 1, i, t => by
    simp only [capsOf]
    rw [show i + k + 1 = (i + 1) + k by omega, capsOf_shift k]
theorem decCaps_ok : ∀ {n : Nat} {l : List AV} {cs : List Cp} {t : List AV}, decCaps n l = some (cs, t) → l = capsOf (fun i => cs.getD i c00) n 0 t
  | 0, l, cs, t, h => by simp [decCaps] at h; exact h.2
  | n + 1, l, cs, t, h => by
    unfold decCaps at h
    split at h
    · rename_i c hc
      split at h
      · rename_i p hp
        simp only [Option.some.injEq, Prod.mk.injEq] at h
        obtain ⟨rfl, rfl⟩ := h
        have h1 := dCp.ok _ _ hc
        have h2 := decCaps_ok hp
        have h3 : l = l.take 9 ++ l.drop 9 := (List.take_append_drop 9 l).symm
        have h4 : l.take 9 = [.bool c.tag, .int .i64 c.per, .int .i64 c.ty, .int .i64 c.mo, .int .i64 c.e, .int .i64 c.b, .int .i64 c.t, .bool c.big, .int .u64 c.ad] := by
          simpa [dCp, Cp.av] using h1
        rw [h3, h4, h2]
        simp only [capsOf, List.cons_append, List.nil_append, List.getD_cons_zero]
        rw [show (0 : Nat) + 1 = 0 + 1 from rfl, capsOf_shift 1]
        simp only [List.getD_cons_succ]
      · simp at h
    · simp at h
theorem decNums_ok : ∀ {n : Nat} {l : List AV} {ns : List (BitVec 64)} {t : List AV}, decNums n l = some (ns, t) → l = (List.range n).map (fun i => AV.int .u64 (ns.getD i 0)) ++ t
  | 0, l, ns, t, h => by simp [decNums] at h; simp [h.2]
  | n + 1, l, ns, t, h => by
    unfold decNums at h
    split at h
    · rename_i v r
      split at h
      · rename_i x hx
        split at h
        · rename_i p hp
          simp only [Option.some.injEq, Prod.mk.injEq] at h
          obtain ⟨rfl, rfl⟩ := h
          have h1 := dU64.ok _ _ hx
          have h2 := decNums_ok hp
          rw [h1, h2, List.range_succ_eq_map]
          simp [dU64]
        · simp at h
      · simp at h
    · simp at h
set_option maxRecDepth 100000 in
theorem decHt_ok (v : AV) (h : Ht) (hd : decHt v = some h) : v = h.av := by
  unfold decHt at hd
  split at hd
  · rename_i l
    split at hd
    · rename_i cs u t hc
      split at hd
      · rename_i p hp
        split at hd
        · rename_i ns w hn
          simp only [Option.some.injEq] at hd
          subst hd
          have h1 := decCaps_ok hc
          have h2 := dI64.ok _ _ hp
          have h3 := decNums_ok hn
          subst h1
          subst h2
          subst h3
          rfl
        · simp at hd
      · simp at hd
    · simp at hd
  · simp at hd
def dHt : Dec Ht := ⟨decHt, Ht.av, decHt_ok, Ht.names⟩
end Go.Sx

/- A processor in memory: its block's parts, read. -/
namespace Go.Sx
open Go
def capSh : List CK := [.bool, .int .i64, .int .i64, .int .i64, .int .i64, .int .i64, .int .i64, .bool, .int .u64]
def rowsC (f : Nat → Cp) : Nat → Nat → List (List AV)
  | 0, _ => []
  | n + 1, i => [.bool (f i).tag, .int .i64 (f i).per, .int .i64 (f i).ty, .int .i64 (f i).mo, .int .i64 (f i).e, .int .i64 (f i).b, .int .i64 (f i).t, .bool (f i).big, .int .u64 (f i).ad] :: rowsC f n (i + 1)
def cellSegs : List AV → List Seg
  | [] => []
  | v :: l => .cell v :: cellSegs l
def uncell : List Seg → Option (List AV)
  | [] => some []
  | .cell v :: r => match uncell r with
    | some l => some (v :: l)
    | none => none
  | _ :: _ => none
theorem uncell_ok : ∀ {s : List Seg} {l : List AV}, uncell s = some l → s = cellSegs l
  | [], l, h => by simp [uncell] at h; subst h; rfl
  | .cell v :: r, l, h => by
    unfold uncell at h
    split at h
    · rename_i l' hl
      simp only [Option.some.injEq] at h; subst h
      rw [uncell_ok hl]; rfl
    · simp at h
  | .arr _ _ _ :: r, l, h => by simp [uncell] at h
def decRows : List (List AV) → Option (List Cp)
  | [] => some []
  | r :: d => match decCp (.agg r) with
    | some c => match decRows d with
      | some l => some (c :: l)
      | none => none
    | none => none
theorem rowsC_congr {f g : Nat → Cp} : ∀ {n i : Nat}, (∀ m, i ≤ m → m < i + n → f m = g m) → rowsC f n i = rowsC g n i
  | 0, _, _ => rfl
  | n + 1, i, h => by simp only [rowsC]; rw [h i (Nat.le_refl _) (by omega), rowsC_congr (fun m hm hm2 => h m (by omega) (by omega))]
theorem rowsC_shift {f : Nat → Cp} : ∀ {n i : Nat}, rowsC f n (i + 1) = rowsC (fun m => f (m + 1)) n i
  | 0, _ => rfl
  | n + 1, i => by simp only [rowsC]; rw [rowsC_shift]
theorem decRows_ok : ∀ {d : List (List AV)} {cs : List Cp}, decRows d = some cs → d = rowsC (fun i => cs.getD i c00) cs.length 0
  | [], cs, h => by simp [decRows] at h; subst h; rfl
  | r :: d, cs, h => by
    unfold decRows at h
    split at h
    · rename_i c hc
      split at h
      · rename_i l hl
        simp only [Option.some.injEq] at h; subst h
        have h1 := dCp.ok _ _ hc
        have h2 : r = [.bool c.tag, .int .i64 c.per, .int .i64 c.ty, .int .i64 c.mo, .int .i64 c.e, .int .i64 c.b, .int .i64 c.t, .bool c.big, .int .u64 c.ad] := by simpa [dCp, Cp.av] using h1
        rw [h2, decRows_ok hl]
        simp only [List.length_cons, rowsC, List.getD_cons_zero]
        rw [rowsC_shift]
        simp only [List.getD_cons_succ]
      · simp at h
    · simp at h
/-- A processor's block. -/
def Ht.segs (h : Ht) : List Seg := .arr capSh 32 (rowsC h.c 32 0) :: cellSegs (capsOf h.c 10 32 (.int .i64 (h.e 0) :: ((List.range 16).map (fun i => AV.int .u64 (h.e (i + 1))) ++ [.bool h.w])))
def decHtS (s : List Seg) : Option Ht := match s with
  | .arr sh n d :: r => bif decide (sh = capSh) && Nat.beq n 32 then match decRows d, uncell r with
    | some cs, some l => bif Nat.beq cs.length 32 then match decCaps 10 l with
      | some (cs2, u :: t) => match decI64 u with
        | some p => match decNums 16 t with
          | some (ns, [.bool w]) => some ⟨fun i => bif Nat.blt i 32 then cs.getD i c00 else cs2.getD (Nat.sub i 32) c00, fun i => bif Nat.beq i 0 then p else ns.getD (Nat.sub i 1) 0, w⟩
          | _ => none
        | none => none
      | _ => none
      else none
    | _, _ => none
    else none
  | _ => none
set_option maxRecDepth 100000 in
theorem decHtS_ok (s : List Seg) (h : Ht) (hd : decHtS s = some h) : s = h.segs := by
  unfold decHtS at hd
  split at hd
  · rename_i sh n d r
    cases hc : (decide (sh = capSh) && Nat.beq n 32) with
    | false => rw [hc] at hd; simp at hd
    | true =>
      rw [hc] at hd
      simp only [cond_true] at hd
      simp only [Bool.and_eq_true, decide_eq_true_eq, beq_true] at hc
      obtain ⟨rfl, rfl⟩ := hc
      split at hd
      · rename_i cs l hcs hl
        cases hn : Nat.beq cs.length 32 with
        | false => rw [hn] at hd; simp at hd
        | true =>
          rw [hn] at hd
          simp only [cond_true] at hd
          split at hd
          · rename_i cs2 u t h2
            split at hd
            · rename_i p hp
              split at hd
              · rename_i ns w hns
                simp only [Option.some.injEq] at hd
                subst hd
                have h1 := decCaps_ok h2
                have h3 := dI64.ok _ _ hp
                have h4 := decNums_ok hns
                have h5 := uncell_ok hl
                have h6 := decRows_ok hcs
                rw [beq_true.1 hn] at h6
                subst h3
                rw [h5, h1, h6, h4]
                unfold Ht.segs
                congr 1
              · simp at hd
            · simp at hd
          · simp at hd
      · simp at hd
  · simp at hd
end Go.Sx

/- Entries over memory with a guard; a processor's part that traps turn. -/
namespace Go.Sx
open Go
/-- One function's answers, by values and memory, where a guard holds. -/
def stGE (g : Nat) (s : List AV → Heap → Option (Bool × AV × Eff × Nat)) (C : Oracle) : Oracle := fun R g' args H N K =>
  bif Nat.beq g' g then
    let xs := liveGo 0 H 400 (AV.namesL args) []
    bif nodupB xs && allIn xs (AV.namesL args) && belowB N xs then
      match takeH H xs xs 0 with
      | some Hc => match s (AV.renL (fun n => posN n xs) args) Hc with
        | some (c, v, e, k') => bif Nat.ble xs.length k' then bif c then bif belowB k' (namesOf e) then K (v.ren (mapN xs N)) (renE (mapN xs N) e) (Nat.add N (Nat.sub k' xs.length)) else none else none else none
        | none => C R g' args H N K
      | none => C R g' args H N K
    else C R g' args H N K
  else C R g' args H N K
/-- What a guarded law says where it holds. -/
def unG (s : List AV → Heap → Option (Bool × AV × Eff × Nat)) (args : List AV) (H : Heap) : Option (AV × Eff × Nat) := match s args H with
  | some (true, r) => some r
  | _ => none
theorem stGE_snd {P : Program} {g : FuncId} {s : List AV → Heap → Option (Bool × AV × Eff × Nat)} {C : Oracle} (hs : StOK P g (unG s)) (hC : Snd P C) : Snd P (stGE g s C) := by
  intro R g' args H N K r h
  refine (stE_snd hs hC) R g' args H N K r ?_
  unfold stGE at h
  unfold stE
  cases hg : Nat.beq g' g with
  | false => rw [hg] at h; exact h
  | true =>
    rw [hg] at h
    simp only [cond_true] at h ⊢
    generalize liveGo 0 H 400 (AV.namesL args) [] = xs at h ⊢
    cases hc : (nodupB xs && allIn xs (AV.namesL args) && belowB N xs) with
    | false => rw [hc] at h; exact h
    | true =>
      rw [hc] at h
      simp only [cond_true] at h ⊢
      cases ht : takeH H xs xs 0 with
      | none => rw [ht] at h; exact h
      | some Hc =>
        rw [ht] at h
        simp only at h ⊢
        unfold unG
        cases hv : s (AV.renL (fun n => posN n xs) args) Hc with
        | none => rw [hv] at h; exact h
        | some q =>
          obtain ⟨c, v, e, k'⟩ := q
          rw [hv] at h
          simp only at h
          cases hk : Nat.ble xs.length k' with
          | false => rw [hk] at h; simp at h
          | true =>
            rw [hk] at h
            simp only [cond_true] at h
            cases c with
            | false => simp at h
            | true =>
              simp only [cond_true] at h
              simp only [hk, Bool.true_and]
              exact h
section
variable {α β : Type} {c : Bool} (f : α → β)
theorem merGQ {T F : Option β} {ga gb : Bool} {x y : α} (hT : T = cond ga (some (f x)) none) (hF : F = cond gb (some (f y)) none) : cond c T F = cond (cond c ga gb) (some (f (cond c x y))) none := by cases c <;> assumption
theorem merLQ {F : Option β} {gb : Bool} {y : α} (hF : F = cond gb (some (f y)) none) : cond c none F = cond (cond c false gb) (some (f y)) none := by cases c <;> first | assumption | rfl
theorem merRQ {T : Option β} {ga : Bool} {x : α} (hT : T = cond ga (some (f x)) none) : cond c T none = cond (cond c ga false) (some (f x)) none := by cases c <;> first | assumption | rfl
end
/-- The parts of a processor that traps read, or turn. -/
structure En where
  pcc : Cp
  sepcc : Cp
  mepcc : Cp
  stcc : Cp
  mtcc : Cp
  p : BitVec 64
  m : BitVec 64
  md : BitVec 64
  mi : BitVec 64
  mc : BitVec 64
  sc : BitVec 64
  mt : BitVec 64
  st : BitVec 64
  w : Bool
def enOf (h : Ht) : En := ⟨h.c 32, h.c 37, h.c 41, h.c 34, h.c 38, h.e 0, h.e 1, h.e 2, h.e 3, h.e 8, h.e 9, h.e 10, h.e 11, h.w⟩
def putC : List AV → List Seg → List Seg
  | [], l => l
  | v :: r, l => .cell v :: putC r (l.drop 1)
def updC (vs : List AV) : Nat → List Seg → List Seg
  | 0, l => putC vs l
  | n + 1, x :: l => x :: updC vs n l
  | _ + 1, [] => []
def cpL (c : Cp) : List AV := [.bool c.tag, .int .i64 c.per, .int .i64 c.ty, .int .i64 c.mo, .int .i64 c.e, .int .i64 c.b, .int .i64 c.t, .bool c.big, .int .u64 c.ad]
def setEn (k : En) (s : List Seg) : List Seg := updC (cpL k.pcc) 1 (updC (cpL k.sepcc) 46 (updC (cpL k.mepcc) 82 (updC (cpL k.stcc) 19 (updC (cpL k.mtcc) 55 (updC [.int .i64 k.p, .int .u64 k.m, .int .u64 k.md, .int .u64 k.mi] 91 (updC [.int .u64 k.mc, .int .u64 k.sc, .int .u64 k.mt, .int .u64 k.st] 99 (updC [.bool k.w] 108 s)))))))
def apZ (p : AP) : Bool := Nat.beq p.x 0 && Nat.beq p.off 0 && Nat.beq p.i 0 && Nat.beq p.sz 0 && Nat.beq p.j 0
theorem apZ_eq {p : AP} (h : apZ p = true) : p = ⟨0, 0, 0, 0, 0⟩ := by
  simp only [apZ, Bool.and_eq_true, beq_true] at h
  obtain ⟨⟨⟨⟨h1, h2⟩, h3⟩, h4⟩, h5⟩ := h
  cases p; simp_all
/-- The memory and the answer of a function that turns a processor. -/
def enR (s : List Seg) (k : En) : AV × Eff × Nat := (.tup [], [(0, some ⟨true, setEn k s⟩)], 1)
/-- Are two capabilities the same, part by part? -/
def eqCp (x y : Cp) : Bool := (x.tag == y.tag && (x.per == y.per && (x.ty == y.ty && (x.mo == y.mo && (x.e == y.e && (x.b == y.b && (x.t == y.t && (x.big == y.big && (x.ad == y.ad && true)))))))))
theorem eqCp_self (x : Cp) : eqCp x x = true := by simp [eqCp]
theorem eqCp_iff (x y : Cp) : eqCp x y = true ↔ x = y := by
  constructor
  · intro h
    simp only [eqCp, Bool.and_eq_true, beq_iff_eq] at h
    obtain ⟨h1, h2, h3, h4, h5, h6, h7, h8, h9, _⟩ := h
    cases x; cases y; simp_all
  · rintro rfl; exact eqCp_self _
def sHt1 (g : En → Bool → Bool) (v : En → Bool → En) (args : List AV) (H : Heap) : Option (Bool × AV × Eff × Nat) := match args, H with
  | [.ptr p, b], [(x, ⟨rw, sg⟩)] => bif apZ p && Nat.beq x 0 && rw then match decHtS sg, decBool b with
    | some h, some b => some (g (enOf h) b, enR sg (v (enOf h) b))
    | _, _ => none
    else none
  | _, _ => none
def sHt3 (g : En → BitVec 64 → Bool → BitVec 64 → Bool) (v : En → BitVec 64 → Bool → BitVec 64 → En) (args : List AV) (H : Heap) : Option (Bool × AV × Eff × Nat) := match args, H with
  | [.ptr p, a, b, c], [(x, ⟨rw, sg⟩)] => bif apZ p && Nat.beq x 0 && rw then match decHtS sg, decI64 a, decBool b, decU64 c with
    | some h, some a, some b, some c => some (g (enOf h) a b c, enR sg (v (enOf h) a b c))
    | _, _, _, _ => none
    else none
  | _, _ => none
theorem unG_of {s : List AV → Heap → Option (Bool × AV × Eff × Nat)} {args : List AV} {H : Heap} {r : AV × Eff × Nat} (h : unG s args H = some r) : s args H = some (true, r) := by
  unfold unG at h
  split at h
  · rename_i q hq; simp only [Option.some.injEq] at h; subst h; exact hq
  · simp at h
theorem sHt1_ok {P : Program} {C : Oracle} {F : Cfg} {fn : Func} {g : En → Bool → Bool} {v : En → Bool → En}
    (hr : ∀ (h : Ht) (b : Bool), stRun P C F fn [.ptr ⟨0, 0, 0, 0, 0⟩, .bool b] [(0, ⟨true, h.segs⟩)] = cond (g (enOf h) b) (some (enR h.segs (v (enOf h) b))) none) :
    ∀ args H r, unG (sHt1 g v) args H = some r → stRun P C F fn args H = some r := by
  intro args H r h
  replace h := unG_of h
  unfold sHt1 at h
  split at h
  · rename_i p b x rw sg
    cases hc : (apZ p && Nat.beq x 0 && rw) with
    | false => rw [hc] at h; simp at h
    | true =>
      rw [hc] at h
      simp only [cond_true] at h
      simp only [Bool.and_eq_true, beq_true] at hc
      obtain ⟨⟨h1, rfl⟩, rfl⟩ := hc
      obtain rfl := apZ_eq h1
      split at h
      · rename_i ht b' e1 e2
        simp only [Option.some.injEq, Prod.mk.injEq] at h
        obtain rfl := decHtS_ok _ _ e1
        obtain rfl := dBool.ok _ _ e2
        rw [show dBool.av b' = AV.bool b' from rfl, hr, h.1]
        exact congrArg some h.2
      · simp at h
  · simp at h
theorem sHt3_ok {P : Program} {C : Oracle} {F : Cfg} {fn : Func} {g : En → BitVec 64 → Bool → BitVec 64 → Bool} {v : En → BitVec 64 → Bool → BitVec 64 → En}
    (hr : ∀ (h : Ht) (a : BitVec 64) (b : Bool) (c : BitVec 64), stRun P C F fn [.ptr ⟨0, 0, 0, 0, 0⟩, .int .i64 a, .bool b, .int .u64 c] [(0, ⟨true, h.segs⟩)] = cond (g (enOf h) a b c) (some (enR h.segs (v (enOf h) a b c))) none) :
    ∀ args H r, unG (sHt3 g v) args H = some r → stRun P C F fn args H = some r := by
  intro args H r h
  replace h := unG_of h
  unfold sHt3 at h
  split at h
  · rename_i p a b c x rw sg
    cases hc : (apZ p && Nat.beq x 0 && rw) with
    | false => rw [hc] at h; simp at h
    | true =>
      rw [hc] at h
      simp only [cond_true] at h
      simp only [Bool.and_eq_true, beq_true] at hc
      obtain ⟨⟨h1, rfl⟩, rfl⟩ := hc
      obtain rfl := apZ_eq h1
      split at h
      · rename_i ht a' b' c' e1 e2 e3 e4
        simp only [Option.some.injEq, Prod.mk.injEq] at h
        obtain rfl := decHtS_ok _ _ e1
        obtain rfl := dI64.ok _ _ e2
        obtain rfl := dBool.ok _ _ e3
        obtain rfl := dU64.ok _ _ e4
        rw [show dBool.av b' = AV.bool b' from rfl, show dI64.av a' = AV.int .i64 a' from rfl, show dU64.av c' = AV.int .u64 c' from rfl, hr, h.1]
        exact congrArg some h.2
      · simp at h
  · simp at h
/-- A function that reads a processor. -/
def sHtM (v : En → Bool → BitVec 32 → Tr) (args : List AV) (H : Heap) : Option (Bool × AV × Eff × Nat) := match args, H with
  | [.ptr p, b, c], [(x, ⟨rw, sg⟩)] => bif apZ p && Nat.beq x 0 && rw then match decHtS sg, decBool b, decU32 c with
    | some h, some b, some c => some (true, (v (enOf h) b c).av, [(0, some ⟨true, sg⟩)], 1)
    | _, _, _ => none
    else none
  | _, _ => none
theorem sHtM_ok {P : Program} {C : Oracle} {F : Cfg} {fn : Func} {v : En → Bool → BitVec 32 → Tr}
    (hr : ∀ (h : Ht) (b : Bool) (c : BitVec 32), stRun P C F fn [.ptr ⟨0, 0, 0, 0, 0⟩, .bool b, .int .u32 c] [(0, ⟨true, h.segs⟩)] = some ((v (enOf h) b c).av, [(0, some ⟨true, h.segs⟩)], 1)) :
    ∀ args H r, unG (sHtM v) args H = some r → stRun P C F fn args H = some r := by
  intro args H r h
  replace h := unG_of h
  unfold sHtM at h
  split at h
  · rename_i p b c x rw sg
    cases hc : (apZ p && Nat.beq x 0 && rw) with
    | false => rw [hc] at h; simp at h
    | true =>
      rw [hc] at h
      simp only [cond_true] at h
      simp only [Bool.and_eq_true, beq_true] at hc
      obtain ⟨⟨h1, rfl⟩, rfl⟩ := hc
      obtain rfl := apZ_eq h1
      split at h
      · rename_i ht b' c' e1 e2 e3
        simp only [Option.some.injEq, Prod.mk.injEq] at h
        obtain rfl := decHtS_ok _ _ e1
        obtain rfl := dBool.ok _ _ e2
        obtain rfl := dU32.ok _ _ e3
        rw [show dBool.av b' = AV.bool b' from rfl, show dU32.av c' = AV.int .u32 c' from rfl, hr]
        exact congrArg some h.2
      · simp at h
  · simp at h
end Go.Sx


/- Entries for functions of plain values; branches brought together; a capability's fields. -/
import Derived.Test.YtonehcpccklkoaaSxR
set_option linter.unusedSimpArgs false
set_option linter.unusedVariables false
set_option linter.unnecessarySimpa false
namespace Go.Sx
open Go

structure Dec (α : Type) where
  dec : AV → Option α
  av : α → AV
  ok : ∀ v a, dec v = some a → v = av a
  nm : ∀ a, (av a).names = []

def decBool : AV → Option Bool
  | .bool b => some b
  | _ => none
def dBool : Dec Bool := ⟨decBool, .bool, fun v a h => by unfold decBool at h; split at h <;> cases h; rfl, fun a => rfl⟩
def decI64 : AV → Option (BitVec 64)
  | .int .i64 b => some b
  | _ => none
def dI64 : Dec (BitVec 64) := ⟨decI64, fun x => .int .i64 x, fun v a h => by unfold decI64 at h; split at h <;> cases h; rfl, fun a => rfl⟩
def decU64 : AV → Option (BitVec 64)
  | .int .u64 b => some b
  | _ => none
def dU64 : Dec (BitVec 64) := ⟨decU64, fun x => .int .u64 x, fun v a h => by unfold decU64 at h; split at h <;> cases h; rfl, fun a => rfl⟩
def decU8 : AV → Option (BitVec 8)
  | .int .u8 b => some b
  | _ => none
def dU8 : Dec (BitVec 8) := ⟨decU8, fun x => .int .u8 x, fun v a h => by unfold decU8 at h; split at h <;> cases h; rfl, fun a => rfl⟩

/-- A capability. -/
structure Cp where
  tag : Bool
  per : BitVec 64
  ty : BitVec 64
  mo : BitVec 64
  e : BitVec 64
  b : BitVec 64
  t : BitVec 64
  big : Bool
  ad : BitVec 64
def Cp.av (c : Cp) : AV := .agg [.bool c.tag, .int .i64 c.per, .int .i64 c.ty, .int .i64 c.mo, .int .i64 c.e, .int .i64 c.b, .int .i64 c.t, .bool c.big, .int .u64 c.ad]
def decCp : AV → Option Cp
  | .agg [.bool tag, .int .i64 per, .int .i64 ty, .int .i64 mo, .int .i64 e, .int .i64 b, .int .i64 t, .bool big, .int .u64 ad] => some ⟨tag, per, ty, mo, e, b, t, big, ad⟩
  | _ => none
def dCp : Dec Cp := ⟨decCp, Cp.av, fun v a h => by unfold decCp at h; split at h <;> cases h; rfl, fun a => rfl⟩

/-- A range. -/
structure Rg where
  base : BitVec 64
  top : BitVec 64
  over : Bool
def Rg.av (r : Rg) : AV := .agg [.int .u64 r.base, .int .u64 r.top, .bool r.over]
def decRg : AV → Option Rg
  | .agg [.int .u64 a, .int .u64 b, .bool c] => some ⟨a, b, c⟩
  | _ => none
def dRg : Dec Rg := ⟨decRg, Rg.av, fun v a h => by unfold decRg at h; split at h <;> cases h; rfl, fun a => rfl⟩

section
variable {P : Program} {α β γ δ : Type}
def pure0 (f : AV) : List AV → Option AV
  | [] => some f
  | _ => none
def pure1 (d : Dec α) (f : α → AV) : List AV → Option AV
  | [a] => match d.dec a with
    | some x => some (f x)
    | none => none
  | _ => none
def pure2 (d : Dec α) (d2 : Dec β) (f : α → β → AV) : List AV → Option AV
  | [a, b] => match d.dec a with
    | some x => match d2.dec b with
      | some y => some (f x y)
      | none => none
    | none => none
  | _ => none
def pure3 (d : Dec α) (d2 : Dec β) (d3 : Dec γ) (f : α → β → γ → AV) : List AV → Option AV
  | [a, b, c] => match d.dec a with
    | some x => match d2.dec b with
      | some y => match d3.dec c with
        | some z => some (f x y z)
        | none => none
      | none => none
    | none => none
  | _ => none
def pure4 (d : Dec α) (d2 : Dec β) (d3 : Dec γ) (d4 : Dec δ) (f : α → β → γ → δ → AV) : List AV → Option AV
  | [a, b, c, e] => match d.dec a with
    | some x => match d2.dec b with
      | some y => match d3.dec c with
        | some z => match d4.dec e with
          | some u => some (f x y z u)
          | none => none
        | none => none
      | none => none
    | none => none
  | _ => none

theorem pure0_ok {C : Oracle} (hC : Snd P C) {F : Cfg} {g : FuncId} {fn : Func} (hfn : P.funcs[g]? = some fn) (hname : (fn.name == "runtime.NumGoroutine") = false) {f : AV}
    (h : pureRun P C F fn [] = some f) (hn : f.names = []) (hF : FOK P fn F := by first | exact fok_nil rfl | assumption) : PureOK P g (pure0 f) := by
  refine pureOK_of (F := F) hC hfn hname (hF := hF) fun args v hv => ?_
  unfold pure0 at hv
  split at hv
  · cases hv; exact ⟨h, rfl, hn⟩
  · simp at hv
theorem pure1_ok {C : Oracle} (hC : Snd P C) {F : Cfg} {g : FuncId} {fn : Func} (hfn : P.funcs[g]? = some fn) (hname : (fn.name == "runtime.NumGoroutine") = false) {d : Dec α} {f : α → AV}
    (h : ∀ a, pureRun P C F fn [d.av a] = some (f a)) (hn : ∀ a, (f a).names = []) (hF : FOK P fn F := by first | exact fok_nil rfl | assumption) : PureOK P g (pure1 d f) := by
  refine pureOK_of (F := F) hC hfn hname (hF := hF) fun args v hv => ?_
  unfold pure1 at hv
  split at hv
  · split at hv
    · rename_i x hx
      cases hv
      obtain rfl := d.ok _ _ hx
      exact ⟨h x, by simp [AV.namesL, d.nm], hn x⟩
    · simp at hv
  · simp at hv
theorem pure2_ok {C : Oracle} (hC : Snd P C) {F : Cfg} {g : FuncId} {fn : Func} (hfn : P.funcs[g]? = some fn) (hname : (fn.name == "runtime.NumGoroutine") = false) {d : Dec α} {d2 : Dec β} {f : α → β → AV}
    (h : ∀ a b, pureRun P C F fn [d.av a, d2.av b] = some (f a b)) (hn : ∀ a b, (f a b).names = []) (hF : FOK P fn F := by first | exact fok_nil rfl | assumption) : PureOK P g (pure2 d d2 f) := by
  refine pureOK_of (F := F) hC hfn hname (hF := hF) fun args v hv => ?_
  unfold pure2 at hv
  split at hv
  · split at hv
    · rename_i x hx
      split at hv
      · rename_i y hy
        cases hv
        obtain rfl := d.ok _ _ hx
        obtain rfl := d2.ok _ _ hy
        exact ⟨h x y, by simp [AV.namesL, d.nm, d2.nm], hn x y⟩
      · simp at hv
    · simp at hv
  · simp at hv
theorem pure3_ok {C : Oracle} (hC : Snd P C) {F : Cfg} {g : FuncId} {fn : Func} (hfn : P.funcs[g]? = some fn) (hname : (fn.name == "runtime.NumGoroutine") = false) {d : Dec α} {d2 : Dec β} {d3 : Dec γ} {f : α → β → γ → AV}
    (h : ∀ a b c, pureRun P C F fn [d.av a, d2.av b, d3.av c] = some (f a b c)) (hn : ∀ a b c, (f a b c).names = []) (hF : FOK P fn F := by first | exact fok_nil rfl | assumption) : PureOK P g (pure3 d d2 d3 f) := by
  refine pureOK_of (F := F) hC hfn hname (hF := hF) fun args v hv => ?_
  unfold pure3 at hv
  split at hv
  · split at hv
    · rename_i x hx
      split at hv
      · rename_i y hy
        split at hv
        · rename_i z hz
          cases hv
          obtain rfl := d.ok _ _ hx
          obtain rfl := d2.ok _ _ hy
          obtain rfl := d3.ok _ _ hz
          exact ⟨h x y z, by simp [AV.namesL, d.nm, d2.nm, d3.nm], hn x y z⟩
        · simp at hv
      · simp at hv
    · simp at hv
  · simp at hv
theorem pure4_ok {C : Oracle} (hC : Snd P C) {F : Cfg} {g : FuncId} {fn : Func} (hfn : P.funcs[g]? = some fn) (hname : (fn.name == "runtime.NumGoroutine") = false) {d : Dec α} {d2 : Dec β} {d3 : Dec γ} {d4 : Dec δ} {f : α → β → γ → δ → AV}
    (h : ∀ a b c e, pureRun P C F fn [d.av a, d2.av b, d3.av c, d4.av e] = some (f a b c e)) (hn : ∀ a b c e, (f a b c e).names = []) (hF : FOK P fn F := by first | exact fok_nil rfl | assumption) : PureOK P g (pure4 d d2 d3 d4 f) := by
  refine pureOK_of (F := F) hC hfn hname (hF := hF) fun args v hv => ?_
  unfold pure4 at hv
  split at hv
  · split at hv
    · rename_i x hx
      split at hv
      · rename_i y hy
        split at hv
        · rename_i z hz
          split at hv
          · rename_i u hu
            cases hv
            obtain rfl := d.ok _ _ hx
            obtain rfl := d2.ok _ _ hy
            obtain rfl := d3.ok _ _ hz
            obtain rfl := d4.ok _ _ hu
            exact ⟨h x y z u, by simp [AV.namesL, d.nm, d2.nm, d3.nm, d4.nm], hn x y z u⟩
          · simp at hv
        · simp at hv
      · simp at hv
    · simp at hv
  · simp at hv
end

section
variable (c : Bool)
theorem cond_some {α : Type} (x y : α) : cond c (some x) (some y) = some (cond c x y) := by cases c <;> rfl
theorem cond_avbool (x y : Bool) : cond c (AV.bool x) (AV.bool y) = AV.bool (cond c x y) := by cases c <;> rfl
theorem cond_avint (k : IntKind) (x y : BitVec k.bits) : cond c (AV.int k x) (AV.int k y) = AV.int k (cond c x y) := by cases c <;> rfl
theorem cond_agg (x y : List AV) : cond c (AV.agg x) (AV.agg y) = AV.agg (cond c x y) := by cases c <;> rfl
theorem cond_tup (x y : List AV) : cond c (AV.tup x) (AV.tup y) = AV.tup (cond c x y) := by cases c <;> rfl
theorem cond_cons (x y : AV) (l m : List AV) : cond c (x :: l) (y :: m) = cond c x y :: cond c l m := by cases c <;> rfl
theorem mer {α : Type} (f : α → AV) {T F : Option AV} {x y : α} (hT : T = some (f x)) (hF : F = some (f y)) : cond c T F = some (f (cond c x y)) := by cases c <;> assumption
theorem cond_same {α : Type} (x : α) : cond c x x = x := by cases c <;> rfl
end
end Go.Sx

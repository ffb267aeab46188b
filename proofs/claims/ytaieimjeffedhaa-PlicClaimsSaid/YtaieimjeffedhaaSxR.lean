/- What a call answers: entries of an oracle, laid one upon another. -/
import Derived.Test.YtaieimjeffedhaaSxQ
set_option linter.unusedSimpArgs false
set_option linter.unusedVariables false
set_option linter.unnecessarySimpa false
namespace Go.Sx
open Go
section
variable {P : Program} {R : Type} {r : R} {w : World} {ρ : Env}

/-- A function of plain values: what its body answers beside no memory, it answers beside any. -/
theorem pure_sound {C : Oracle} (hC : Snd P C) {F : Cfg} {g : FuncId} {fn : Func} (hfn : P.funcs[g]? = some fn) (hF : FOK P fn F) (hname : (fn.name == "runtime.NumGoroutine") = false)
    {args : List AV} {v : AV} (h : bodyA P C (drawA P) F fn args [] 0 (fun v _ _ => some v) = some v) (ha : AV.namesL args = []) (hv0 : v.names = []) (H : Heap) (N : Nat) : Ans P g args H N v [] N := by
  have hbody : fn.body.isNone = false := by
    cases hb : fn.body with
    | none => simp [bodyA, hb] at h
    | some c => rfl
  obtain ⟨v1, H', N', hk, hN, hcall⟩ := bodyA_sound hC hfn hF h
  cases hk
  intro ρ w vs hvs hi hf
  unfold Does
  rw [callFunc_enter hfn hname hbody]
  simp only
  have hargs : VRs (fun _ => none) args vs := VRs_congr (fun n hn => by rw [ha] at hn; simp at hn) hvs
  have hi0 : Inv (fun _ => none) [] w := ⟨fun x b hx => by simp [Heap.find] at hx, fun x y bx b' lx ly hx => by simp [Heap.find] at hx⟩
  refine (hcall (fun _ => none) w vs hargs hi0 (fun _ _ => rfl)).mono ?_
  rintro e w' ⟨v', rfl, ρ', hst, hv⟩
  have noOwn : ∀ b, ¬ Owned (fun _ => none) [] b := by
    rintro b ⟨x, k, l, hx, _⟩
    simp [Heap.find] at hx
  have hkeep : ∀ b, b < w.heap.size → w'.heap[b]? = w.heap[b]? := fun b hb => hst.block b hb (noOwn b)
  refine ⟨v', rfl, ρ, ⟨fun _ _ => rfl, hst.os, hst.tape, hst.output, hst.size, fun b hb _ => hkeep b hb, ?_, ?_⟩, VR_congr (fun n hn => by rw [hv0] at hn; simp at hn) hv⟩
  · exact ⟨fun x b hx => by
      obtain ⟨l, hl, hb⟩ := hi.blk x b hx
      refine ⟨l, hl, ?_⟩
      exact BlkRel.mono hb (fun _ _ h => h) (hkeep _ (BlkRel.lt hb)), hi.inj⟩
  · intro y k l hk hl
    exact .inl ⟨y, k, l, hk, hl, rfl, id⟩
end

def nothing : Oracle := fun _ _ _ _ _ _ => none
theorem nothing_snd {P : Program} : Snd P nothing := by
  intro R g args H N K r h; simp [nothing] at h

/-- One function's answers by a law of values alone. -/
def pureE (g : Nat) (s : List AV → Option AV) (C : Oracle) : Oracle := fun R g' args H N K =>
  bif Nat.beq g' g then (match s args with
    | some v => K v [] N
    | none => C R g' args H N K) else C R g' args H N K
/-- One function's answers by its body. -/
def inlE (P : Program) (g : Nat) (fn : Func) (F : Cfg) (D C : Oracle) : Oracle := fun R g' args H N K =>
  bif Nat.beq g' g then inlineA P D (drawA P) F fn args H N K else C R g' args H N K
def quietE (P : Program) (g : Nat) (fn : Func) (F : Cfg) (D C : Oracle) : Oracle := fun R g' args H N K =>
  bif Nat.beq g' g then quietA P D (drawA P) F fn args H N K else C R g' args H N K

def PureOK (P : Program) (g : FuncId) (s : List AV → Option AV) : Prop := ∀ args v, s args = some v → ∀ H N, Ans P g args H N v [] N

theorem pureE_snd {P : Program} {g : FuncId} {s : List AV → Option AV} {C : Oracle} (hs : PureOK P g s) (hC : Snd P C) : Snd P (pureE g s C) := by
  intro R g' args H N K r h
  unfold pureE at h
  cases hg : Nat.beq g' g with
  | false => rw [hg] at h; exact hC R g' args H N K r h
  | true =>
    rw [hg] at h
    have hg' : g' = g := Nat.eq_of_beq_eq_true hg
    subst hg'
    simp only [cond_true] at h
    cases hv : s args with
    | none => rw [hv] at h; exact hC R g' args H N K r h
    | some v => rw [hv] at h; exact ⟨v, [], N, h, Nat.le_refl _, hs args v hv H N⟩
theorem inlE_snd {P : Program} {g : FuncId} {fn : Func} {F : Cfg} {C D : Oracle} (hfn : P.funcs[g]? = some fn) (hname : (fn.name == "runtime.NumGoroutine") = false) (hD : Snd P D) (hC : Snd P C) (hF : FOK P fn F := by first | exact fok_nil rfl | assumption) : Snd P (inlE P g fn F D C) := by
  intro R g' args H N K r h
  unfold inlE at h
  cases hg : Nat.beq g' g with
  | false => rw [hg] at h; exact hC R g' args H N K r h
  | true =>
    rw [hg] at h
    have hg' : g' = g := Nat.eq_of_beq_eq_true hg
    subst hg'
    exact inlineA_sound hD hfn hF hname h
theorem quietE_snd {P : Program} {g : FuncId} {fn : Func} {F : Cfg} {C D : Oracle} (hfn : P.funcs[g]? = some fn) (hname : (fn.name == "runtime.NumGoroutine") = false) (hD : Snd P D) (hC : Snd P C) (hF : FOK P fn F := by first | exact fok_nil rfl | assumption) : Snd P (quietE P g fn F D C) := by
  intro R g' args H N K r h
  unfold quietE at h
  cases hg : Nat.beq g' g with
  | false => rw [hg] at h; exact hC R g' args H N K r h
  | true =>
    rw [hg] at h
    have hg' : g' = g := Nat.eq_of_beq_eq_true hg
    subst hg'
    exact quietA_sound hD hfn hF hname h

/-- A function of plain values, beside no memory. -/
def pureRun (P : Program) (C : Oracle) (F : Cfg) (fn : Func) (args : List AV) : Option AV := bodyA P C (drawA P) F fn args [] 0 (fun v _ _ => some v)

theorem pureOK_of {P : Program} {C : Oracle} (hC : Snd P C) {F : Cfg} {g : FuncId} {fn : Func} (hfn : P.funcs[g]? = some fn) (hname : (fn.name == "runtime.NumGoroutine") = false) {s : List AV → Option AV}
    (h : ∀ args v, s args = some v → pureRun P C F fn args = some v ∧ AV.namesL args = [] ∧ v.names = []) (hF : FOK P fn F := by first | exact fok_nil rfl | assumption) : PureOK P g s := by
  intro args v hv H N
  obtain ⟨h1, h2, h3⟩ := h args v hv
  exact pure_sound hC hfn hF hname h1 h2 h3 H N

/-- A law of plain values: what it answers, the program answers, and what was there stays. -/
theorem law_sound {P : Program} {C : Oracle} (hC : Snd P C) {F : Cfg} {g : FuncId} {fn : Func} (hfn : P.funcs[g]? = some fn) {args : List AV} {v : AV} (h : pureRun P C F fn args = some v)
    (ha : AV.namesL args = []) (hv0 : v.names = []) (w : World) {vs : List Value} (hvs : VRs (fun _ => none) args vs) (hF : FOK P fn F := by first | exact fok_nil rfl | assumption) :
    Calls P g vs.toArray w (fun e w' => (∃ v', e = .returned v' ∧ VR (fun _ => none) v v') ∧ w'.os = w.os ∧ w'.tape = w.tape ∧ w'.output = w.output ∧ w.heap.size ≤ w'.heap.size ∧ ∀ b, b < w.heap.size → w'.heap[b]? = w.heap[b]?) := by
  obtain ⟨v1, H', N', hk, hN, hcall⟩ := bodyA_sound hC hfn hF h
  cases hk
  have hi0 : Inv (fun _ => none) [] w := ⟨fun x b hx => by simp [Heap.find] at hx, fun x y bx b' lx ly hx => by simp [Heap.find] at hx⟩
  refine (hcall (fun _ => none) w vs hvs hi0 (fun _ _ => rfl)).mono ?_
  rintro e w' ⟨v', rfl, ρ', hst, hv⟩
  exact ⟨⟨v', rfl, VR_congr (fun n hn => by rw [hv0] at hn; simp at hn) hv⟩, hst.os, hst.tape, hst.output, hst.size, fun b hb => hst.block b hb (by rintro ⟨x, k, l, hx, _⟩; simp [Heap.find] at hx)⟩
end Go.Sx

/- Rows whose answer is true: the arguments opened, the row's end. -/
import Derived.Test.YtkbcfbehebbmhaaGreatSxR
import Derived.ProofKit
import Derived.ChangeCalls
set_option linter.unusedSimpArgs false
set_option linter.unusedVariables false
set_option linter.unnecessarySimpa false
namespace Go.Sx
open Go Go.RowKit Go.ChangeShapes Go.WideShapes

/-- The shape of plain values: a number, a truth (none), a row of these. -/
inductive Shp where
  | sc (o : Option IntKind)
  | row (l : List (Option IntKind))

def scOf (P : Program) (t : TypeId) : Option (Option IntKind) := match P.underlying t with
  | some .bool => some none
  | some (.int k) => some (some k)
  | _ => none
def scsOf (P : Program) : List TypeId → Option (List (Option IntKind))
  | [] => some []
  | t :: l => match scOf P t, scsOf P l with
    | some s, some r => some (s :: r)
    | _, _ => none
def shpOf (P : Program) (t : TypeId) : Option Shp := match P.underlying t with
  | some (.struct _) | some (.array _ _) => match P.cellTypes P.depth t with
    | some ts => if ts.length = P.cellsOf t then (scsOf P ts).map Shp.row else none
    | none => none
  | _ => (scOf P t).map Shp.sc
def shpsOf (P : Program) : List TypeId → Option (List Shp)
  | [] => some []
  | t :: l => match shpOf P t, shpsOf P l with
    | some s, some r => some (s :: r)
    | _, _ => none

def IsSc : Option IntKind → AV → Prop
  | none, v => ∃ b, v = .bool b
  | some k, v => ∃ x, v = .int k x
def AreSc : List (Option IntKind) → List AV → Prop
  | [], l => l = []
  | s :: ss, l => ∃ v r, l = v :: r ∧ IsSc s v ∧ AreSc ss r
def IsShp : Shp → AV → Prop
  | .sc o, v => IsSc o v
  | .row l, v => ∃ r, v = .agg r ∧ AreSc l r
def AreShp : List Shp → List AV → Prop
  | [], l => l = []
  | s :: ss, l => ∃ v r, l = v :: r ∧ IsShp s v ∧ AreShp ss r

theorem den_of_has {k : IntKind} {n : Int} (h : k.has n) : den k (BitVec.ofInt k.bits n) = n := by
  rw [← wrap_den]
  cases k <;> simp [IntKind.has, IntKind.min, IntKind.max, IntKind.signed, IntKind.bits] at h <;> simp [IntKind.wrap, IntKind.signed, IntKind.bits] <;> omega

section
variable {P : Program} {w : World} {r : Reach} {b0 : Nat} {ρ : Env}
theorem sc_open {t : TypeId} {o : Option IntKind} {v : Value} (hs : scOf P t = some o) (h : Cell.okWide P w r b0 t v) : ∃ a, VR ρ a v ∧ IsSc o a := by
  unfold scOf at hs
  unfold Cell.okWide Cell.ok at h
  cases hu : P.underlying t with
  | none => rw [hu] at hs; simp at hs
  | some d =>
    rw [hu] at hs h
    cases d <;> simp at hs
    case bool =>
      subst hs
      cases v <;> simp at h
      rename_i b
      exact ⟨.bool b, by simp [VR], b, rfl⟩
    case int k =>
      subst hs
      cases v <;> simp at h
      case int k' n =>
        obtain ⟨rfl, hn⟩ := h
        exact ⟨.int _ (BitVec.ofInt _ n), by simp [VR, den_of_has hn], _, rfl⟩
theorem scs_open : ∀ {ts : List TypeId} {os : List (Option IntKind)} {vs : List Value}, scsOf P ts = some os → vs.length = ts.length → (∀ (i : Nat) v, vs[i]? = some v → ∃ u, ts[i]? = some u ∧ Cell.okWide P w r b0 u v) → ∃ as, VRs ρ as vs ∧ AreSc os as
  | [], os, vs, hs, hl, h => by
    simp [scsOf] at hs
    subst hs
    have : vs = [] := List.eq_nil_of_length_eq_zero hl
    subst this
    exact ⟨[], by simp, rfl⟩
  | t :: ts, os, [], hs, hl, h => by simp at hl
  | t :: ts, os, v :: vs, hs, hl, h => by
    unfold scsOf at hs
    cases h1 : scOf P t with
    | none => simp [h1] at hs
    | some s =>
      cases h2 : scsOf P ts with
      | none => simp [h1, h2] at hs
      | some rr =>
        simp [h1, h2] at hs
        subst hs
        obtain ⟨u, hu, hc⟩ := h 0 v rfl
        simp at hu
        subst hu
        obtain ⟨a, ha, hsc⟩ := sc_open (ρ := ρ) h1 hc
        obtain ⟨as, has, hscs⟩ := scs_open (ts := ts) (vs := vs) h2 (by simpa using hl) (fun i v hi => by simpa using h (i + 1) v (by simpa using hi))
        exact ⟨a :: as, VRs_cons' ha has, _, _, rfl, hsc, hscs⟩
theorem shp_open {t : TypeId} {s : Shp} {v : Value} (hs : shpOf P t = some s) (h : Value.okWide P w r b0 t v) : ∃ a, VR ρ a v ∧ IsShp s a := by
  have key : ∀ (cs : Array Value), cs.size = P.cellsOf t → Row.okWide P w r b0 t cs → (match P.cellTypes P.depth t with
    | some ts => if ts.length = P.cellsOf t then (scsOf P ts).map Shp.row else none
    | none => none) = some s → ∃ a, VR ρ a (.agg cs) ∧ IsShp s a := by
    intro cs hcs hrow hm
    obtain ⟨ts, hts, _, hcell⟩ := hrow
    rw [hts] at hm
    simp only at hm
    split at hm
    · rename_i hlen
      cases hos : scsOf P ts with
      | none => rw [hos] at hm; simp at hm
      | some os =>
        rw [hos] at hm
        simp at hm
        subst hm
        obtain ⟨as, has, hsc⟩ := scs_open (ρ := ρ) (vs := cs.toList) hos (by simp [hcs, hlen]) (fun i v hi => by
          have hi' : cs[i]? = some v := by simpa using hi
          obtain ⟨u, hu, hc⟩ := hcell i v hi'
          have hlt : i < cs.size := (Array.getElem?_eq_some_iff.1 hi').1
          rw [Nat.mod_eq_of_lt (by omega)] at hu
          exact ⟨u, hu, hc⟩)
        exact ⟨.agg as, ⟨cs, rfl, has⟩, as, rfl, hsc⟩
    · simp at hm
  unfold shpOf at hs
  unfold Value.okWide at h
  split at hs
  · rename_i f hu
    rw [hu] at h
    obtain ⟨cs, rfl, hcs, hrow⟩ := h
    exact key cs hcs hrow hs
  · rename_i e n hu
    rw [hu] at h
    obtain ⟨cs, rfl, hcs, hrow⟩ := h
    exact key cs hcs hrow hs
  · rename_i h1 h2
    cases ho : scOf P t with
    | none => rw [ho] at hs; simp at hs
    | some o =>
      rw [ho] at hs
      simp at hs
      subst hs
      have : Cell.okWide P w r b0 t v := by
        split at h
        · rename_i hu; exact absurd hu (h1 _)
        · rename_i hu; exact absurd hu (h2 _ _)
        · exact h
      exact sc_open ho this
theorem shps_open : ∀ {ts : List TypeId} {ss : List Shp} {vs : List Value}, shpsOf P ts = some ss → vs.length = ts.length → (∀ (j : Nat) t v, ts[j]? = some t → vs[j]? = some v → Value.okWide P w r b0 t v) → ∃ as, VRs ρ as vs ∧ AreShp ss as
  | [], ss, vs, hs, hl, h => by
    simp [shpsOf] at hs
    subst hs
    have : vs = [] := List.eq_nil_of_length_eq_zero hl
    subst this
    exact ⟨[], by simp, rfl⟩
  | t :: ts, ss, [], hs, hl, h => by simp at hl
  | t :: ts, ss, v :: vs, hs, hl, h => by
    unfold shpsOf at hs
    cases h1 : shpOf P t with
    | none => simp [h1] at hs
    | some s =>
      cases h2 : shpsOf P ts with
      | none => simp [h1, h2] at hs
      | some rr =>
        simp [h1, h2] at hs
        subst hs
        obtain ⟨a, ha, hsc⟩ := shp_open (ρ := ρ) h1 (h 0 t v rfl rfl)
        obtain ⟨as, has, hscs⟩ := shps_open (ts := ts) (vs := vs) h2 (by simpa using hl) (fun j t v ht hv => h (j + 1) t v (by simpa using ht) (by simpa using hv))
        exact ⟨a :: as, VRs_cons' ha has, _, _, rfl, hsc, hscs⟩
end

section
variable {H : Type} {enc : TypeId × Value → H} {P : Program}

/-- One closed fact: each parameter's type can be read and is a row of the table. -/
def rowed (P : Program) (ts : List TypeId) : Bool := ts.all fun t => P.readableRec t && decide (t < P.types.size)

theorem trodAll_stays (hl : laidOutB P = true) {W W' : World} (hb : Below W.heap.size W W') {sp : Nat → Bool} : ∀ {ts : List TypeId} {vs : List Value} {ds : List (DataW H)} {ps : List MemPlace}, rowed P ts = true → (∀ p ∈ ps, p.block < W.heap.size ∧ sp p.block = true) →
    DataW.TrodAll enc P W 0 (fun _ => true) true ts vs ds ps → DataW.TrodAll enc P W' 0 sp true ts vs ds ps
  | [], vs, ds, ps, hr, hp, h => by
    obtain ⟨rfl, rfl, rfl⟩ := trodAll_nil h
    exact rfl
  | t :: ts, vs, ds, ps, hr, hp, h => by
    obtain ⟨v, vs1, d, ds1, a, b, rfl, rfl, rfl, h1, h2⟩ := trodAll_cons h
    simp only [rowed, List.all_cons, Bool.and_eq_true, decide_eq_true_eq] at hr
    refine ⟨a, b, Go.WideElems.Trod_stays hl hr.1.1 hr.1.2 h1 (fun x hx => hb.same (hp x (by simp [hx])).1) (fun x hx => (hp x (by simp [hx])).2), ?_, rfl⟩
    exact trodAll_stays hl hb (by simpa [rowed] using hr.2) (fun x hx => hp x (by simp [hx])) h2

/-- The row's end: it answers true, and what was there stays. -/
theorem ends_true {f : FuncId} {fn : Func} {s : ChangeSpec} {tb : TypeId} {W : World} {args : Array Value} {ds gs : List (DataW H)} {before : List MemPlace}
    (hW : DataW.Whole enc P fn.params.toList s.vars false W args.toList ds gs before) (hvars : s.vars = []) (hres : fn.resultTypes = #[tb]) (htb : P.underlying tb = some .bool)
    (hspec : ∀ ds : List (DataW H), ds.length = fn.params.size → s.fn H ds = { results := [.lit (.bool true)], args := ds })
    (hl : laidOutB P = true) (hp : rowed P fn.params.toList = true)
    (hcalls : Calls P f args W (fun e W' => e = .returned (.bool true) ∧ Below W.heap.size W W')) :
    Calls P f args W (fun e W' => ∃ v, e = .returned v ∧ s.post enc P fn false true false false W args v W') := by
  refine hcalls.mono fun e W' ⟨he, hb⟩ => ?_
  have hlt : ∀ x ∈ before, x.block < W.heap.size := fun x hx => by simpa using hW.lt x hx
  have hW' := hW
  obtain ⟨p, q, hA, hV, rfl, hfz, hnd⟩ := hW
  rw [hvars] at hV
  obtain ⟨rfl, rfl⟩ := trodVars_none hV
  have hlen := (trodAll_length hA).2
  have hs := hspec ds (by simpa using hlen)
  refine ⟨_, he, ds, [], p ++ [], [], p, [], hW', ?_, ?_, ?_, hb.frame _, fun h => by simp at h⟩
  · rw [hres]
    simp only [List.append_nil, hs]
    exact trodAll_mk1 (shut_bool htb _)
  · simp only [List.append_nil, hs]
    refine trodAll_stays hl hb hp (fun x hx => ?_) hA
    have := hlt x (by simp [hx])
    simpa using this
  · simp only [List.append_nil, hs, hvars]
    exact rfl
end
end Go.Sx
namespace Go.Sx
open Go Go.RowKit Go.ChangeShapes
/-- A law of plain values that answers true, from its run. -/
theorem calls_true {P : Program} {C : Oracle} (hC : Snd P C) {F : Cfg} {g : FuncId} {fn : Func} (hfn : P.funcs[g]? = some fn) {args : List AV} (h : pureRun P C F fn args = some (.bool true)) (ha : AV.namesL args = [])
    (w : World) {vs : Array Value} (hvs : VRs (fun _ => none) args vs.toList) (hF : FOK P fn F := by first | exact fok_nil rfl | assumption) : Calls P g vs w (fun e w' => e = .returned (.bool true) ∧ Below w.heap.size w w') := by
  have := law_sound hC hfn h ha rfl w hvs (hF := hF)
  refine Calls.mono (by simpa using this) ?_
  rintro e w' ⟨⟨v', rfl, hv⟩, h1, h2, h3, h4, h5⟩
  refine ⟨?_, h1, h2, h3, h4, h5⟩
  simp only [VR] at hv
  rw [hv]
end Go.Sx

/- Entries over memory with a guard; a processor's part that traps turn. -/
import Derived.Test.YtonehcpccklkoaaSxAD
set_option linter.unusedSimpArgs false
set_option linter.unusedVariables false
set_option linter.unnecessarySimpa false
namespace Go.Sx
open Go
/-- One function's answers, by values and memory, where a guard holds. -/
def stGE (g : Nat) (s : List AV → Heap → Option (Bool × AV × Eff × Nat)) (C : Oracle) : Oracle := fun R g' args H N K =>
  bif Nat.beq g' g then
    let xs := liveGo 0 H 400 (AV.namesL args) []
    bif nodupB xs && allIn xs (AV.namesL args) && belowB N xs then
      match takeH H xs xs 0 with
      | some Hc => match s (AV.renL (fun n => posN n xs) args) Hc with
        | some (c, v, e, k') => bif Nat.ble xs.length k' then bif c then bif belowB k' (namesOf e) then K (v.ren (mapN xs N)) (renE (mapN xs N) e) (Nat.add N (Nat.sub k' xs.length)) else none else none else none
        | none => C R g' args H N K
      | none => C R g' args H N K
    else C R g' args H N K
  else C R g' args H N K
/-- What a guarded law says where it holds. -/
def unG (s : List AV → Heap → Option (Bool × AV × Eff × Nat)) (args : List AV) (H : Heap) : Option (AV × Eff × Nat) := match s args H with
  | some (true, r) => some r
  | _ => none
theorem stGE_snd {P : Program} {g : FuncId} {s : List AV → Heap → Option (Bool × AV × Eff × Nat)} {C : Oracle} (hs : StOK P g (unG s)) (hC : Snd P C) : Snd P (stGE g s C) := by
  intro R g' args H N K r h
  refine (stE_snd hs hC) R g' args H N K r ?_
  unfold stGE at h
  unfold stE
  cases hg : Nat.beq g' g with
  | false => rw [hg] at h; exact h
  | true =>
    rw [hg] at h
    simp only [cond_true] at h ⊢
    generalize liveGo 0 H 400 (AV.namesL args) [] = xs at h ⊢
    cases hc : (nodupB xs && allIn xs (AV.namesL args) && belowB N xs) with
    | false => rw [hc] at h; exact h
    | true =>
      rw [hc] at h
      simp only [cond_true] at h ⊢
      cases ht : takeH H xs xs 0 with
      | none => rw [ht] at h; exact h
      | some Hc =>
        rw [ht] at h
        simp only at h ⊢
        unfold unG
        cases hv : s (AV.renL (fun n => posN n xs) args) Hc with
        | none => rw [hv] at h; exact h
        | some q =>
          obtain ⟨c, v, e, k'⟩ := q
          rw [hv] at h
          simp only at h
          cases hk : Nat.ble xs.length k' with
          | false => rw [hk] at h; simp at h
          | true =>
            rw [hk] at h
            simp only [cond_true] at h
            cases c with
            | false => simp at h
            | true =>
              simp only [cond_true] at h
              simp only [hk, Bool.true_and]
              exact h
section
variable {α β : Type} {c : Bool} (f : α → β)
theorem merGQ {T F : Option β} {ga gb : Bool} {x y : α} (hT : T = cond ga (some (f x)) none) (hF : F = cond gb (some (f y)) none) : cond c T F = cond (cond c ga gb) (some (f (cond c x y))) none := by cases c <;> assumption
theorem merLQ {F : Option β} {gb : Bool} {y : α} (hF : F = cond gb (some (f y)) none) : cond c none F = cond (cond c false gb) (some (f y)) none := by cases c <;> first | assumption | rfl
theorem merRQ {T : Option β} {ga : Bool} {x : α} (hT : T = cond ga (some (f x)) none) : cond c T none = cond (cond c ga false) (some (f x)) none := by cases c <;> first | assumption | rfl
end
/-- The parts of a processor that traps read, or turn. -/
structure En where
  pcc : Cp
  sepcc : Cp
  mepcc : Cp
  stcc : Cp
  mtcc : Cp
  p : BitVec 64
  m : BitVec 64
  md : BitVec 64
  mi : BitVec 64
  mc : BitVec 64
  sc : BitVec 64
  mt : BitVec 64
  st : BitVec 64
  w : Bool
def enOf (h : Ht) : En := ⟨h.c 32, h.c 37, h.c 41, h.c 34, h.c 38, h.e 0, h.e 1, h.e 2, h.e 3, h.e 8, h.e 9, h.e 10, h.e 11, h.w⟩
def putC : List AV → List Seg → List Seg
  | [], l => l
  | v :: r, l => .cell v :: putC r (l.drop 1)
def updC (vs : List AV) : Nat → List Seg → List Seg
  | 0, l => putC vs l
  | n + 1, x :: l => x :: updC vs n l
  | _ + 1, [] => []
def cpL (c : Cp) : List AV := [.bool c.tag, .int .i64 c.per, .int .i64 c.ty, .int .i64 c.mo, .int .i64 c.e, .int .i64 c.b, .int .i64 c.t, .bool c.big, .int .u64 c.ad]
def setEn (k : En) (s : List Seg) : List Seg := updC (cpL k.pcc) 1 (updC (cpL k.sepcc) 46 (updC (cpL k.mepcc) 82 (updC (cpL k.stcc) 19 (updC (cpL k.mtcc) 55 (updC [.int .i64 k.p, .int .u64 k.m, .int .u64 k.md, .int .u64 k.mi] 91 (updC [.int .u64 k.mc, .int .u64 k.sc, .int .u64 k.mt, .int .u64 k.st] 99 (updC [.bool k.w] 108 s)))))))
def apZ (p : AP) : Bool := Nat.beq p.x 0 && Nat.beq p.off 0 && Nat.beq p.i 0 && Nat.beq p.sz 0 && Nat.beq p.j 0
theorem apZ_eq {p : AP} (h : apZ p = true) : p = ⟨0, 0, 0, 0, 0⟩ := by
  simp only [apZ, Bool.and_eq_true, beq_true] at h
  obtain ⟨⟨⟨⟨h1, h2⟩, h3⟩, h4⟩, h5⟩ := h
  cases p; simp_all
/-- The memory and the answer of a function that turns a processor. -/
def enR (s : List Seg) (k : En) : AV × Eff × Nat := (.tup [], [(0, some ⟨true, setEn k s⟩)], 1)
/-- Are two capabilities the same, part by part? -/
def eqCp (x y : Cp) : Bool := (x.tag == y.tag && (x.per == y.per && (x.ty == y.ty && (x.mo == y.mo && (x.e == y.e && (x.b == y.b && (x.t == y.t && (x.big == y.big && (x.ad == y.ad && true)))))))))
theorem eqCp_self (x : Cp) : eqCp x x = true := by simp [eqCp]
theorem eqCp_iff (x y : Cp) : eqCp x y = true ↔ x = y := by
  constructor
  · intro h
    simp only [eqCp, Bool.and_eq_true, beq_iff_eq] at h
    obtain ⟨h1, h2, h3, h4, h5, h6, h7, h8, h9, _⟩ := h
    cases x; cases y; simp_all
  · rintro rfl; exact eqCp_self _
def sHt1 (g : En → Bool → Bool) (v : En → Bool → En) (args : List AV) (H : Heap) : Option (Bool × AV × Eff × Nat) := match args, H with
  | [.ptr p, b], [(x, ⟨rw, sg⟩)] => bif apZ p && Nat.beq x 0 && rw then match decHtS sg, decBool b with
    | some h, some b => some (g (enOf h) b, enR sg (v (enOf h) b))
    | _, _ => none
    else none
  | _, _ => none
def sHt3 (g : En → BitVec 64 → Bool → BitVec 64 → Bool) (v : En → BitVec 64 → Bool → BitVec 64 → En) (args : List AV) (H : Heap) : Option (Bool × AV × Eff × Nat) := match args, H with
  | [.ptr p, a, b, c], [(x, ⟨rw, sg⟩)] => bif apZ p && Nat.beq x 0 && rw then match decHtS sg, decI64 a, decBool b, decU64 c with
    | some h, some a, some b, some c => some (g (enOf h) a b c, enR sg (v (enOf h) a b c))
    | _, _, _, _ => none
    else none
  | _, _ => none
theorem unG_of {s : List AV → Heap → Option (Bool × AV × Eff × Nat)} {args : List AV} {H : Heap} {r : AV × Eff × Nat} (h : unG s args H = some r) : s args H = some (true, r) := by
  unfold unG at h
  split at h
  · rename_i q hq; simp only [Option.some.injEq] at h; subst h; exact hq
  · simp at h
theorem sHt1_ok {P : Program} {C : Oracle} {F : Cfg} {fn : Func} {g : En → Bool → Bool} {v : En → Bool → En}
    (hr : ∀ (h : Ht) (b : Bool), stRun P C F fn [.ptr ⟨0, 0, 0, 0, 0⟩, .bool b] [(0, ⟨true, h.segs⟩)] = cond (g (enOf h) b) (some (enR h.segs (v (enOf h) b))) none) :
    ∀ args H r, unG (sHt1 g v) args H = some r → stRun P C F fn args H = some r := by
  intro args H r h
  replace h := unG_of h
  unfold sHt1 at h
  split at h
  · rename_i p b x rw sg
    cases hc : (apZ p && Nat.beq x 0 && rw) with
    | false => rw [hc] at h; simp at h
    | true =>
      rw [hc] at h
      simp only [cond_true] at h
      simp only [Bool.and_eq_true, beq_true] at hc
      obtain ⟨⟨h1, rfl⟩, rfl⟩ := hc
      obtain rfl := apZ_eq h1
      split at h
      · rename_i ht b' e1 e2
        simp only [Option.some.injEq, Prod.mk.injEq] at h
        obtain rfl := decHtS_ok _ _ e1
        obtain rfl := dBool.ok _ _ e2
        rw [show dBool.av b' = AV.bool b' from rfl, hr, h.1]
        exact congrArg some h.2
      · simp at h
  · simp at h
theorem sHt3_ok {P : Program} {C : Oracle} {F : Cfg} {fn : Func} {g : En → BitVec 64 → Bool → BitVec 64 → Bool} {v : En → BitVec 64 → Bool → BitVec 64 → En}
    (hr : ∀ (h : Ht) (a : BitVec 64) (b : Bool) (c : BitVec 64), stRun P C F fn [.ptr ⟨0, 0, 0, 0, 0⟩, .int .i64 a, .bool b, .int .u64 c] [(0, ⟨true, h.segs⟩)] = cond (g (enOf h) a b c) (some (enR h.segs (v (enOf h) a b c))) none) :
    ∀ args H r, unG (sHt3 g v) args H = some r → stRun P C F fn args H = some r := by
  intro args H r h
  replace h := unG_of h
  unfold sHt3 at h
  split at h
  · rename_i p a b c x rw sg
    cases hc : (apZ p && Nat.beq x 0 && rw) with
    | false => rw [hc] at h; simp at h
    | true =>
      rw [hc] at h
      simp only [cond_true] at h
      simp only [Bool.and_eq_true, beq_true] at hc
      obtain ⟨⟨h1, rfl⟩, rfl⟩ := hc
      obtain rfl := apZ_eq h1
      split at h
      · rename_i ht a' b' c' e1 e2 e3 e4
        simp only [Option.some.injEq, Prod.mk.injEq] at h
        obtain rfl := decHtS_ok _ _ e1
        obtain rfl := dI64.ok _ _ e2
        obtain rfl := dBool.ok _ _ e3
        obtain rfl := dU64.ok _ _ e4
        rw [show dBool.av b' = AV.bool b' from rfl, show dI64.av a' = AV.int .i64 a' from rfl, show dU64.av c' = AV.int .u64 c' from rfl, hr, h.1]
        exact congrArg some h.2
      · simp at h
  · simp at h
/-- A function that reads a processor. -/
def sHtM (v : En → Bool → BitVec 32 → Tr) (args : List AV) (H : Heap) : Option (Bool × AV × Eff × Nat) := match args, H with
  | [.ptr p, b, c], [(x, ⟨rw, sg⟩)] => bif apZ p && Nat.beq x 0 && rw then match decHtS sg, decBool b, decU32 c with
    | some h, some b, some c => some (true, (v (enOf h) b c).av, [(0, some ⟨true, sg⟩)], 1)
    | _, _, _ => none
    else none
  | _, _ => none
theorem sHtM_ok {P : Program} {C : Oracle} {F : Cfg} {fn : Func} {v : En → Bool → BitVec 32 → Tr}
    (hr : ∀ (h : Ht) (b : Bool) (c : BitVec 32), stRun P C F fn [.ptr ⟨0, 0, 0, 0, 0⟩, .bool b, .int .u32 c] [(0, ⟨true, h.segs⟩)] = some ((v (enOf h) b c).av, [(0, some ⟨true, h.segs⟩)], 1)) :
    ∀ args H r, unG (sHtM v) args H = some r → stRun P C F fn args H = some r := by
  intro args H r h
  replace h := unG_of h
  unfold sHtM at h
  split at h
  · rename_i p b c x rw sg
    cases hc : (apZ p && Nat.beq x 0 && rw) with
    | false => rw [hc] at h; simp at h
    | true =>
      rw [hc] at h
      simp only [cond_true] at h
      simp only [Bool.and_eq_true, beq_true] at hc
      obtain ⟨⟨h1, rfl⟩, rfl⟩ := hc
      obtain rfl := apZ_eq h1
      split at h
      · rename_i ht b' c' e1 e2 e3
        simp only [Option.some.injEq, Prod.mk.injEq] at h
        obtain rfl := decHtS_ok _ _ e1
        obtain rfl := dBool.ok _ _ e2
        obtain rfl := dU32.ok _ _ e3
        rw [show dBool.av b' = AV.bool b' from rfl, show dU32.av c' = AV.int .u32 c' from rfl, hr]
        exact congrArg some h.2
      · simp at h
  · simp at h
end Go.Sx

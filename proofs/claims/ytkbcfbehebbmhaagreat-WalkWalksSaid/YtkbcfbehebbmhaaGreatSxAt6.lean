/- Several texts in one. -/
import Derived.Test.YtkbcfbehebbmhaaGreatSxX
import Derived.Laws.Externs
set_option linter.unusedSimpArgs false
set_option linter.unusedVariables false
set_option linter.unnecessarySimpa false
/- Entries for the atomic functions of the library over a cell of 32 bits. -/
namespace Go.Sx
open Go

def atLoadE (g : Nat) (C : Oracle) : Oracle := fun R g' args H N K =>
  bif Nat.beq g' g then (match args with
    | [.ptr p] => loadA H p 1 fun cs => match cs with
      | [.int .u32 v] => K (.int .u32 v) [] N
      | _ => none
    | _ => none) else C R g' args H N K
def atStoreE (g : Nat) (C : Oracle) : Oracle := fun R g' args H N K =>
  bif Nat.beq g' g then (match args with
    | [.ptr p, .int .u32 v] => storeA H p [.int .u32 v] fun b => K (.tup []) [(p.x, some b)] N
    | _ => none) else C R g' args H N K
def atUpdE (g : Nat) (f : BitVec 32 → BitVec 32 → BitVec 32) (C : Oracle) : Oracle := fun R g' args H N K =>
  bif Nat.beq g' g then (match args with
    | [.ptr p, .int .u32 y] => loadA H p 1 fun cs => match cs with
      | [.int .u32 v] => storeA H p [.int .u32 (f v y)] fun b => K (.int .u32 v) [(p.x, some b)] N
      | _ => none
    | _ => none) else C R g' args H N K

theorem run_store_at {P : Program} {w : World} {b : Nat} {c : Array Value} {e : TypeId} {o : Nat} {v : Value} {m : Mode} (hb : w.heap[b]? = some (.cells c e (0, 0))) (hv : v.oneCell' = true) (hl : o < c.size) :
    (store (⟨b, o, none⟩ : Addr) v m).run P w = .ok () { w with heap := w.heap.setIfInBounds b (.cells (writeC c o [v]) e (0, 0)) } := by
  have hc : w.cell? ⟨b, o, none⟩ = c[o]? := cell_of hb _
  have hw : w.setCell ⟨b, o, none⟩ v = { w with heap := w.heap.setIfInBounds b (.cells (c.setIfInBounds o v) e (0, 0)) } := by
    unfold World.setCell
    congr 1
    apply Array.ext_getElem?
    intro k
    rw [heap_setIf w (lt_size hb), Array.getElem?_modify]
    by_cases hk : k = b
    · subst hk; simp [hb]
    · rw [if_neg (fun e => hk e.symm), if_neg hk]
  rw [run_store P w _ v _ hv, hc, Array.getElem?_eq_getElem hl]
  simp [World.frozen?, hb, hw, writeC]
theorem storeA_at {P : Program} {R : Type} {r : R} {H : Heap} {N : Nat} {p : AP} {v : AV} {K : Blk → Option R} (h : storeA H p [v] K = some r) :
    ∃ b', K b' = some r ∧ ∀ ρ w x m, VR ρ v x → Inv ρ H w → ∃ l w', ρ p.x = some l ∧ (store (l.addr p.pos) x m).run P w = .ok () w' ∧ Step ρ H N w ρ (H.put p.x b') N w' := by
  obtain ⟨b', hk, hc, hv1, b, hb, hrw, hrw', hle, hf⟩ := storeA_spec h
  refine ⟨b', hk, fun ρ w x m hx hi => ?_⟩
  obtain ⟨l, hl, c, e, fr, h1, h2, h3, h4⟩ := hi.blk p.x b hb
  obtain ⟨rfl, hext⟩ := h3 hrw
  have hx1 : VRs ρ [v] [x] := VRs_one hx
  have hone := VRs_oneCell hc hx1
  simp only [List.length_cons, List.length_nil, Nat.zero_add] at hle
  have hbound : l.o + p.pos + 1 ≤ c.size := by
    have hlt : p.pos < (flat b.segs).length := by omega
    obtain ⟨z, hz, _⟩ := h4 p.pos _ (List.getElem?_eq_getElem hlt)
    have := (Array.getElem?_eq_some_iff.1 hz).1
    omega
  exact ⟨l, _, hl, run_store_at h1 (hone x (by simp)) (by omega), step_store hi hb hl hrw hrw' h1 hx1 hbound hle hf⟩
theorem loadA_at {P : Program} {R : Type} {r : R} {H : Heap} {p : AP} {K : List AV → Option R} (h : loadA H p 1 K = some r) :
    ∃ v, K [v] = some r ∧ ∀ ρ w m, Inv ρ H w → ∃ l x, ρ p.x = some l ∧ (load (l.addr p.pos) m).run P w = .ok x w ∧ VR ρ v x := by
  obtain ⟨cs, hk, hl, b, hb, hs⟩ := loadA_spec h
  match cs, hl with
  | [v], _ =>
    refine ⟨v, hk, fun ρ w m hi => ?_⟩
    obtain ⟨l, zs, hl2, hzs, hc⟩ := hi.cells hb hs rfl
    obtain ⟨x, rfl, hx⟩ := VRs_one_iff.1 hzs
    have := hc 0 x rfl
    rw [Nat.add_zero] at this
    exact ⟨l, x, hl2, by simp [this], hx⟩

theorem run_loadT {P : Program} (a : Addr) (w : World) {x : Int} (h : (load a .atomic).run P w = .ok (.int .u32 x) w) : (Extern.Atomic.loadT (.int .u32) #[.pointer (some a)]).run P w = .ok (.int .u32 x) w := by
  show ((do Extern.Atomic.read (.int .u32) (← asAddr (.pointer (some a)))) : Sem Value).run P w = _
  simp only [Extern.Atomic.read, asAddr, Sem.run_bind, Sem.run_pure, Result.andThen_ok, h, if_true]
theorem run_storeT {P : Program} (a : Addr) (v : Value) (w w' : World) (h : (store a v .atomic).run P w = .ok () w') : (Extern.Atomic.storeT #[.pointer (some a), v]).run P w = .ok (.tuple #[]) w' := by
  show ((do store (← asAddr (.pointer (some a))) v .atomic; pure Extern.Atomic.none_) : Sem Value).run P w = _
  simp only [asAddr, Sem.run_bind, Sem.run_pure, Result.andThen_ok, h, Extern.Atomic.none_]
theorem run_updT {P : Program} (o : IntKind → Int → Int → Sem Value) (a : Addr) (x y z : Int) (w w' : World) (h : (load a .atomic).run P w = .ok (.int .u32 x) w) (ho : (o .u32 x y).run P w = .ok (.int .u32 z) w)
    (hs : (store a (.int .u32 z) .atomic).run P w = .ok () w') : (Extern.Atomic.update o .u32 false #[.pointer (some a), .int .u32 y]).run P w = .ok (.int .u32 x) w' := by
  show ((do
    let a ← asAddr (.pointer (some a))
    let old ← Extern.Atomic.read (.int .u32) a
    let new ← o .u32 (← asInt old) (← asInt (.int .u32 y))
    store a new .atomic
    pure (if false = true then new else old)) : Sem Value).run P w = _
  simp only [Extern.Atomic.read, asAddr, asInt, asIntOf, Sem.run_bind, Sem.run_pure, Result.andThen_ok, h, if_true, ho, hs, Bool.false_eq_true, if_false]
theorem atLoadE_snd {P : Program} {g : FuncId} {fn : Func} {C : Oracle} (hfn : P.funcs[g]? = some fn) (hname : (fn.name == "runtime.NumGoroutine") = false) (hb : fn.body.isNone = true) (hn : Extern.findNext fn = none) (he : Extern.find fn = some (Extern.Atomic.loadT (.int .u32))) (hC : Snd P C) : Snd P (atLoadE g C) := by
  intro R g' args H N K r h
  unfold atLoadE at h
  cases hg : Nat.beq g' g with
  | false => rw [hg] at h; exact hC R g' args H N K r h
  | true =>
    rw [hg] at h
    obtain rfl : g' = g := Nat.eq_of_beq_eq_true hg
    simp only [cond_true] at h
    split at h
    · rename_i p
      obtain ⟨v, hk, hl⟩ := loadA_at (P := P) h
      split at hk
      · rename_i v' hv
        simp only [List.cons.injEq, and_true] at hv
        subst hv
        refine ⟨_, _, _, hk, Nat.le_refl _, fun ρ w vs hvs hi hf => ?_⟩
        obtain ⟨a, rfl, ha⟩ := VRs_one_iff.1 hvs
        simp only [VR] at ha
        obtain ⟨l, q1, rfl⟩ := ha
        obtain ⟨l', x, q2, q3, q4⟩ := hl ρ w .atomic hi
        rw [q1] at q2; simp only [Option.some.injEq] at q2; subst q2
        simp only [VR] at q4; subst q4
        unfold Does
        rw [run_callFunc_extern hfn hname hb hn he]
        rw [show ([Value.pointer (some (l.addr p.pos))].toArray) = #[.pointer (some (l.addr p.pos))] from rfl, run_loadT _ w q3]
        exact Post.same hi (by simp [VR])
      · simp at hk
    · simp at h
theorem atStoreE_snd {P : Program} {g : FuncId} {fn : Func} {C : Oracle} (hfn : P.funcs[g]? = some fn) (hname : (fn.name == "runtime.NumGoroutine") = false) (hb : fn.body.isNone = true) (hn : Extern.findNext fn = none) (he : Extern.find fn = some Extern.Atomic.storeT) (hC : Snd P C) : Snd P (atStoreE g C) := by
  intro R g' args H N K r h
  unfold atStoreE at h
  cases hg : Nat.beq g' g with
  | false => rw [hg] at h; exact hC R g' args H N K r h
  | true =>
    rw [hg] at h
    obtain rfl : g' = g := Nat.eq_of_beq_eq_true hg
    simp only [cond_true] at h
    split at h
    · rename_i p v
      obtain ⟨b', hk, hs⟩ := storeA_at (P := P) (N := N) h
      refine ⟨_, _, _, hk, Nat.le_refl _, fun ρ w vs hvs hi hf => ?_⟩
      obtain ⟨a, t, rfl, ha, ht⟩ := VRs_cons.1 hvs
      obtain ⟨y, rfl, hy⟩ := VRs_one_iff.1 ht
      simp only [VR] at ha hy
      obtain ⟨l, q1, rfl⟩ := ha
      subst hy
      obtain ⟨l', w', q2, q3, q4⟩ := hs ρ w (.int .u32 (den .u32 v)) .atomic (by simp [VR]) hi
      rw [q1] at q2; simp only [Option.some.injEq] at q2; subst q2
      unfold Does
      rw [run_callFunc_extern hfn hname hb hn he]
      rw [show ([Value.pointer (some (l.addr p.pos)), .int .u32 (den .u32 v)].toArray) = #[.pointer (some (l.addr p.pos)), .int .u32 (den .u32 v)] from rfl, run_storeT _ _ w w' q3]
      exact ⟨ρ, q4, by simp [VR]⟩
    · simp at h
def opAnd (v y : BitVec 32) : BitVec 32 := v &&& y
def opOr (v y : BitVec 32) : BitVec 32 := v ||| y
theorem atUpdE_snd {P : Program} {g : FuncId} {fn : Func} {C : Oracle} {o : IntKind → Int → Int → Sem Value} {f : BitVec 32 → BitVec 32 → BitVec 32} (hfn : P.funcs[g]? = some fn) (hname : (fn.name == "runtime.NumGoroutine") = false) (hb : fn.body.isNone = true) (hn : Extern.findNext fn = none)
    (he : Extern.find fn = some (Extern.Atomic.update o .u32 false)) (ho : ∀ (x y : BitVec 32) (w : World), (o .u32 (den .u32 x) (den .u32 y)).run P w = .ok (.int .u32 (den .u32 (f x y))) w) (hC : Snd P C) : Snd P (atUpdE g f C) := by
  intro R g' args H N K r h
  unfold atUpdE at h
  cases hg : Nat.beq g' g with
  | false => rw [hg] at h; exact hC R g' args H N K r h
  | true =>
    rw [hg] at h
    obtain rfl : g' = g := Nat.eq_of_beq_eq_true hg
    simp only [cond_true] at h
    split at h
    · rename_i p y
      obtain ⟨v, hk, hl⟩ := loadA_at (P := P) h
      split at hk
      · rename_i v' hv
        simp only [List.cons.injEq, and_true] at hv
        subst hv
        obtain ⟨b', hk2, hs⟩ := storeA_at (P := P) (N := N) hk
        refine ⟨_, _, _, hk2, Nat.le_refl _, fun ρ w vs hvs hi hf => ?_⟩
        obtain ⟨a, t, rfl, ha, ht⟩ := VRs_cons.1 hvs
        obtain ⟨z, rfl, hz⟩ := VRs_one_iff.1 ht
        simp only [VR] at ha hz
        obtain ⟨l, q1, rfl⟩ := ha
        subst hz
        obtain ⟨l', x, q2, q3, q4⟩ := hl ρ w .atomic hi
        rw [q1] at q2; simp only [Option.some.injEq] at q2; subst q2
        simp only [VR] at q4; subst q4
        obtain ⟨l', w', q2, q5, q6⟩ := hs ρ w (.int .u32 (den .u32 (f v' y))) .atomic (by simp [VR]) hi
        rw [q1] at q2; simp only [Option.some.injEq] at q2; subst q2
        unfold Does
        rw [run_callFunc_extern hfn hname hb hn he]
        rw [show ([Value.pointer (some (l.addr p.pos)), .int .u32 (den .u32 y)].toArray) = #[.pointer (some (l.addr p.pos)), .int .u32 (den .u32 y)] from rfl, run_updT o _ _ _ _ w w' q3 (ho v' y w) q5]
        exact ⟨ρ, q6, by simp [VR]⟩
      · simp at hk
    · simp at h
theorem opAnd_ok {P : Program} (x y : BitVec 32) (w : World) : (Op.intBits .and .u32 (den .u32 x) (den .u32 y)).run P w = .ok (.int .u32 (den .u32 (opAnd x y))) w := by
  have h1 := ofInt_den .u32 x
  have h2 := ofInt_den .u32 y
  simp only [Op.intBits, h1, h2, Sem.run_pure]
  rw [wrap_toNat]; rfl
theorem opOr_ok {P : Program} (x y : BitVec 32) (w : World) : (Op.intBits .or .u32 (den .u32 x) (den .u32 y)).run P w = .ok (.int .u32 (den .u32 (opOr x y))) w := by
  have h1 := ofInt_den .u32 x
  have h2 := ofInt_den .u32 y
  simp only [Op.intBits, h1, h2, Sem.run_pure]
  rw [wrap_toNat]; rfl
end Go.Sx

/- Entries for the atomic functions of the library over a cell of 64 bits. -/
namespace Go.Sx
open Go

def atLoadE64 (g : Nat) (C : Oracle) : Oracle := fun R g' args H N K =>
  bif Nat.beq g' g then (match args with
    | [.ptr p] => loadA H p 1 fun cs => match cs with
      | [.int .u64 v] => K (.int .u64 v) [] N
      | _ => none
    | _ => none) else C R g' args H N K
def atStoreE64 (g : Nat) (C : Oracle) : Oracle := fun R g' args H N K =>
  bif Nat.beq g' g then (match args with
    | [.ptr p, .int .u64 v] => storeA H p [.int .u64 v] fun b => K (.tup []) [(p.x, some b)] N
    | _ => none) else C R g' args H N K
theorem run_loadT64 {P : Program} (a : Addr) (w : World) {x : Int} (h : (load a .atomic).run P w = .ok (.int .u64 x) w) : (Extern.Atomic.loadT (.int .u64) #[.pointer (some a)]).run P w = .ok (.int .u64 x) w := by
  show ((do Extern.Atomic.read (.int .u64) (← asAddr (.pointer (some a)))) : Sem Value).run P w = _
  simp only [Extern.Atomic.read, asAddr, Sem.run_bind, Sem.run_pure, Result.andThen_ok, h, if_true]
theorem atLoadE64_snd {P : Program} {g : FuncId} {fn : Func} {C : Oracle} (hfn : P.funcs[g]? = some fn) (hname : (fn.name == "runtime.NumGoroutine") = false) (hb : fn.body.isNone = true) (hn : Extern.findNext fn = none) (he : Extern.find fn = some (Extern.Atomic.loadT (.int .u64))) (hC : Snd P C) : Snd P (atLoadE64 g C) := by
  intro R g' args H N K r h
  unfold atLoadE64 at h
  cases hg : Nat.beq g' g with
  | false => rw [hg] at h; exact hC R g' args H N K r h
  | true =>
    rw [hg] at h
    obtain rfl : g' = g := Nat.eq_of_beq_eq_true hg
    simp only [cond_true] at h
    split at h
    · rename_i p
      obtain ⟨v, hk, hl⟩ := loadA_at (P := P) h
      split at hk
      · rename_i v' hv
        simp only [List.cons.injEq, and_true] at hv
        subst hv
        refine ⟨_, _, _, hk, Nat.le_refl _, fun ρ w vs hvs hi hf => ?_⟩
        obtain ⟨a, rfl, ha⟩ := VRs_one_iff.1 hvs
        simp only [VR] at ha
        obtain ⟨l, q1, rfl⟩ := ha
        obtain ⟨l', x, q2, q3, q4⟩ := hl ρ w .atomic hi
        rw [q1] at q2; simp only [Option.some.injEq] at q2; subst q2
        simp only [VR] at q4; subst q4
        unfold Does
        rw [run_callFunc_extern hfn hname hb hn he]
        rw [show ([Value.pointer (some (l.addr p.pos))].toArray) = #[.pointer (some (l.addr p.pos))] from rfl, run_loadT64 _ w q3]
        exact Post.same hi (by simp [VR])
      · simp at hk
    · simp at h
theorem atStoreE64_snd {P : Program} {g : FuncId} {fn : Func} {C : Oracle} (hfn : P.funcs[g]? = some fn) (hname : (fn.name == "runtime.NumGoroutine") = false) (hb : fn.body.isNone = true) (hn : Extern.findNext fn = none) (he : Extern.find fn = some Extern.Atomic.storeT) (hC : Snd P C) : Snd P (atStoreE64 g C) := by
  intro R g' args H N K r h
  unfold atStoreE64 at h
  cases hg : Nat.beq g' g with
  | false => rw [hg] at h; exact hC R g' args H N K r h
  | true =>
    rw [hg] at h
    obtain rfl : g' = g := Nat.eq_of_beq_eq_true hg
    simp only [cond_true] at h
    split at h
    · rename_i p v
      obtain ⟨b', hk, hs⟩ := storeA_at (P := P) (N := N) h
      refine ⟨_, _, _, hk, Nat.le_refl _, fun ρ w vs hvs hi hf => ?_⟩
      obtain ⟨a, t, rfl, ha, ht⟩ := VRs_cons.1 hvs
      obtain ⟨y, rfl, hy⟩ := VRs_one_iff.1 ht
      simp only [VR] at ha hy
      obtain ⟨l, q1, rfl⟩ := ha
      subst hy
      obtain ⟨l', w', q2, q3, q4⟩ := hs ρ w (.int .u64 (den .u64 v)) .atomic (by simp [VR]) hi
      rw [q1] at q2; simp only [Option.some.injEq] at q2; subst q2
      unfold Does
      rw [run_callFunc_extern hfn hname hb hn he]
      rw [show ([Value.pointer (some (l.addr p.pos)), .int .u64 (den .u64 v)].toArray) = #[.pointer (some (l.addr p.pos)), .int .u64 (den .u64 v)] from rfl, run_storeT _ _ w w' q3]
      exact ⟨ρ, q4, by simp [VR]⟩
    · simp at h
end Go.Sx


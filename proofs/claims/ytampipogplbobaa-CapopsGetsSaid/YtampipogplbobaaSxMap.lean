/- A function that lays a map of functions, and one that looks a function up in it. -/
import Derived.Test.YtampipogplbobaaSxLoop
import Derived.MapKept
set_option linter.unusedSimpArgs false
set_option linter.unusedVariables false
set_option linter.unnecessarySimpa false
namespace Go.Sx
open Go Go.MapKept

/-- What was there stays. -/
structure Fr (w w' : World) : Prop where
  os : w'.os = w.os
  tape : w'.tape = w.tape
  output : w'.output = w.output
  size : w.heap.size ≤ w'.heap.size
  blk : ∀ b, b < w.heap.size → w'.heap[b]? = w.heap[b]?
theorem Fr.refl (w : World) : Fr w w := ⟨rfl, rfl, rfl, Nat.le_refl _, fun _ _ => rfl⟩
theorem Fr.trans {w w1 w2 : World} (h : Fr w w1) (k : Fr w1 w2) : Fr w w2 :=
  ⟨k.os.trans h.os, k.tape.trans h.tape, k.output.trans h.output, Nat.le_trans h.size k.size, fun b hb => (k.blk b (Nat.lt_of_lt_of_le hb h.size)).trans (h.blk b hb)⟩

/-- A row of operations, one behind the other. -/
def SatL (P : Program) (fin : Act → World → Prop) : List Oper → Act → World → Prop
  | [], a, w => fin a w
  | o :: l, a, w => o.guard = none ∧ ∃ D, Does P (execOp a.eval o) w D ∧ ∀ v w', D v w' → SatL P fin l (a.put o.dst v) w'
theorem wpOps_sat {P : Program} {ops : Array Oper} {Q : Exit → Act → World → Prop} : ∀ (l : List Oper) (i : Nat) (a : Act) (w : World), ops.toList.drop i = l → SatL P (fun a' w' => Q .normal a' w') l a w → wpOps P ops Q (List.range' i (ops.size - i)) a w
  | [], i, a, w, hl, h => by
    have : ops.size - i = 0 := by
      have := congrArg List.length hl
      simpa using this
    rw [this]; exact h
  | o :: l, i, a, w, hl, h => by
    obtain ⟨hg, D, hd, hn⟩ := h
    have hlt : i < ops.size := by
      have := congrArg List.length hl
      simp at this; omega
    have hl' : ops.toList.drop (i + 1) = l := by
      rw [← List.drop_drop, hl]; rfl
    have hoi : ops[i]? = some o := by
      have : (ops.toList.drop i)[0]? = some o := by rw [hl]; rfl
      rw [List.getElem?_drop] at this
      simpa using this
    have e : List.range' i (ops.size - i) = i :: List.range' (i + 1) (ops.size - (i + 1)) := by
      rw [show ops.size - i = (ops.size - (i + 1)) + 1 by omega, List.range'_succ]
    rw [e]
    simp only [wpOps, hoi]
    rw [if_pos (by simp [Region.wanted, hg])]
    exact .inl (does_wp hd (fun v w' hv => wpOps_sat l (i + 1) _ _ hl' (hn v w' hv)))
theorem region_sat {P : Program} {ops : Array Oper} {Q : Exit → Act → World → Prop} {id : Nat} {a : Act} {w : World} (h : SatL P (fun a' w' => Q .normal a' w') ops.toList a w) : (Code.region id ops false).wp P Q a w := by
  refine wp_region ?_
  have := wpOps_sat ops.toList 0 a w rfl h
  simpa [List.range_eq_range'] using this

theorem two_of {α : Type} {l : List α} (h : l.length = 2) : ∃ a b, l = [a, b] := by
  match l, h with
  | [a, b], _ => exact ⟨a, b, rfl⟩
def vw (o : Oper) : Option Tmp × Op × Bool := (o.dst, o.op, o.guard.isNone)
def entOf (p : Int × FuncId) : Value × Value := (.int .i64 p.1, .func (.func p.2) #[] #[])

section
variable {P : Program} {mty kt et : TypeId}
theorem insert_run (hm : P.underlying mty = some (.map kt et)) (hd : P.underlying kt = some (.int .i64)) {w : World} {r : Nat} {es : Array MapEntry} {clock : Nat} (hb : w.heap[r]? = some (.map es clock)) {k : Int} {v : Value}
    (h1 : Instr.findNow (.int .i64) (.int .i64 k) es.toList 0 = some none) :
    ∃ w', (Instr.mapUpdate mty (.map (some r)) (.int .i64 k) v).run P w = .ok () w' ∧ w'.heap[r]? = some (.map (es.push { key := .int .i64 k, val := v, born := clock }) (clock + 1)) ∧ w'.os = w.os ∧ w'.tape = w.tape ∧ w'.output = w.output ∧ w'.heap.size = w.heap.size ∧ ∀ b, b ≠ r → w'.heap[b]? = w.heap[b]? := by
  have hk : IsKey (.int .i64) (.int .i64 k) := rfl
  refine ⟨{ w with heap := w.heap.setIfInBounds r (.map (es.push { key := .int .i64 k, val := v, born := clock }) (clock + 1)) }, ?_, (heap_set hb).1, rfl, rfl, rfl, by simp, (heap_set hb).2⟩
  simp [Instr.mapUpdate, run_underlying hm, run_getObj_map hb, run_checkKey hd hk, run_findKey hd h1, run_setObj_map _ hb, Result.andThen]
theorem findNow_fresh {k : Int} : ∀ {l : List MapEntry} {es : List (Int × FuncId)} {i : Nat}, l.map (fun e => (e.key, e.val)) = es.map entOf → (∀ p ∈ es, p.1 ≠ k) → Instr.findNow (.int .i64) (.int .i64 k) l i = some none
  | [], _, _, _, _ => rfl
  | e :: l, [], _, h, _ => by simp at h
  | e :: l, p :: es, i, h, hn => by
    simp only [List.map_cons, List.cons.injEq, entOf, Prod.mk.injEq] at h
    obtain ⟨⟨h1, h2⟩, h3⟩ := h
    have := hn p (by simp)
    unfold Instr.findNow
    rw [h1]
    simp only [Instr.sameNow, if_true]
    rw [show (k == p.1) = false by simp; omega]
    exact findNow_fresh h3 (fun q hq => hn q (by simp [hq]))

/-- The rows that lay entries. -/
theorem inserts_sat (hm : P.underlying mty = some (.map kt et)) (hd : P.underlying kt = some (.int .i64)) {fin : Act → World → Prop} {rest : List Oper} {r : Nat} {w0 : World} {a : Act} {t : Tmp} (ht : a.tmps.getD t undef = .map (some r)) (hr : w0.heap.size ≤ r) :
    ∀ (ol : List Oper) (todo done : List (Int × FuncId)) (es : Array MapEntry) (clock : Nat) (w : World), ol.map vw = todo.map (fun p => (none, Op.insert mty (.tmp t) (.const (.int .i64 p.1)) (.func p.2), true)) →
      (done ++ todo).Pairwise (fun p q => p.1 ≠ q.1) → w.heap[r]? = some (.map es clock) → es.toList.map (fun e => (e.key, e.val)) = done.map entOf → Fr w0 w →
      (∀ es clock w', w'.heap[r]? = some (.map es clock) → es.toList.map (fun e => (e.key, e.val)) = (done ++ todo).map entOf → Fr w0 w' → SatL P fin rest a w') → SatL P fin (ol ++ rest) a w
  | [], todo, done, es, clock, w, ho, hp, hb, he, hfr, hk => by
    have : todo = [] := by cases todo <;> simp at ho ⊢
    subst this
    simp only [List.append_nil] at hk
    exact hk es clock w hb he hfr
  | o :: ol, [], done, es, clock, w, ho, hp, hb, he, hfr, hk => by simp at ho
  | o :: ol, p :: todo, done, es, clock, w, ho, hp, hb, he, hfr, hk => by
    simp only [List.map_cons, List.cons.injEq, vw, Prod.mk.injEq] at ho
    obtain ⟨⟨hd1, hop, hg⟩, ho⟩ := ho
    have hfresh : ∀ q ∈ done, q.1 ≠ p.1 := by
      intro q hq
      have := List.pairwise_append.1 hp
      exact this.2.2 q hq p (by simp)
    obtain ⟨w', hrun, hb', q1, q2, q3, q4, q5⟩ := insert_run (P := P) hm hd hb (k := p.1) (v := .func (.func p.2) #[] #[]) (findNow_fresh he hfresh)
    have heval : a.eval (.tmp t) = .map (some r) := by simpa [Act.eval] using ht
    refine ⟨by simpa using hg, fun _ w'' => w'' = w', ?_, ?_⟩
    · simp only [execOp, hop]
      refine does_u (w' := w') ?_ rfl
      rw [heval]; exact hrun
    · rintro v w'' rfl
      rw [hd1]
      show SatL P fin (ol ++ rest) a w''
      refine inserts_sat hm hd ht hr ol todo (done ++ [p]) _ _ w'' ho (by simpa using hp) hb' (by simp [he, entOf]) ?_ (fun es clock w3 h1 h2 h3 => hk es clock w3 h1 (by simpa using h2) h3)
      exact ⟨q1.trans hfr.os, q2.trans hfr.tape, q3.trans hfr.output, by rw [q4]; exact hfr.size, fun b hb2 => (q5 b (by omega)).trans (hfr.blk b hb2)⟩

/-- A function whose body is: a nil map, then a new one with entries, then its return. -/
theorem asked_calls {f : FuncId} {fn : Func} {i0 i1 : Nat} {ops0 ops1 : Array Oper} {entries : List (Int × FuncId)} (hm : P.underlying mty = some (.map kt et)) (hd : P.underlying kt = some (.int .i64)) (hfn : P.funcs[f]? = some fn)
    (hbody : fn.body = some (.seq (.region i0 ops0 false) (.seq (.region i1 ops1 false) .ret))) (hres : fn.results = #[.tmp 0]) (hnt : 2 < fn.ntmps)
    (h0 : ops0.toList.map vw = [(some 0, .assign (.const (.map none)), true)])
    (h1 : ops1.toList.map vw = (some 1, .makeMap mty none, true) :: (entries.map (fun p => (none, Op.insert mty (.tmp 1) (.const (.int .i64 p.1)) (.func p.2), true)) ++ [(some 2, .move (.tmp 1), true), (some 0, .assign (.tmp 2), true)]))
    (hp : entries.Pairwise (fun p q => p.1 ≠ q.1)) (w : World) :
    Calls P f #[] w (fun e w' => ∃ r es clock, e = .returned (.map (some r)) ∧ Fr w w' ∧ w'.heap[r]? = some (.map es clock) ∧ es.toList.map (fun e => (e.key, e.val)) = entries.map entOf) := by
  refine calls_of_wp hfn hbody (wp_seq (region_sat ?_))
  -- the first row
  obtain ⟨o0, l0, hl0⟩ : ∃ o l, ops0.toList = o :: l := by
    cases h : ops0.toList with
    | nil => rw [h] at h0; simp at h0
    | cons o l => exact ⟨o, l, rfl⟩
  rw [hl0] at h0 ⊢
  simp only [List.map_cons, List.cons.injEq, vw, Prod.mk.injEq, List.map_eq_nil_iff] at h0
  obtain ⟨⟨d0, p0, g0⟩, rfl⟩ := h0
  refine ⟨by simpa using g0, fun v w' => v = .map none ∧ w' = w, ?_, ?_⟩
  · unfold Does; simp only [execOp, p0, Sem.run_pure]; simp [Act.eval]
  rintro v w' ⟨rfl, rfl⟩
  rw [d0]
  refine wp_seq (region_sat ?_)
  -- the second
  obtain ⟨o1, l1, hl1⟩ : ∃ o l, ops1.toList = o :: l := by
    cases h : ops1.toList with
    | nil => rw [h] at h1; simp at h1
    | cons o l => exact ⟨o, l, rfl⟩
  rw [hl1] at h1 ⊢
  simp only [List.map_cons, List.cons.injEq, vw, Prod.mk.injEq] at h1
  obtain ⟨⟨d1, p1, g1⟩, h1⟩ := h1
  refine ⟨by simpa using g1, fun v w'' => v = .map (some w'.heap.size) ∧ w'' = w'.alloc (.map #[] 0), ?_, ?_⟩
  · simp only [execOp, p1]
    refine does_v (z := .map (some w'.heap.size)) (w' := w'.alloc (.map #[] 0)) ?_ ⟨rfl, rfl⟩
    simp [Instr.makeMap, Result.andThen]
  rintro v w'' ⟨rfl, rfl⟩
  rw [d1]
  obtain ⟨la, lb, rfl, ha, hb⟩ := List.map_eq_append_iff.1 h1
  have hsz : (#[].toList.toArray ++ Array.replicate (fn.ntmps - (#[] : Array Value).size) undef : Array Value).size = fn.ntmps := by simp
  have hlen : lb.length = 2 := by
    have := congrArg List.length hb
    rw [List.length_map] at this
    exact this
  obtain ⟨u2, u3, rfl⟩ := two_of hlen
  simp only [List.map_cons, List.map_nil, List.cons.injEq, vw, Prod.mk.injEq, and_true] at hb
  obtain ⟨⟨d2, p2, g2⟩, d3, p3, g3⟩ := hb
  have halloc := MapKept.heap_alloc w' (.map #[] 0)
  refine inserts_sat (r := w'.heap.size) (w0 := w') (t := 1) hm hd ?_ (Nat.le_refl _) la entries [] #[] 0 _ ha (by simpa using hp) halloc.1 (by simp) ⟨rfl, rfl, rfl, by rw [show (w'.alloc (.map #[] 0)).heap = w'.heap.push (.map #[] 0) from rfl]; simp, halloc.2⟩ ?_
  · simp only [Act.put]
    rw [getD_put _ _ _ _ (by simp; omega)]
    simp
  intro es clock w3 e1 e2 hfr
  refine ⟨by simpa using g2, fun v w'' => v = .map (some w'.heap.size) ∧ w'' = w3, ?_, ?_⟩
  · unfold Does; simp only [execOp, p2, Sem.run_pure, and_true]
    simp only [Act.eval, Act.put]
    rw [getD_put _ _ _ _ (by simp; omega)]
    simp
  rintro v w'' ⟨rfl, rfl⟩
  rw [d2]
  refine ⟨by simpa using g3, fun v w3 => v = .map (some w'.heap.size) ∧ w3 = w'', ?_, ?_⟩
  · unfold Does; simp only [execOp, p3, Sem.run_pure, and_true]
    simp only [Act.eval, Act.put]
    rw [getD_put _ _ _ _ (by simp; omega)]
    simp
  rintro v w4 ⟨rfl, rfl⟩
  rw [d3]
  refine wp_ret ⟨rfl, .map (some w'.heap.size), ?_, _, es, clock, rfl, hfr, e1, by simpa using e2⟩
  unfold results
  rw [hres]
  simp only [Act.put, List.mapM_toArray, List.mapM_cons, List.mapM_nil, Sem.run_bind, Sem.run_pure, Sem.run_map, Result.andThen_ok, pure_bind, bind_pure_comp]
  rw [getD_put _ _ _ _ (by simp; omega)]
  simp

theorem den_has {k : IntKind} {n : Int} (h : k.has n) : den k (BitVec.ofInt k.bits n) = n := by
  rw [← wrap_den]
  cases k <;> simp [IntKind.has, IntKind.min, IntKind.max, IntKind.signed, IntKind.bits] at h <;> simp [IntKind.wrap, IntKind.signed, IntKind.bits] <;> omega
theorem four_of {α : Type} {l : List α} (h : l.length = 4) : ∃ a b c d, l = [a, b, c, d] := by
  match l, h with
  | [a, b, c, d], _ => exact ⟨a, b, c, d, rfl⟩
def pickA {R : Type} : List (Int × FuncId) → BitVec 64 → (AV → Option R) → Option R
  | [], _, K => K .nilfunc
  | p :: l, x, K => cond (x == BitVec.ofInt 64 p.1) (K (.func (.func p.2) [] [])) (pickA l x K)
/-- A region that calls such a function, and looks up what it laid. -/
def lookH (entries : List (Int × FuncId)) (s t1 t2 t3 t4 : Tmp) : Handler := fun R tm H N K => match tm.get s with
  | .int .i64 x => pickA entries x fun v => K .normal ((((tm.set 12 t1 .any).set 12 t2 .any).set 12 t3 .any).set 12 t4 v) H N
  | _ => none
theorem findNow_pick {x : BitVec 64} {R : Type} {r : R} : ∀ {entries : List (Int × FuncId)} {l : List MapEntry} {i : Nat} {K : AV → Option R}, l.map (fun e => (e.key, e.val)) = entries.map entOf → (∀ p ∈ entries, IntKind.i64.has p.1) → pickA entries x K = some r →
    ∃ v, K v = some r ∧ ((v = .nilfunc ∧ Instr.findNow (.int .i64) (.int .i64 (den .i64 x)) l i = some none) ∨ ∃ f j, v = .func (.func f) [] [] ∧ Instr.findNow (.int .i64) (.int .i64 (den .i64 x)) l i = some (some (j, .func (.func f) #[] #[])))
  | [], l, i, K, h, _, hk => by
    have : l = [] := by simpa using h
    subst this
    exact ⟨_, hk, .inl ⟨rfl, rfl⟩⟩
  | p :: es, [], i, K, h, _, hk => by simp at h
  | p :: es, e :: l, i, K, h, hp, hk => by
    simp only [List.map_cons, List.cons.injEq, entOf, Prod.mk.injEq] at h
    obtain ⟨⟨h1, h2⟩, h3⟩ := h
    unfold pickA at hk
    unfold Instr.findNow
    rw [h1]
    simp only [Instr.sameNow, if_true]
    have hd : den .i64 (BitVec.ofInt 64 p.1) = p.1 := den_has (k := .i64) (hp p (by simp))
    cases hb : (x == BitVec.ofInt 64 p.1) with
    | true =>
      rw [hb] at hk
      simp only [cond_true] at hk
      have hx : x = BitVec.ofInt 64 p.1 := by simpa using hb
      refine ⟨_, hk, .inr ⟨p.2, i, rfl, ?_⟩⟩
      rw [hx, hd]
      simp [h2]
    | false =>
      rw [hb] at hk
      simp only [cond_false] at hk
      have hx : ¬ x = BitVec.ofInt 64 p.1 := by simpa using hb
      rw [show (den .i64 x == p.1) = false by
        rw [beq_eq_false_iff_ne]
        intro hh
        exact hx (den_inj (k := .i64) (hh.trans hd.symm))]
      obtain ⟨v, hv, hc⟩ := findNow_pick (i := i + 1) h3 (fun q hq => hp q (by simp [hq])) hk
      exact ⟨v, hv, hc⟩
def foundV (q : Option (Nat × Value)) : Value := match q with
  | some p => p.2
  | none => .nilFunc
theorem lookup_run (hm : P.underlying mty = some (.map kt et)) (hd : P.underlying kt = some (.int .i64)) (hz : ∀ w : World, (zeroValue et).run P w = .ok .nilFunc w) {w : World} {r : Nat} {es : Array MapEntry} {clock : Nat} (hb : w.heap[r]? = some (.map es clock)) {k : Int} {q : Option (Nat × Value)}
    (h1 : Instr.findNow (.int .i64) (.int .i64 k) es.toList 0 = some q) :
    (Instr.lookup mty (.map (some r)) (.int .i64 k) false).run P w = .ok (foundV q) w := by
  have hk : IsKey (.int .i64) (.int .i64 k) := rfl
  cases q with
  | none => simp [Instr.lookup, run_underlying hm, run_getObj_map hb, run_checkKey hd hk, run_findKey hd h1, hz, Result.andThen, foundV]
  | some p => simp [Instr.lookup, run_underlying hm, run_getObj_map hb, run_checkKey hd hk, run_findKey hd h1, hz, Result.andThen, foundV]
theorem Fr.step {ρ : Env} {H : Heap} {N : Nat} {w w' : World} (h : Fr w w') (hi : Inv ρ H w) : Step ρ H N w ρ H N w' := by
  have hi' : Inv ρ H w' := ⟨fun x b hx => by
    obtain ⟨l, hl, hb⟩ := hi.blk x b hx
    exact ⟨l, hl, BlkRel.mono hb (fun _ _ h => h) (h.blk _ (BlkRel.lt hb))⟩, hi.inj⟩
  exact ⟨fun _ _ => rfl, h.os, h.tape, h.output, h.size, fun b hb _ => h.blk b hb, hi', fun y k l hy hl => .inl ⟨y, k, l, hy, hl, rfl, id⟩⟩
theorem hasB {l : List (Int × FuncId)} (h : (l.all fun p => decide (-9223372036854775808 ≤ p.1) && decide (p.1 ≤ 9223372036854775807)) = true) : ∀ p ∈ l, IntKind.i64.has p.1 := by
  intro p hp
  have := List.all_eq_true.1 h p hp
  simp only [Bool.and_eq_true, decide_eq_true_eq] at this
  simp only [IntKind.has, IntKind.min, IntKind.max, IntKind.signed, IntKind.bits]
  simp
  omega
theorem lookH_snd {nt : Nat} {rid g : Nat} {gn : Func} {ops : Array Oper} {entries : List (Int × FuncId)} {s t1 t2 t3 t4 : Tmp} (hm : P.underlying mty = some (.map kt et)) (hd : P.underlying kt = some (.int .i64)) (hz : ∀ w : World, (zeroValue et).run P w = .ok .nilFunc w)
    (hgn : P.funcs[g]? = some gn) (hname : (gn.name == "runtime.NumGoroutine") = false) (hgb : gn.body.isNone = false)
    (hasked : ∀ w, Calls P g #[] w (fun e w' => ∃ r es clock, e = .returned (.map (some r)) ∧ Fr w w' ∧ w'.heap[r]? = some (.map es clock) ∧ es.toList.map (fun e => (e.key, e.val)) = entries.map entOf))
    (hops : ops.toList.map vw = [(some t1, .call ⟨.value (.func g), #[], #[]⟩, true), (some t2, .move (.tmp s), true), (some t3, .lookup mty (.tmp t1) (.tmp t2) false, true), (some t4, .assign (.tmp t3), true)])
    (hp : ∀ p ∈ entries, IntKind.i64.has p.1) (h1 : t1 < nt) (h2 : t2 < nt) (h3 : t3 < nt) (h4 : t4 < nt) (hs1 : s ≠ t1) (h12 : t1 ≠ t2) (h13 : t1 ≠ t3) : HSnd P nt (.region rid ops false) (lookH entries s t1 t2 t3 t4) := by
  intro R r0 tm H N K h
  unfold lookH at h
  split at h
  · rename_i x hx
    have key : ∀ (l : List MapEntry), l.map (fun e => (e.key, e.val)) = entries.map entOf → ∃ v, K .normal ((((tm.set 12 t1 .any).set 12 t2 .any).set 12 t3 .any).set 12 t4 v) H N = some r0 ∧ ((v = .nilfunc ∧ Instr.findNow (.int .i64) (.int .i64 (den .i64 x)) l 0 = some none) ∨ ∃ f j, v = .func (.func f) [] [] ∧ Instr.findNow (.int .i64) (.int .i64 (den .i64 x)) l 0 = some (some (j, .func (.func f) #[] #[]))) :=
      fun l hl => findNow_pick (i := 0) hl hp h
    -- what is looked up hangs on the entries alone
    obtain ⟨v, hk, hv⟩ := key (entries.map (fun p => ⟨.int .i64 p.1, .func (.func p.2) #[] #[], 0⟩)) (by simp [entOf])
    have same : ∀ (l l' : List MapEntry) (i : Nat), l.map (fun e => (e.key, e.val)) = l'.map (fun e => (e.key, e.val)) → Instr.findNow (.int .i64) (.int .i64 (den .i64 x)) l i = Instr.findNow (.int .i64) (.int .i64 (den .i64 x)) l' i := by
      intro l
      induction l with
      | nil => intro l' i hl; cases l' with
        | nil => rfl
        | cons e l' => simp at hl
      | cons e l ih => intro l' i hl; cases l' with
        | nil => simp at hl
        | cons e' l' =>
          simp only [List.map_cons, List.cons.injEq, Prod.mk.injEq] at hl
          unfold Instr.findNow
          rw [hl.1.1, hl.1.2, ih l' (i + 1) hl.2]
    refine ⟨.normal, _, _, _, hk, Nat.le_refl _, fun ρ a w ht hi hf => region_sat ?_⟩
    have hlen : ops.toList.length = 4 := by
      have := congrArg List.length hops
      rw [List.length_map] at this
      exact this
    obtain ⟨o1, o2, o3, o4, hl⟩ := four_of hlen
    rw [hl] at hops ⊢
    simp only [List.map_cons, List.map_nil, List.cons.injEq, vw, Prod.mk.injEq, and_true] at hops
    obtain ⟨⟨d1, p1, g1⟩, ⟨d2, p2, g2⟩, ⟨d3, p3, g3⟩, d4, p4, g4⟩ := hops
    have hxs : a.tmps.getD s undef = .int .i64 (den .i64 x) := by
      have := ht.2 s
      rw [hx] at this
      simpa only [VR] using this
    -- the call
    refine ⟨by simpa using g1, fun v w' => ∃ r es clock, v = .map (some r) ∧ Fr w w' ∧ w'.heap[r]? = some (.map es clock) ∧ es.toList.map (fun e => (e.key, e.val)) = entries.map entOf, ?_, ?_⟩
    · simp only [execOp, p1]
      refine does_bind (a := { target := .fn (.func g) #[], args := #[] }) (w' := w) (by simp [resolve, Act.eval, Deferred.ofValue]) ?_
      show Does P (callFunc g #[]) w _
      unfold Does
      rw [callFunc_enter hgn hname hgb]
      simp only
      refine (hasked w).mono ?_
      rintro e w' ⟨r, es, clock, rfl, h5, h6, h7⟩
      exact ⟨_, rfl, r, es, clock, rfl, h5, h6, h7⟩
    rintro v1 w1 ⟨r, es, clock, rfl, hfr, hbr, hes⟩
    rw [d1]
    have ht1 : Tms ρ nt (tm.set 12 t1 .any) (a.put (some t1) (.map (some r))) := ht.set h1 (by simp [VR])
    -- the key
    refine ⟨by simpa using g2, fun v w' => v = .int .i64 (den .i64 x) ∧ w' = w1, ?_, ?_⟩
    · unfold Does
      simp only [execOp, p2, Sem.run_pure, and_true]
      simp only [Act.eval, Act.put]
      rw [getD_put _ _ _ _ (by rw [ht.1]; exact h1), if_neg hs1]
      exact hxs
    rintro v2 w2 ⟨rfl, rfl⟩
    rw [d2]
    have ht2 : Tms ρ nt ((tm.set 12 t1 .any).set 12 t2 .any) ((a.put (some t1) (.map (some r))).put (some t2) (.int .i64 (den .i64 x))) := ht1.set h2 (by simp [VR])
    -- what is found
    have hq : ∃ q, Instr.findNow (.int .i64) (.int .i64 (den .i64 x)) es.toList 0 = some q ∧ VR ρ v (foundV q) := by
      have e := same es.toList _ 0 (hes.trans (show entries.map entOf = (entries.map (fun p => (⟨.int .i64 p.1, .func (.func p.2) #[] #[], 0⟩ : MapEntry))).map (fun e => (e.key, e.val)) by simp [entOf]))
      rcases hv with ⟨rfl, h5⟩ | ⟨f, j, rfl, h5⟩
      · exact ⟨none, e.trans h5, by simp [VR, foundV]⟩
      · exact ⟨_, e.trans h5, by simp only [VR, foundV]; exact ⟨#[], #[], rfl, by simp, by simp⟩⟩
    obtain ⟨q, hfind, hvq⟩ := hq
    refine ⟨by simpa using g3, fun v w' => v = (foundV q) ∧ w' = w2, ?_, ?_⟩
    · simp only [execOp, p3]
      have e1 : ((a.put (some t1) (.map (some r))).put (some t2) (.int .i64 (den .i64 x))).eval (.tmp t1) = .map (some r) := by
        simp only [Act.eval, Act.put]
        rw [getD_put _ _ _ _ (by simp [ht.1]; exact h2), if_neg h12, getD_put _ _ _ _ (by rw [ht.1]; exact h1), if_pos rfl]
      have e2 : ((a.put (some t1) (.map (some r))).put (some t2) (.int .i64 (den .i64 x))).eval (.tmp t2) = .int .i64 (den .i64 x) := by
        simp only [Act.eval, Act.put]
        rw [getD_put _ _ _ _ (by simp [ht.1]; exact h2), if_pos rfl]
      rw [e1, e2]
      exact does_v (lookup_run hm hd hz hbr hfind) ⟨rfl, rfl⟩
    rintro v3 w3 ⟨rfl, rfl⟩
    rw [d3]
    generalize foundV q = z at hvq ⊢
    have ht3 := ht2.set h3 (v := .any) (x := z) (by simp [VR])
    refine ⟨by simpa using g4, fun v w' => v = z ∧ w' = w3, ?_, ?_⟩
    · unfold Does
      simp only [execOp, p4, Sem.run_pure, and_true]
      simp only [Act.eval, Act.put]
      rw [getD_put _ _ _ _ (by simp [ht.1]; exact h3), if_pos rfl]
    rintro v4 w4 ⟨rfl, rfl⟩
    rw [d4]
    exact ⟨rfl, ρ, hfr.step hi, ht3.set h4 hvq, rfl⟩
  · simp at h
end
end Go.Sx

/- Several texts in one. -/
import Derived.Test.YtkbcfbehebbmhaaGreatSxJ
import Derived.LoopN
import Derived.Scope
set_option linter.unusedSimpArgs false
set_option linter.unusedVariables false
set_option linter.unnecessarySimpa false
/- What the executor's operations answer, the machine's operations answer: all together; calls by an oracle. -/
namespace Go.Sx
open Go

/-- What an operation's run comes to. -/
def Does (P : Program) (s : Sem Next) (w : World) (Q : Value → World → Prop) : Prop :=
  match s.run P w with
  | .ok (.value v) w' => Q v w'
  | .ok .skip w' => Q undef w'
  | .ok (.enter f args) w' => Calls P f args w' fun e w'' => ∃ v, e = .returned v ∧ Q v w''
  | _ => False

/-- The oracle tells what calls come to. -/
def Snd (P : Program) (C : Oracle) : Prop :=
  ∀ (R : Type) (g : FuncId) (args : List AV) (H : Heap) (N : Nat) (K : AV → Eff → Nat → Option R) (r : R), C R g args H N K = some r →
    ∃ v e N', K v e N' = some r ∧ N ≤ N' ∧ ∀ (ρ : Env) (w : World) (vs : List Value), VRs ρ args vs → Inv ρ H w → Fresh ρ N N' →
      Does P (callFunc g vs.toArray) w (fun v' w' => Post ρ H N w e N' v v' w')

section
variable {P : Program} {w : World} {ρ : Env} {R : Type} {r : R}

theorem Does.mono {s : Sem Next} {Q Q' : Value → World → Prop} (h : Does P s w Q) (hq : ∀ v w', Q v w' → Q' v w') : Does P s w Q' := by
  unfold Does at *
  generalize s.run P w = q at *
  cases q with
  | ok n w' =>
    cases n <;> simp only at h ⊢ <;> first
      | exact hq _ _ h
      | exact h.mono fun e w' ⟨v, hv, hh⟩ => ⟨v, hv, hq _ _ hh⟩
  | halt x w' => exact h
theorem does_v {s : Sem Value} {z : Value} {w' : World} {Q : Value → World → Prop} (h : s.run P w = .ok z w') (hq : Q z w') : Does P (do pure (.value (← s))) w Q := by
  unfold Does; simp only [Sem.run_bind, h, Result.andThen_ok, Sem.run_pure]; exact hq
theorem does_u {s : Sem Unit} {w' : World} {Q : Value → World → Prop} (h : s.run P w = .ok () w') (hq : Q undef w') : Does P (do s; pure .skip) w Q := by
  unfold Does; simp only [Sem.run_bind, h, Result.andThen_ok, Sem.run_pure]; exact hq
theorem does_bind {α : Type} {s : Sem α} {f : α → Sem Next} {a : α} {w' : World} {Q : Value → World → Prop} (h : s.run P w = .ok a w') (hd : Does P (f a) w' Q) : Does P (s >>= f) w Q := by
  unfold Does at *; simp only [Sem.run_bind, h, Result.andThen_ok]; exact hd

theorem foldA_sound {f : (k : IntKind) → BitVec k.bits → BitVec k.bits → BitVec k.bits} {g : Value → Value → Sem Value} (hfg : ∀ (k : IntKind) (x y : BitVec k.bits), (g (.int k (den k x)) (.int k (den k y))).run P w = .ok (.int k (den k (f k x y))) w) :
    ∀ {l : List AV} {k : IntKind} {x : BitVec k.bits} {v : AV} {ys : List Value}, foldA f k x l = some v → VRs ρ l ys → ∃ z, (ys.foldlM g (.int k (den k x))).run P w = .ok z w ∧ VR ρ v z
  | [], k, x, v, ys, h, hv => by
    simp [foldA] at h; subst h
    simp at hv; subst hv
    exact ⟨_, rfl, by simp only [VR]⟩
  | u :: l, k, x, v, ys, h, hv => by
    cases u <;> simp only [foldA, reduceCtorEq] at h
    rename_i k' y
    split at h
    · rename_i hk; subst hk
      obtain ⟨z, zs, rfl, hz, hzs⟩ := VRs_cons.1 hv
      simp only [VR] at hz; subst hz
      obtain ⟨q, hq, hr⟩ := foldA_sound hfg h hzs
      exact ⟨q, by simp only [List.foldlM_cons, Sem.run_bind, hfg, Result.andThen_ok]; exact hq, hr⟩
    · simp at h

theorem builtinA_sound {b : Builtin} {ts : Array TypeId} {H : Heap} {args : List AV} {N : Nat} {K : AV → Eff → Nat → Option R} (h : builtinA P b ts H args N K = some r) :
    ∃ v e N', K v e N' = some r ∧ N ≤ N' ∧ ∀ (ρ : Env) (w : World) (vs : List Value) (ty : TypeId) (cs : Array Bool), VRs ρ args vs → Inv ρ H w → Fresh ρ N N' →
      Does P (builtin b ts ty cs vs.toArray) w (fun v' w' => Post ρ H N w e N' v v' w') := by
  unfold builtinA at h
  split at h
  · rename_i x
    split at h
    · rename_i t ht
      have key : ∀ (n : Nat), n < 2 ^ 63 → K (.int .i64 (BitVec.ofNat 64 n)) [] N = some r → (∀ (ρ : Env) (w : World) (x' : Value) (ty : TypeId), VR ρ x x' → (Builtin.len_ ts ty #[x']).run P w = .ok (goInt n) w) →
          ∃ v e N', K v e N' = some r ∧ N ≤ N' ∧ ∀ (ρ : Env) (w : World) (vs : List Value) (ty : TypeId) (cs : Array Bool), VRs ρ [x] vs → Inv ρ H w → Fresh ρ N N' →
            Does P (builtin .len ts ty cs vs.toArray) w (fun v' w' => Post ρ H N w e N' v v' w') := by
        intro n hn hk hrun
        refine ⟨_, _, _, hk, Nat.le_refl _, fun ρ w vs ty cs hvs hinv hf => ?_⟩
        obtain ⟨x', rfl, hx⟩ := VRs_one_iff.1 hvs
        refine does_v (hrun ρ w x' ty hx) (Post.same hinv ?_)
        simp only [VR, goInt]
        rw [← den_ofNat hn]
      split at h
      · rename_i e p es n hu
        obtain ⟨v, e', N', h1, h2, h3⟩ : ∃ v e N', K v e N' = some r ∧ N ≤ N' ∧ ∀ (ρ : Env) (w : World) (vs : List Value) (ty : TypeId) (cs : Array Bool), VRs ρ [.slice p es n] vs → Inv ρ H w → Fresh ρ N N' →
            Does P (builtin .len ts ty cs vs.toArray) w (fun v' w' => Post ρ H N w e N' v v' w') := by
          by_cases hn : n < 2 ^ 63
          · exact key n hn h fun ρ w x' ty hx => by
              simp only [VR] at hx
              obtain ⟨l, cap, _, _, _, _, rfl⟩ := hx
              simp [Builtin.len_, ht, run_underlying hu]
          · refine ⟨_, _, _, h, Nat.le_refl _, fun ρ w vs ty cs hvs hinv hf => ?_⟩
            obtain ⟨x', rfl, hx⟩ := VRs_one_iff.1 hvs
            simp only [VR] at hx
            obtain ⟨l, cap, _, _, _, _, rfl⟩ := hx
            omega
        exact ⟨v, e', N', h1, h2, h3⟩
      · rename_i e hu
        exact key 0 (by decide) h fun ρ w x' ty hx => by
          simp only [VR] at hx; subst hx
          simp [Builtin.len_, ht, run_underlying hu]
      · rename_i n e hu
        cases hb : Nat.blt n (2 ^ 62) with
        | false => rw [hb] at h; simp at h
        | true =>
          rw [hb] at h
          rw [blt_true] at hb
          exact key n (by omega) h fun ρ w x' ty hx => by simp [Builtin.len_, ht, run_underlying hu]
      · rename_i a hu
        split at h
        · rename_i n e hu2
          cases hb : Nat.blt n (2 ^ 62) with
          | false => rw [hb] at h; simp at h
          | true =>
            rw [hb] at h
            rw [blt_true] at hb
            exact key n (by omega) h fun ρ w x' ty hx => by simp [Builtin.len_, ht, run_underlying hu, run_underlying hu2]
        · simp at h
      · simp at h
    · simp at h
  · rename_i s x
    split at h
    · rename_i t u ht hu
      split at h
      · rename_i e hue
        obtain ⟨v, e', N', h1, h2, h3⟩ := appendA_sound (ty := 0) ht hu hue (by simp) h
        refine ⟨v, e', N', h1, h2, fun ρ w vs ty cs hvs hinv hf => ?_⟩
        obtain ⟨s', zs, rfl, hs, hzs⟩ := VRs_cons.1 hvs
        obtain ⟨x', rfl, hx⟩ := VRs_one_iff.1 hzs
        obtain ⟨z, w', hrun, hp⟩ := h3 ρ w s' x' hs hx hinv hf
        exact does_v (show (Builtin.append_ ts ty #[s', x']).run P w = .ok z w' from hrun) hp
      · simp at h
    · simp at h
  · rename_i k x l
    split at h
    · rename_i v hv
      refine ⟨_, _, _, h, Nat.le_refl _, fun ρ w vs ty cs hvs hinv hf => ?_⟩
      obtain ⟨x', zs, rfl, hx, hzs⟩ := VRs_cons.1 hvs
      simp only [VR] at hx; subst hx
      obtain ⟨z, hz, hr⟩ := foldA_sound (P := P) (w := w) (g := Builtin.min2) (fun k x y => by simp only [Builtin.min2, Sem.run_pure]; rw [den_min]) hv hzs
      exact does_v (z := z) (w' := w) (by simp only [Builtin.min_]; exact hz) (Post.same hinv hr)
    · simp at h
  · rename_i k x l
    split at h
    · rename_i v hv
      refine ⟨_, _, _, h, Nat.le_refl _, fun ρ w vs ty cs hvs hinv hf => ?_⟩
      obtain ⟨x', zs, rfl, hx, hzs⟩ := VRs_cons.1 hvs
      simp only [VR] at hx; subst hx
      obtain ⟨z, hz, hr⟩ := foldA_sound (P := P) (w := w) (g := Builtin.max2) (fun k x y => by simp only [Builtin.max2, Sem.run_pure, gt_iff_lt]; rw [den_max]) hv hzs
      exact does_v (z := z) (w' := w) (by simp only [Builtin.max_]; exact hz) (Post.same hinv hr)
    · simp at h
  · simp at h

theorem methodA_sound : ∀ (d D : Nat) (t : TypeId) (v : AV) (name : String) (g : FuncId) (x : AV) (v' : Value), d ≤ D → methodA P d t v name = some (g, x) → VR ρ v v' → ∃ x', (method D t v' name).run P w = .ok (g, x') w ∧ VR ρ x x'
  | 0, _, _, _, _, _, _, _, _, h, _ => by simp [methodA] at h
  | d + 1, 0, _, _, _, _, _, _, hd, _, _ => by omega
  | d + 1, D + 1, t, v, name, g, x, v', hd, h, hv => by
    simp only [methodA] at h
    split at h
    · simp at h
    · rename_i i hi
      split at h
      · simp at h
      · rename_i m hm
        split at h
        · rename_i f hfn hpath
          split at h
          · rename_i p hu
            simp at h; obtain ⟨rfl, rfl⟩ := h
            refine ⟨v', ?_, hv⟩
            simp [method, run_typeInfo hi, hm, hpath, follow, hfn, receiverAt, run_underlying hu, Place.get]
          · simp at h
        · rename_i s hfn hpath
          cases hdr : s.deref with
          | true => rw [hdr] at h; simp at h
          | false =>
            rw [hdr] at h
            simp only [cond_false] at h
            split at h
            · rename_i fs cs hu
              split at h
              · rename_i f hf
                split at h
                · rename_i t' u ha hc
                  simp only [VR] at hv
                  obtain ⟨a, rfl, hva⟩ := hv
                  obtain ⟨y, hy, hry⟩ := VRs_get hva _ _ hc
                  simp only [Array.getElem?_toList] at hy
                  simp only [VR] at hry
                  obtain ⟨z, rfl, hz⟩ := hry
                  obtain ⟨x', hx', hr⟩ := methodA_sound d D t' u name g x z (by omega) h hz
                  refine ⟨x', ?_, hr⟩
                  simp [method, run_typeInfo hi, hm, hpath, follow, hfn, hdr, run_underlying hu, hf, run_part_cell ha hy, Place.get, hx']
                · simp at h
              · simp at h
            · simp at h
        · simp at h

theorem callA_sound {C : Oracle} (hC : Snd P C) {c : Call} {ev : Operand → AV} {H : Heap} {N : Nat} {K : AV → Eff → Nat → Option R} (h : callA P C c ev H N K = some r) :
    ∃ v e N', K v e N' = some r ∧ N ≤ N' ∧ ∀ (ρ : Env) (w : World) (ev' : Operand → Value) (ty : TypeId), (∀ x, VR ρ (ev x) (ev' x)) → Inv ρ H w → Fresh ρ N N' →
      Does P (do let d ← resolve ev' c ty; invoke d.target d.args) w (fun v' w' => Post ρ H N w e N' v v' w') := by
  have hargs : ∀ (ρ : Env) (ev' : Operand → Value), (∀ x, VR ρ (ev x) (ev' x)) → VRs ρ (c.args.toList.map ev) (c.args.toList.map ev') := fun ρ ev' he => VRs_map ev ev' _ fun x _ => he x
  unfold callA at h
  split at h
  · rename_i b hcal
    obtain ⟨v, e, N', h1, h2, h3⟩ := builtinA_sound h
    refine ⟨v, e, N', h1, h2, fun ρ w ev' ty he hinv hf => ?_⟩
    refine does_bind (a := { target := .builtin b c.argTypes ty (c.args.map fun | .const _ => true | _ => false), args := c.args.map ev' }) (w' := w) (by simp only [resolve, hcal, Sem.run_pure]; rfl) ?_
    have := h3 ρ w _ ty (c.args.map fun | .const _ => true | _ => false) (hargs ρ ev' he) hinv hf
    have e1 : (c.args.toList.map ev').toArray = c.args.map ev' := by apply Array.ext'; simp
    rw [e1] at this
    exact this
  · rename_i f hcal
    split at h
    · rename_i g a cs hf'
      obtain ⟨v, e, N', h1, h2, h3⟩ := hC R g _ H N K r h
      refine ⟨v, e, N', h1, h2, fun ρ w ev' ty he hinv hf => ?_⟩
      have hfv := he f
      rw [hf'] at hfv
      simp only [VR] at hfv
      obtain ⟨a', c', hx, ha, hc'⟩ := hfv
      refine does_bind (a := { target := .fn (.func g) c', args := a' ++ c.args.map ev' }) (w' := w) (by simp only [resolve, hcal, hx, Deferred.ofValue, Sem.run_pure]) ?_
      have := h3 ρ w _ (VRs_append ha (VRs_append (hargs ρ ev' he) hc')) hinv hf
      have e1 : (a'.toList ++ (c.args.toList.map ev' ++ c'.toList)).toArray = a' ++ c.args.map ev' ++ c' := by
        apply Array.ext'; simp
      rw [e1] at this
      exact this
    · simp at h
  · rename_i rcv name hcal
    split at h
    · rename_i t u hrv
      split at h
      · rename_i g x hm
        obtain ⟨v, e, N', h1, h2, h3⟩ := hC R g _ H N K r h
        refine ⟨v, e, N', h1, h2, fun ρ w ev' ty he hinv hf => ?_⟩
        have hfv := he rcv
        rw [hrv] at hfv
        simp only [VR] at hfv
        obtain ⟨y, hy, hry⟩ := hfv
        refine does_bind (a := { target := .fn (.method name) #[], args := #[ev' rcv] ++ c.args.map ev' }) (w' := w) (by simp only [resolve, hcal, Sem.run_pure]) ?_
        obtain ⟨x', hx', hr⟩ := methodA_sound (P := P) (w := w) 8 (P.types.size + Made.depth) t u name g x y (Nat.le_trans (by decide : 8 ≤ Made.depth) (Nat.le_add_left _ _)) hm hry
        have := h3 ρ w _ (VRs_cons' hr (hargs ρ ev' he)) hinv hf
        have e1 : invoke (.fn (.method name) #[]) (#[ev' rcv] ++ c.args.map ev') = callMethod (ev' rcv) name (c.args.map ev') := by
          simp only [invoke]
          have : (#[ev' rcv] ++ c.args.map ev')[0]? = some (ev' rcv) := by rw [Array.getElem?_append_left (by simp)]; rfl
          rw [this]
          show callMethod (ev' rcv) name ((#[ev' rcv] ++ c.args.map ev').extract 1 _) = _
          congr 1
          apply Array.ext'
          simp [List.take_of_length_le]
        show Does P (invoke (.fn (.method name) #[]) (#[ev' rcv] ++ c.args.map ev')) w _
        rw [e1, hy]
        simp only [callMethod]
        refine does_bind (a := P) (w' := w) rfl ?_
        refine does_bind (a := (g, x')) (w' := w) hx' ?_
        have e2 : (x' :: c.args.toList.map ev').toArray = #[x'] ++ c.args.map ev' := by
          apply Array.ext'; simp
        rw [e2] at this
        exact this
      · simp at h
    · simp at h
end
end Go.Sx

/- What the executor's operations answer, the machine's operations answer: one operation; a row of operations. -/
namespace Go.Sx
open Go

section
variable {P : Program} {w : World} {ρ : Env} {R : Type} {r : R}

theorem VR_undef : VR ρ (.tup []) undef := by simp only [VR]; exact ⟨#[], rfl, by simp⟩

theorem opA_sound {C : Oracle} (hC : Snd P C) {op : Op} {tm : TM} {H : Heap} {N : Nat} {K : AV → Eff → Nat → Option R} (h : opA P C op tm H N K = some r) :
    ∃ v e N', K v e N' = some r ∧ N ≤ N' ∧ ∀ (ρ : Env) (w : World) (ev : Operand → Value) (o : Oper), o.op = op → (∀ x, VR ρ (evA tm x) (ev x)) → Inv ρ H w → Fresh ρ N N' →
      Does P (execOp ev o) w (fun v' w' => Post ρ H N w e N' v v' w') := by
  unfold opA at h
  split at h
  · -- move
    refine ⟨_, _, _, h, Nat.le_refl _, fun ρ w ev o ho he hi hf => ?_⟩
    unfold Does; simp only [execOp, ho, Sem.run_pure]
    exact Post.same hi (he _)
  · -- assign
    refine ⟨_, _, _, h, Nat.le_refl _, fun ρ w ev o ho he hi hf => ?_⟩
    unfold Does; simp only [execOp, ho, Sem.run_pure]
    exact Post.same hi (he _)
  · -- pick
    rename_i c a b
    split at h
    · rename_i u hu
      have hb : ∀ (ρ : Env) (ev : Operand → Value), (∀ x, VR ρ (evA tm x) (ev x)) → ev c = .bool u := by
        intro ρ ev he
        have := he c; rw [hu] at this; simpa only [VR] using this
      split at h
      · rename_i x y hx hy
        refine ⟨_, _, _, h, Nat.le_refl _, fun ρ w ev o ho he hi hf => ?_⟩
        unfold Does; simp only [execOp, ho, hb ρ ev he, asBool, pure_bind, Sem.run_pure]
        refine Post.same hi ?_
        have h1 := he a
        have h2 := he b
        rw [hx] at h1; rw [hy] at h2
        cases u <;> simp <;> assumption
      · cases u with
        | true =>
          simp only [cond_true] at h
          refine ⟨_, _, _, h, Nat.le_refl _, fun ρ w ev o ho he hi hf => ?_⟩
          unfold Does; simp only [execOp, ho, hb ρ ev he, asBool, pure_bind, Sem.run_pure]
          exact Post.same hi (he _)
        | false =>
          simp only [cond_false] at h
          refine ⟨_, _, _, h, Nat.le_refl _, fun ρ w ev o ho he hi hf => ?_⟩
          unfold Does; simp only [execOp, ho, hb ρ ev he, asBool, pure_bind, Sem.run_pure]
          exact Post.same hi (he _)
    · simp at h
  · -- alloc
    rename_i t
    split at h
    · rename_i z hz
      obtain ⟨v, e, N', h1, h2, hc, h3⟩ := newA_sound h
      refine ⟨v, e, N', h1, h2, fun ρ w ev o ho he hi hf => ?_⟩
      obtain ⟨zv, hzv, hzr⟩ := zeroA_sound (w := w) (ρ := ρ) hz hc
      obtain ⟨q, w', hq, hp⟩ := h3 ρ w zv hzr hi hf
      simp only [execOp, ho]
      exact does_v (z := .pointer (some q)) (w' := w') (by simp [Instr.alloc, hzv, hq]) hp
    · simp at h
  · -- box
    rename_i t x
    obtain ⟨v, e, N', h1, h2, hc, h3⟩ := newA_sound h
    refine ⟨v, e, N', h1, h2, fun ρ w ev o ho he hi hf => ?_⟩
    obtain ⟨q, w', hq, hp⟩ := h3 ρ w (ev x) (VRs_cellsOf (he x) hc) hi hf
    simp only [execOp, ho]
    exact does_v (z := .pointer (some q)) (w' := w') (by simp [Instr.box, hq]) hp
  · -- build
    rename_i t ps
    split at h
    · rename_i v hv
      refine ⟨_, _, _, h, Nat.le_refl _, fun ρ w ev o ho he hi hf => ?_⟩
      obtain ⟨z, hz, hr⟩ := buildA_sound (P := P) (w := w) (ρ := ρ) hv (ps := ps.map fun (i, x) => (i, ev x)) (by simp [List.map_map]) (by
        intro i v x hv hx
        simp only [List.getElem?_map, Array.toList_map] at hv hx
        cases hq : ps.toList[i]? with
        | none => simp [hq] at hv
        | some p => simp [hq] at hv hx; subst hv; subst hx; exact he p.2)
      simp only [execOp, ho]
      exact does_v hz (Post.same hi hr)
    · simp at h
  · -- buildSlice
    rename_i t n ps
    obtain ⟨v, e, N', h1, h2, h3⟩ := buildSliceA_sound (H := H) h
    refine ⟨v, e, N', h1, h2, fun ρ w ev o ho he hi hf => ?_⟩
    obtain ⟨z, w', hz, hp⟩ := h3 ρ w (ps.map fun (i, x) => (i, ev x)) (by simp [List.map_map]) (by
        intro i v x hv hx
        simp only [List.getElem?_map, Array.toList_map] at hv hx
        cases hq : ps.toList[i]? with
        | none => simp [hq] at hv
        | some p => simp [hq] at hv hx; subst hv; subst hx; exact he p.2) hi hf
    simp only [execOp, ho]
    exact does_v hz hp
  · -- load
    rename_i t a
    split at h
    · rename_i p n hp hn
      obtain ⟨cs, hk, hcs, b, hb, hsl⟩ := loadA_spec h
      have key : ∀ (ρ : Env) (w : World), Inv ρ H w → ∃ v, K v [] N = some r ∧ ∃ l y, ρ p.x = some l ∧ (loadVar t (l.addr p.pos)).run P w = .ok y w ∧ VR ρ v y := by
        intro ρ w hi
        obtain ⟨l, ys, hl, hv, hc⟩ := hi.cells hb hsl hcs
        obtain ⟨v, hv1, y, hy, hr⟩ := run_loadVar (P := P) hn hcs hv hc hk
        exact ⟨v, hv1, l, y, hl, hy, hr⟩
      -- the value does not hang on the world
      unfold aggOr at hk
      split at hk
      · rename_i ha
        refine ⟨_, _, _, hk, Nat.le_refl _, fun ρ w ev o ho he hi hf => ?_⟩
        obtain ⟨l, ys, hl, hv, hc⟩ := hi.cells hb hsl hcs
        obtain ⟨v, hv1, y, hy, hr⟩ := run_loadVar (P := P) (K := fun v => if True then some v else none) (r := .agg cs) hn hcs hv hc (by unfold aggOr; rw [ha]; simp)
        simp at hv1; subst hv1
        have hpv := he a
        rw [hp] at hpv
        simp only [VR] at hpv
        obtain ⟨l', hl', hpv⟩ := hpv
        rw [hl] at hl'; simp at hl'; subst hl'
        simp only [execOp, ho]
        exact does_v (by rw [hpv]; simp only [Instr.loadAt, Instr.sureAddr, pure_bind]; exact hy) (Post.same hi hr)
      · rename_i ha
        split at hk
        · rename_i v0
          refine ⟨_, _, _, hk, Nat.le_refl _, fun ρ w ev o ho he hi hf => ?_⟩
          obtain ⟨l, ys, hl, hv, hc⟩ := hi.cells hb hsl hcs
          obtain ⟨v, hv1, y, hy, hr⟩ := run_loadVar (P := P) (K := fun v => if True then some v else none) (r := v0) hn hcs hv hc (by unfold aggOr; rw [ha]; simp)
          simp at hv1; subst hv1
          have hpv := he a
          rw [hp] at hpv
          simp only [VR] at hpv
          obtain ⟨l', hl', hpv⟩ := hpv
          rw [hl] at hl'; simp at hl'; subst hl'
          simp only [execOp, ho]
          exact does_v (by rw [hpv]; simp only [Instr.loadAt, Instr.sureAddr, pure_bind]; exact hy) (Post.same hi hr)
        · simp at hk
      · simp at hk
    · simp at h
  · -- store
    rename_i t a x
    split at h
    · rename_i p n hp hn
      have h' : (bif Nat.beq (cellsOf (evA tm x)).length n then storeA H p (cellsOf (evA tm x)) fun b => K (.tup []) [(p.x, some b)] N else none) = some r := h
      clear h
      cases hc : Nat.beq (cellsOf (evA tm x)).length n with
      | false => rw [hc] at h'; simp at h'
      | true =>
        rw [hc] at h'
        simp only [cond_true] at h'
        rw [beq_true] at hc
        obtain ⟨b', hk, hcells, h3⟩ := storeA_sound (P := P) (N := N) (t := t) h'
        refine ⟨_, _, _, hk, Nat.le_refl _, fun ρ w ev o ho he hi hf => ?_⟩
        obtain ⟨l, w', hl, hrun, hst⟩ := h3 ρ w (ev x) (VRs_cellsOf (he x) hcells) hi (by rw [hc]; exact hn)
        have hpv := he a
        rw [hp] at hpv
        simp only [VR] at hpv
        obtain ⟨l', hl', hpv⟩ := hpv
        rw [hl] at hl'; simp at hl'; subst hl'
        simp only [execOp, ho]
        exact does_u (by rw [hpv]; simp only [Instr.storeAt, Instr.sureAddr, pure_bind]; exact hrun) ⟨ρ, hst, VR_undef⟩
    · simp at h
  · -- nilCheck
    rename_i x
    split at h
    · rename_i p hp
      refine ⟨_, _, _, h, Nat.le_refl _, fun ρ w ev o ho he hi hf => ?_⟩
      have hpv := he x
      rw [hp] at hpv
      have hpv0 := hpv
      simp only [VR] at hpv
      obtain ⟨l, hl, hx⟩ := hpv
      unfold Does; simp only [execOp, ho, hx, Sem.run_pure]
      rw [← hx]
      exact Post.same hi hpv0
    · rename_i f a c hp
      refine ⟨_, _, _, h, Nat.le_refl _, fun ρ w ev o ho he hi hf => ?_⟩
      have hpv := he x
      rw [hp] at hpv
      have hpv0 := hpv
      simp only [VR] at hpv
      obtain ⟨a', c', hx, _, _⟩ := hpv
      unfold Does; simp only [execOp, ho, hx, Sem.run_pure]
      rw [← hx]
      exact Post.same hi hpv0
    · simp at h
  · -- binOp
    rename_i op t x y yt
    split at h
    · rename_i b hb
      refine ⟨_, _, _, h, Nat.le_refl _, fun ρ w ev o ho he hi hf => ?_⟩
      obtain ⟨hz1, hz2⟩ := nilA_sound hb ρ w (ev x) (ev y) x (he x) (fun z hz => by have := he y; rw [hz] at this ⊢; exact this)
      simp only [execOp, ho]
      exact does_v (by simp only [Sem.run_bind, hz1, Result.andThen_ok]; exact hz2) (Post.same hi (by simp only [VR]))
    obtain ⟨v, hv, hall⟩ := binA_sound h
    refine ⟨_, _, _, hv, Nat.le_refl _, fun ρ w ev o ho he hi hf => ?_⟩
    obtain ⟨z, hz1, hz2, hr⟩ := hall ρ w (ev x) (ev y) x y (he x) (he y)
    simp only [execOp, ho]
    exact does_v (by simp only [Sem.run_bind, hz1, Result.andThen_ok]; exact hz2) (Post.same hi hr)
  · -- unOp
    rename_i op t x
    split at h
    · rename_i v hv
      refine ⟨_, _, _, h, Nat.le_refl _, fun ρ w ev o ho he hi hf => ?_⟩
      obtain ⟨z, hz, hr⟩ := unA_sound (P := P) (w := w) hv (he x)
      simp only [execOp, ho]
      exact does_v hz (Post.same hi hr)
    · simp at h
  · -- convert
    rename_i s d x
    split at h
    · rename_i sd k k' v hs hd hx
      refine ⟨_, _, _, h, Nat.le_refl _, fun ρ w ev o ho he hi hf => ?_⟩
      have hpv := he x
      rw [hx] at hpv
      simp only [VR] at hpv
      simp only [execOp, ho, hpv]
      refine does_v (z := .int k (den k (convA k' k v))) (w' := w) ?_ (Post.same hi (by simp only [VR]))
      simp only [convert, Sem.run_bind, run_underlying hs, run_underlying hd, Result.andThen_ok, Conv.intToInt, Sem.run_pure, den_conv]
    · simp at h
  · -- makeInterface
    rename_i t x
    split at h
    · simp at h
    · rename_i d hni hd
      refine ⟨_, _, _, h, Nat.le_refl _, fun ρ w ev o ho he hi hf => ?_⟩
      simp only [execOp, ho]
      refine does_v (z := .iface t (ev x)) (w' := w) ?_ (Post.same hi (by simp only [VR]; exact ⟨_, rfl, he x⟩))
      simp only [Instr.makeInterface, Sem.run_bind, run_underlying hd, Result.andThen_ok]
      cases d <;> first | rfl | exact absurd rfl (hni _)
    · simp at h
  · -- makeFunc
    rename_i f a c
    refine ⟨_, _, _, h, Nat.le_refl _, fun ρ w ev o ho he hi hf => ?_⟩
    simp only [execOp, ho]
    refine does_v (z := .func f (a.map ev) (c.map ev)) (w' := w) (by simp only [Instr.makeFunc, Sem.run_pure]) (Post.same hi ?_)
    simp only [VR]
    refine ⟨_, _, rfl, ?_, ?_⟩
    · rw [Array.toList_map]; exact VRs_map _ _ _ fun x _ => he x
    · rw [Array.toList_map]; exact VRs_map _ _ _ fun x _ => he x
  · -- makeSlice
    rename_i t l c
    obtain ⟨v, e, N', h1, h2, h3⟩ := makeSliceA_sound (H := H) h
    refine ⟨v, e, N', h1, h2, fun ρ w ev o ho he hi hf => ?_⟩
    obtain ⟨z, w', hz, hp⟩ := h3 ρ w _ _ (he l) (he c) hi hf
    simp only [execOp, ho]
    exact does_v hz hp
  · -- slice
    rename_i t x lo hi
    obtain ⟨v, hv, hall⟩ := sliceA_sound h
    refine ⟨_, _, _, hv, Nat.le_refl _, fun ρ w ev o ho he hi' hf => ?_⟩
    have opt : ∀ q : Option Operand, VRo ρ (q.map (evA tm)) (q.map ev) := fun q => by
      cases q with
      | none => exact .inl ⟨rfl, rfl⟩
      | some q => exact .inr ⟨_, _, rfl, rfl, he q⟩
    obtain ⟨z, hz, hr⟩ := hall ρ w (ev x) (lo.map ev) (hi.map ev) (he x) (opt lo) (opt hi)
    simp only [execOp, ho, Option.map_none]
    exact does_v hz (Post.same hi' hr)
  · -- fieldAddr
    rename_i t x f
    split at h
    · rename_i v hv
      refine ⟨_, _, _, h, Nat.le_refl _, fun ρ w ev o ho he hi hf => ?_⟩
      obtain ⟨z, hz, hr⟩ := fieldAddrA_sound (w := w) hv (he x)
      simp only [execOp, ho]
      exact does_v hz (Post.same hi hr)
    · simp at h
  · -- field
    rename_i t x f
    obtain ⟨v, hv, hall⟩ := fieldA_sound h
    refine ⟨_, _, _, hv, Nat.le_refl _, fun ρ w ev o ho he hi hf => ?_⟩
    obtain ⟨z, hz, hr⟩ := hall ρ w (ev x) (he x)
    simp only [execOp, ho]
    exact does_v hz (Post.same hi hr)
  · -- indexAddr
    rename_i t x i
    obtain ⟨v, hv, hall⟩ := indexAddrA_sound h
    refine ⟨_, _, _, hv, Nat.le_refl _, fun ρ w ev o ho he hi hf => ?_⟩
    obtain ⟨z, hz, hr⟩ := hall ρ w (ev x) (ev i) (he x) (he i)
    simp only [execOp, ho]
    exact does_v hz (Post.same hi hr)
  · -- index
    rename_i t x i
    obtain ⟨v, hv, hall⟩ := indexA_sound h
    refine ⟨_, _, _, hv, Nat.le_refl _, fun ρ w ev o ho he hi hf => ?_⟩
    obtain ⟨z, hz, hr⟩ := hall ρ w (ev x) (ev i) (he x) (he i)
    simp only [execOp, ho]
    exact does_v hz (Post.same hi hr)
  · -- extract
    rename_i x i
    split at h
    · rename_i l hl
      split at h
      · rename_i v hv
        refine ⟨_, _, _, h, Nat.le_refl _, fun ρ w ev o ho he hi hf => ?_⟩
        have hpv := he x
        rw [hl] at hpv
        simp only [VR] at hpv
        obtain ⟨a, hx, ha⟩ := hpv
        obtain ⟨y, hy, hr⟩ := VRs_get ha _ _ hv
        simp only [execOp, ho, hx]
        refine does_v (z := y) (w' := w) ?_ (Post.same hi hr)
        simp only [Array.getElem?_toList] at hy
        simp only [Instr.extract, hy, Sem.run_pure]
      · simp at h
    · simp at h
  · -- call
    rename_i c
    obtain ⟨v, e, N', h1, h2, h3⟩ := callA_sound hC h
    refine ⟨v, e, N', h1, h2, fun ρ w ev o ho he hi hf => ?_⟩
    simp only [execOp, ho]
    exact h3 ρ w ev o.type he hi hf
  · simp at h
end
end Go.Sx

/- What the executor answers, the machine answers: code, a function's body. -/
namespace Go.Sx
open Go

section
variable {P : Program} {w : World} {ρ : Env} {R : Type} {r : R}

def Tms (ρ : Env) (nt : Nat) (tm : TM) (a : Act) : Prop := a.tmps.size = nt ∧ ∀ t, VR ρ (tm.get t) (a.tmps.getD t undef)

theorem Tms.mono {ρ' : Env} {nt : Nat} {tm : TM} {a : Act} (h : Tms ρ nt tm a) (hl : ρ.le ρ') : Tms ρ' nt tm a := ⟨h.1, fun t => VR_mono hl _ _ (h.2 t)⟩
theorem Tms.ev {nt : Nat} {tm : TM} {a : Act} (h : Tms ρ nt tm a) (x : Operand) : VR ρ (evA tm x) (a.eval x) := by
  cases x with
  | tmp t => exact h.2 t
  | const v => exact VR_ofV v
  | global g => simp [evA, VR]
  | func f => simp only [evA, Act.eval, VR]; exact ⟨#[], #[], rfl, by simp, by simp⟩
theorem getD_put (tmps : Array Value) (d t : Nat) (x : Value) (hd : d < tmps.size) : (tmps.setIfInBounds d x).getD t undef = if t = d then x else tmps.getD t undef := by
  simp only [Array.getD_eq_getD_getElem?]
  by_cases h : t = d
  · subst h; simp [hd]
  · rw [Array.getElem?_setIfInBounds_ne (by omega)]; simp [h]
theorem Tms.set {nt : Nat} {tm : TM} {a : Act} (h : Tms ρ nt tm a) {d : Nat} (hd : d < nt) {v : AV} {x : Value} (hv : VR ρ v x) : Tms ρ nt (tm.set 12 d v) { a with tmps := a.tmps.setIfInBounds d x } := by
  refine ⟨by simp [h.1], fun t => ?_⟩
  rw [getD_put _ _ _ _ (by rw [h.1]; exact hd)]
  rcases TM_get_set 12 tm d v t with h1 | ⟨h1, h2⟩ | ⟨h1, h2⟩
  · rw [h1]; simp [VR]
  · subst h1; rw [h2]; simpa using hv
  · rw [h2, if_neg h1]; exact h.2 t
/-- What is known of a temporary's value. -/
theorem Tms.know {nt : Nat} {tm : TM} {a : Act} (h : Tms ρ nt tm a) {d : Nat} {v : AV} (hv : VR ρ v (a.tmps.getD d undef)) : Tms ρ nt (tm.set 12 d v) a := by
  refine ⟨h.1, fun t => ?_⟩
  rcases TM_get_set 12 tm d v t with h1 | ⟨h1, h2⟩ | ⟨h1, h2⟩
  · rw [h1]; simp [VR]
  · subst h1; rw [h2]; exact hv
  · rw [h2]; exact h.2 t

theorem putA_sound {nt : Nat} {tm : TM} {d : Option Tmp} {v : AV} {K : TM → Option R} (h : putA nt tm d v K = some r) :
    ∃ tm', K tm' = some r ∧ ∀ (ρ : Env) (a : Act) (x : Value), Tms ρ nt tm a → VR ρ v x → Tms ρ nt tm' (a.put d x) := by
  unfold putA at h
  split at h
  · exact ⟨tm, h, fun ρ a x ht _ => ht⟩
  · rename_i d
    cases hd : Nat.blt d nt with
    | false => rw [hd] at h; simp at h
    | true =>
      rw [hd] at h
      rw [blt_true] at hd
      exact ⟨_, h, fun ρ a x ht hx => ht.set hd hx⟩

theorem does_wp {o : Oper} {a : Act} {next : Act → World → Prop} {Q : Exit → Act → World → Prop} {D : Value → World → Prop} (h : Does P (execOp a.eval o) w D) (hn : ∀ v w', D v w' → next (a.put o.dst v) w') : o.wp P a w next Q := by
  unfold Does at h
  unfold Oper.wp
  generalize (execOp a.eval o).run P w = q at *
  cases q with
  | ok n w' =>
    cases n <;> simp only [Oper.upon] at h ⊢ <;> first
      | exact hn _ _ h
      | exact h.mono fun e w' ⟨v, hv, hh⟩ => by subst hv; exact hn _ _ hh
      | exact h.elim
  | halt x w' => exact h.elim

/-- What an operation of a row must come to. -/
def OpPost (P : Program) (ops : Array Oper) (o : Oper) (ρ : Env) (nt : Nat) (H : Heap) (N : Nat) (w : World) (tm' : TM) (H' : Heap) (N' : Nat) (a : Act) : Prop :=
  ∀ (next : Act → World → Prop) (Q : Exit → Act → World → Prop), (∀ a' w' ρ', Step ρ H N w ρ' H' N' w' → Tms ρ' nt tm' a' → a'.defers = a.defers → next a' w') →
    if Region.wanted o (yielded ops a.tmps) then o.wp P a w next Q else next (a.put o.dst undef) w

theorem put_defers (a : Act) (d : Option Tmp) (v : Value) : (a.put d v).defers = a.defers := by cases d <;> rfl

theorem yielded_some {ops : Array Oper} {a : Act} {j d : Nat} (h : (ops[j]?).bind (·.dst) = some d) {b : Bool} (hv : a.tmps.getD d undef = .bool b) : yielded ops a.tmps j = some b := by
  unfold yielded
  rw [h]
  simp only [Option.bind_some]
  rw [Array.getD_eq_getD_getElem?] at hv
  cases hq : a.tmps[d]? with
  | none => rw [hq] at hv; simp [undef] at hv
  | some x => rw [hq] at hv; simp at hv; subst hv; rfl
theorem yielded_none {ops : Array Oper} {a : Act} {j d : Nat} (h : (ops[j]?).bind (·.dst) = some d) (hv : a.tmps.getD d undef = undef) : yielded ops a.tmps j = none := by
  unfold yielded
  rw [h]
  simp only [Option.bind_some]
  rw [Array.getD_eq_getD_getElem?] at hv
  cases hq : a.tmps[d]? with
  | none => rfl
  | some x => rw [hq] at hv; simp at hv; subst hv; rfl

theorem operA_sound {C : Oracle} (hC : Snd P C) {fl : Fl} {nt : Nat} {ops : Array Oper} {o : Oper} {tm : TM} {H : Heap} {N : Nat} {K : TM → Heap → Nat → Option R} (h : operA P C fl nt ops o tm H N K = some r) :
    ∃ tm' H' N', K tm' H' N' = some r ∧ N ≤ N' ∧ ∀ (ρ : Env) (a : Act) (w : World), Tms ρ nt tm a → Inv ρ H w → Fresh ρ N N' → OpPost P ops o ρ nt H N w tm' H' N' a := by
  have run : ∀ tm0, (opA P C o.op tm0 H N fun v e N' => putA nt tm0 o.dst v fun tm => K tm (H.upd e) N') = some r →
      ∃ tm' H' N', K tm' H' N' = some r ∧ N ≤ N' ∧ ∀ (ρ : Env) (a : Act) (w : World), Tms ρ nt tm0 a → Inv ρ H w → Fresh ρ N N' → Region.wanted o (yielded ops a.tmps) = true → OpPost P ops o ρ nt H N w tm' H' N' a := by
    intro tm0 h
    obtain ⟨v, e, N', hp, hN, hall⟩ := opA_sound hC h
    obtain ⟨tm', hk, hput⟩ := putA_sound hp
    refine ⟨tm', _, _, hk, hN, fun ρ a w ht hi hf hw next Q hn => ?_⟩
    rw [if_pos hw]
    refine does_wp (hall ρ w a.eval o rfl (fun x => ht.ev x) hi hf) ?_
    rintro v' w' ⟨ρ', hst, hv⟩
    exact hn _ _ ρ' hst (hput ρ' a v' (ht.mono (hst.le hf)) hv) (put_defers _ _ _)
  have skip : ∀ tm0, (putA nt tm0 o.dst (.tup []) fun tm => K tm H N) = some r →
      ∃ tm' H' N', K tm' H' N' = some r ∧ N ≤ N' ∧ ∀ (ρ : Env) (a : Act) (w : World), Tms ρ nt tm0 a → Inv ρ H w → Fresh ρ N N' → Region.wanted o (yielded ops a.tmps) = false → OpPost P ops o ρ nt H N w tm' H' N' a := by
    intro tm0 h
    obtain ⟨tm', hk, hput⟩ := putA_sound h
    refine ⟨tm', _, _, hk, Nat.le_refl _, fun ρ a w ht hi hf hw next Q hn => ?_⟩
    rw [if_neg (by simp [hw])]
    exact hn _ _ ρ (Step.refl hi) (hput ρ a undef ht VR_undef) (put_defers _ _ _)
  unfold operA at h
  simp only [opF_eq] at h
  try dsimp only at h
  split at h
  · rename_i hg
    obtain ⟨tm', H', N', h1, h2, h3⟩ := run tm h
    exact ⟨tm', H', N', h1, h2, fun ρ a w ht hi hf => h3 ρ a w ht hi hf (by simp [Region.wanted, hg])⟩
  · rename_i j want hg
    split at h
    · simp at h
    · rename_i d hd
      cases hdn : Nat.blt d nt with
      | false => rw [hdn] at h; simp at h
      | true =>
        rw [hdn] at h
        simp only [cond_true] at h
        split at h
        · rename_i b hb
          have known : ∀ (ρ : Env) (a : Act), Tms ρ nt tm a → a.tmps.getD d undef = .bool b := by
            intro ρ a ht
            have := ht.2 d
            rw [hb] at this
            simpa only [VR] using this
          have tmk : ∀ (ρ : Env) (a : Act), Tms ρ nt tm a → Tms ρ nt (tm.set 12 d (.bool b)) a := fun ρ a ht => ht.know (by rw [known ρ a ht]; simp only [VR])
          have wt : ∀ (ρ : Env) (a : Act), Tms ρ nt tm a → Region.wanted o (yielded ops a.tmps) = (b == want) := by
            intro ρ a ht
            simp only [Region.wanted, hg, yielded_some hd (known ρ a ht)]
            cases b <;> cases want <;> rfl
          cases b <;> cases want <;> simp only [cond_true, cond_false] at h
          · obtain ⟨tm', H', N', h1, h2, h3⟩ := run _ h
            exact ⟨tm', H', N', h1, h2, fun ρ a w ht hi hf => h3 ρ a w (tmk ρ a ht) hi hf (by rw [wt ρ a ht]; rfl)⟩
          · obtain ⟨tm', H', N', h1, h2, h3⟩ := skip _ h
            exact ⟨tm', H', N', h1, h2, fun ρ a w ht hi hf => h3 ρ a w (tmk ρ a ht) hi hf (by rw [wt ρ a ht]; rfl)⟩
          · obtain ⟨tm', H', N', h1, h2, h3⟩ := skip _ h
            exact ⟨tm', H', N', h1, h2, fun ρ a w ht hi hf => h3 ρ a w (tmk ρ a ht) hi hf (by rw [wt ρ a ht]; rfl)⟩
          · obtain ⟨tm', H', N', h1, h2, h3⟩ := run _ h
            exact ⟨tm', H', N', h1, h2, fun ρ a w ht hi hf => h3 ρ a w (tmk ρ a ht) hi hf (by rw [wt ρ a ht]; rfl)⟩
        · rename_i hb
          obtain ⟨tm', H', N', h1, h2, h3⟩ := skip _ h
          refine ⟨tm', H', N', h1, h2, fun ρ a w ht hi hf => h3 ρ a w ht hi hf ?_⟩
          have : a.tmps.getD d undef = undef := by
            have := ht.2 d
            rw [hb] at this
            simp only [VR] at this
            obtain ⟨x, hx, hl⟩ := this
            simp at hl
            rw [hx, hl]; rfl
          simp [Region.wanted, hg, yielded_none hd this]
        · simp at h

/-- What a piece of code must come to. -/
def CodePost (ρ : Env) (nt : Nat) (H : Heap) (N : Nat) (w : World) (tm' : TM) (H' : Heap) (N' : Nat) (a a' : Act) (w' : World) : Prop :=
  ∃ ρ', Step ρ H N w ρ' H' N' w' ∧ Tms ρ' nt tm' a' ∧ a'.defers = a.defers

theorem opsA_sound {C : Oracle} (hC : Snd P C) {fl : Fl} {nt : Nat} {ops : Array Oper} : ∀ {l : List Oper} {i : Nat} {tm : TM} {H : Heap} {N : Nat} {K : TM → Heap → Nat → Option R}, ops.toList.drop i = l → opsA P C fl nt ops l tm H N K = some r →
    ∃ tm' H' N', K tm' H' N' = some r ∧ N ≤ N' ∧ ∀ (ρ : Env) (a : Act) (w : World) (Q : Exit → Act → World → Prop), Tms ρ nt tm a → Inv ρ H w → Fresh ρ N N' →
      (∀ a' w', CodePost ρ nt H N w tm' H' N' a a' w' → Q .normal a' w') → wpOps P ops Q (List.range' i (ops.size - i)) a w
  | [], i, tm, H, N, K, hl, h => by
    refine ⟨tm, H, N, h, Nat.le_refl _, fun ρ a w Q ht hi hf hq => ?_⟩
    have : ops.size - i = 0 := by
      have := congrArg List.length hl
      simpa using this
    rw [this]
    exact hq a w ⟨ρ, Step.refl hi, ht, rfl⟩
  | o :: l, i, tm, H, N, K, hl, h => by
    simp only [opsA, fT_eq, fH_eq] at h
    obtain ⟨tm1, H1, N1, h1, hN1, hop⟩ := operA_sound hC h
    have hlt : i < ops.size := by
      have := congrArg List.length hl
      simp at this; omega
    have hl' : ops.toList.drop (i + 1) = l := by
      rw [← List.drop_drop, hl]; rfl
    have hoi : ops[i]? = some o := by
      have : (ops.toList.drop i)[0]? = some o := by rw [hl]; rfl
      rw [List.getElem?_drop] at this
      simpa using this
    obtain ⟨tm2, H2, N2, h2, hN2, hrest⟩ := opsA_sound hC hl' h1
    refine ⟨tm2, H2, N2, h2, Nat.le_trans hN1 hN2, fun ρ a w Q ht hi hf hq => ?_⟩
    have e : List.range' i (ops.size - i) = i :: List.range' (i + 1) (ops.size - (i + 1)) := by
      rw [show ops.size - i = (ops.size - (i + 1)) + 1 by omega, List.range'_succ]
    rw [e]
    simp only [wpOps, hoi]
    have := hop ρ a w ht hi (hf.sub (Nat.le_refl _) hN2) (wpOps P ops Q (List.range' (i + 1) (ops.size - (i + 1)))) Q (fun a' w' ρ' hst ht' hd => by
      refine hrest ρ' a' w' Q ht' hst.inv (hf.next hst hN1) (fun a'' w'' ⟨ρ'', hst', ht'', hd'⟩ => hq a'' w'' ⟨ρ'', hst.trans hst' hN1 hN2, ht'', hd'.trans hd⟩))
    split at this
    · rename_i hw; rw [if_pos hw]; exact .inl this
    · rename_i hw; rw [if_neg hw]; exact this

def Out.to : Out → Exit
  | .normal => .normal
  | .exit id => .exit id
  | .ret => .ret

/-- The regions that draw their order. -/
def DSnd (P : Program) (nt : Nat) (D : DrawA) : Prop :=
  ∀ (R : Type) (ops : Array Oper) (tm : TM) (H : Heap) (N : Nat) (K : TM → Heap → Nat → Option R) (r : R), D R ops tm H N K = some r →
    ∃ tm' H' N', K tm' H' N' = some r ∧ N ≤ N' ∧ ∀ (ρ : Env) (a : Act) (w : World) (id : Nat), Tms ρ nt tm a → Inv ρ H w → Fresh ρ N N' →
      (Code.region id ops true).wp P (fun e a' w' => e = .normal ∧ CodePost ρ nt H N w tm' H' N' a a' w') a w

/-- No name from N on is given. -/
def FreshI (ρ : Env) (N : Nat) : Prop := ∀ x, N ≤ x → ρ x = none
theorem FreshI.to {ρ : Env} {N N' : Nat} (h : FreshI ρ N) : Fresh ρ N N' := fun x hx _ => h x hx
theorem FreshI.next {ρ ρ1 : Env} {H H1 : Heap} {N N1 : Nat} {w w1 : World} (h : FreshI ρ N) (hs : Step ρ H N w ρ1 H1 N1 w1) (hN : N ≤ N1) : FreshI ρ1 N1 := by
  intro x hx
  rw [hs.ext x (by omega)]
  exact h x (by omega)

/-- What code must come to. -/
def CodeOK (P : Program) (nt : Nat) (c : Code) (tm : TM) (H : Heap) (N : Nat) (o : Out) (tm' : TM) (H' : Heap) (N' : Nat) : Prop :=
  ∀ (ρ : Env) (a : Act) (w : World), Tms ρ nt tm a → Inv ρ H w → FreshI ρ N → c.wp P (fun e a' w' => e = o.to ∧ CodePost ρ nt H N w tm' H' N' a a' w') a w

/-! names in the normal form -/
theorem memB_iff {x : Nat} : ∀ {l : List Nat}, memB x l = true ↔ x ∈ l
  | [] => by simp [memB]
  | y :: l => by simp [memB, memB_iff (l := l), beq_true]
theorem allKept_iff {N : Nat} {live : List Nat} : ∀ {l : List Nat}, allKept N live l = true → ∀ x ∈ l, x < N ∨ x ∈ live
  | [], _, x, h => by simp at h
  | y :: l, hh, x, h => by
    simp only [allKept, Bool.and_eq_true, keptN, Bool.or_eq_true, blt_true, memB_iff] at hh
    rcases List.mem_cons.1 h with rfl | h
    · exact hh.1
    · exact allKept_iff hh.2 x h
theorem aboveB_iff {N : Nat} : ∀ {l : List Nat}, aboveB N l = true → ∀ x ∈ l, N ≤ x
  | [], _, x, h => by simp at h
  | y :: l, hh, x, h => by
    simp only [aboveB, Bool.and_eq_true, ble_true] at hh
    rcases List.mem_cons.1 h with rfl | h
    · exact hh.1
    · exact aboveB_iff hh.2 x h
theorem posN_lt {x : Nat} : ∀ {l : List Nat}, x ∈ l → posN x l < l.length ∧ l[posN x l]? = some x
  | [], h => by simp at h
  | y :: l, h => by
    simp only [posN]
    by_cases hxy : x = y
    · subst hxy; simp
    · rw [beq_false.2 hxy]
      have := posN_lt ((List.mem_cons.1 h).resolve_left hxy)
      simp only [cond_false, List.length_cons]
      exact ⟨by omega, by simpa using this.2⟩
theorem nodupB_pos : ∀ {l : List Nat}, nodupB l = true → ∀ (i : Nat) (x : Nat), l[i]? = some x → posN x l = i
  | [], _, i, x, h => by simp at h
  | y :: l, hh, i, x, h => by
    simp only [nodupB, Bool.and_eq_true, Bool.not_eq_true'] at hh
    simp only [posN]
    cases i with
    | zero => simp at h; subst h; simp
    | succ i =>
      simp at h
      have hxl : x ∈ l := List.mem_of_getElem? h
      by_cases hxy : x = y
      · subst hxy; rw [memB_iff.2 hxl] at hh; simp at hh
      · rw [beq_false.2 hxy]
        simp only [cond_false]
        rw [nodupB_pos hh.2 i x h]

mutual
theorem VR_ren {ρ ρ' : Env} {f : Nat → Nat} : ∀ (v : AV) (x : Value), (∀ n ∈ v.names, ρ' (f n) = ρ n) → VR ρ v x → VR ρ' (v.ren f) x
  | .any, _, _, _ => by simp [AV.ren, VR]
  | .bool _, _, _, hv => by simpa [AV.ren, VR] using hv
  | .int _ _, _, _, hv => by simpa [AV.ren, VR] using hv
  | .ptr p, _, h, hv => by
    simp only [AV.ren, VR] at hv ⊢
    obtain ⟨l, hl, hx⟩ := hv
    exact ⟨l, by rw [h p.x (by simp [AV.names])]; exact hl, hx⟩
  | .nilptr, _, _, hv => by simpa [AV.ren, VR] using hv
  | .slice p es n, _, h, hv => by
    simp only [AV.ren, VR] at hv ⊢
    obtain ⟨l, cap, hl, r⟩ := hv
    exact ⟨l, cap, by rw [h p.x (by simp [AV.names])]; exact hl, r⟩
  | .nilslice, _, _, hv => by simpa [AV.ren, VR] using hv
  | .func _ a c, _, h, hv => by
    simp only [AV.ren, VR] at hv ⊢
    obtain ⟨a', c', hx, ha, hc⟩ := hv
    exact ⟨a', c', hx, VRs_ren a _ (fun n hn => h n (by simp [AV.names, hn])) ha, VRs_ren c _ (fun n hn => h n (by simp [AV.names, hn])) hc⟩
  | .nilfunc, _, _, hv => by simpa [AV.ren, VR] using hv
  | .iface _ v, _, h, hv => by
    simp only [AV.ren, VR] at hv ⊢
    obtain ⟨y, hx, hy⟩ := hv
    exact ⟨y, hx, VR_ren v y (fun n hn => h n (by simpa [AV.names] using hn)) hy⟩
  | .nilface, _, _, hv => by simpa [AV.ren, VR] using hv
  | .agg l, _, h, hv => by
    simp only [AV.ren, VR] at hv ⊢
    obtain ⟨a, hx, ha⟩ := hv
    exact ⟨a, hx, VRs_ren l _ (fun n hn => h n (by simpa [AV.names] using hn)) ha⟩
  | .tup l, _, h, hv => by
    simp only [AV.ren, VR] at hv ⊢
    obtain ⟨a, hx, ha⟩ := hv
    exact ⟨a, hx, VRs_ren l _ (fun n hn => h n (by simpa [AV.names] using hn)) ha⟩
  | .lit _, _, _, hv => by simpa [AV.ren, VR] using hv
theorem VRs_ren {ρ ρ' : Env} {f : Nat → Nat} : ∀ (l : List AV) (ys : List Value), (∀ n ∈ AV.namesL l, ρ' (f n) = ρ n) → VRs ρ l ys → VRs ρ' (AV.renL f l) ys
  | [], _, _, hl => by simpa [AV.renL] using hl
  | v :: l, _, h, hl => by
    obtain ⟨y, r, rfl, hv, hr⟩ := VRs_cons.1 hl
    simp only [AV.renL]
    exact VRs_cons' (VR_ren v y (fun n hn => h n (by simp [AV.namesL, hn])) hv) (VRs_ren l r (fun n hn => h n (by simp [AV.namesL, hn])) hr)
end
theorem coerce_ren (f : Nat → Nat) (c : CK) (v : AV) : (coerce c v).ren f = coerce c v := by cases c <;> simp [coerce, AV.ren]
theorem rowCells_ren (f : Nat → Nat) : ∀ (sh : List CK) (r : List AV), (rowCells sh r).map (AV.ren f) = rowCells sh r
  | [], _ => rfl
  | c :: s, [] => by simp [rowCells, coerce_ren, rowCells_ren f s []]
  | c :: s, v :: r => by simp [rowCells, coerce_ren, rowCells_ren f s r]
theorem arrFlat_ren (f : Nat → Nat) (sh : List CK) : ∀ (n : Nat) (d : List (List AV)), (arrFlat sh n d).map (AV.ren f) = arrFlat sh n d
  | 0, _ => rfl
  | n + 1, [] => by simp [arrFlat, rowCells_ren, arrFlat_ren f sh n []]
  | n + 1, r :: d => by simp [arrFlat, rowCells_ren, arrFlat_ren f sh n d]
theorem flat_ren (f : Nat → Nat) : ∀ (s : List Seg), flat (segRen f s) = (flat s).map (AV.ren f)
  | [] => rfl
  | .cell v :: r => by simp [segRen, flat, flat_ren f r]
  | .arr sh n d :: r => by simp [segRen, flat, flat_ren f r, arrFlat_ren]
theorem coerce_names (c : CK) (v : AV) : (coerce c v).names = [] := by cases c <;> simp [coerce, AV.names]
theorem rowCells_names : ∀ (sh : List CK) (r : List AV), ∀ v ∈ rowCells sh r, v.names = []
  | [], _, v, h => by simp [rowCells] at h
  | c :: s, [], v, h => by
    simp only [rowCells, List.mem_cons] at h
    rcases h with rfl | h
    · exact coerce_names _ _
    · exact rowCells_names s [] v h
  | c :: s, u :: r, v, h => by
    simp only [rowCells, List.mem_cons] at h
    rcases h with rfl | h
    · exact coerce_names _ _
    · exact rowCells_names s r v h
theorem arrFlat_names (sh : List CK) : ∀ (n : Nat) (d : List (List AV)), ∀ v ∈ arrFlat sh n d, v.names = []
  | 0, _, v, h => by simp [arrFlat] at h
  | n + 1, [], v, h => by
    simp only [arrFlat, List.mem_append] at h
    rcases h with h | h
    · exact rowCells_names _ _ v h
    · exact arrFlat_names sh n [] v h
  | n + 1, r :: d, v, h => by
    simp only [arrFlat, List.mem_append] at h
    rcases h with h | h
    · exact rowCells_names _ _ v h
    · exact arrFlat_names sh n d v h
theorem flat_names : ∀ (s : List Seg) (v : AV), v ∈ flat s → ∀ n ∈ v.names, n ∈ segNames s
  | [], v, h, _, _ => by simp [flat] at h
  | .cell u :: r, v, h, n, hn => by
    simp only [flat, List.mem_cons] at h
    simp only [segNames, List.mem_append]
    rcases h with rfl | h
    · exact .inl hn
    · exact .inr (flat_names r v h n hn)
  | .arr sh m d :: r, v, h, n, hn => by
    simp only [flat, List.mem_append] at h
    simp only [segNames]
    rcases h with h | h
    · rw [arrFlat_names sh m d v h] at hn; simp at hn
    · exact flat_names r v h n hn

/-- Places of kept names. -/
def renEnv (ρ0 ρ1 : Env) (N : Nat) (live : List Nat) : Env := fun y => if y < N then ρ1 y else match live[y - N]? with | some x => ρ1 x | none => ρ0 y
theorem renEnv_kept {ρ0 ρ1 : Env} {N : Nat} {live : List Nat} {x : Nat} (h : x < N ∨ x ∈ live) : renEnv ρ0 ρ1 N live (renN N live x) = ρ1 x := by
  unfold renEnv renN
  by_cases hx : x < N
  · rw [blt_true.2 hx]; simp [hx]
  · rw [show Nat.blt x N = false by rw [← Bool.not_eq_true, blt_true]; exact hx]
    simp only [cond_false]
    rw [if_neg (by omega), show N + posN x live - N = posN x live by omega, (posN_lt (h.resolve_left hx)).2]
theorem renN_inj {N : Nat} {live : List Nat} (habove : ∀ x ∈ live, N ≤ x) {x y : Nat} (hx : x < N ∨ x ∈ live) (hy : y < N ∨ y ∈ live) (h : renN N live x = renN N live y) : x = y := by
  unfold renN at h
  have nb : ∀ z, ¬ z < N → Nat.blt z N = false := fun z hz => by rw [← Bool.not_eq_true, blt_true]; exact hz
  by_cases h1 : x < N <;> by_cases h2 : y < N
  · rw [blt_true.2 h1, blt_true.2 h2] at h; exact h
  · rw [blt_true.2 h1, nb y h2] at h; simp at h; omega
  · rw [nb x h1, blt_true.2 h2] at h; simp at h; omega
  · rw [nb x h1, nb y h2] at h
    simp at h
    have p1 := (posN_lt (hx.resolve_left h1)).2
    have p2 := (posN_lt (hy.resolve_left h2)).2
    rw [h, p2] at p1; simpa using p1.symm
theorem keptN_iff {N : Nat} {live : List Nat} {x : Nat} : keptN N live x = true ↔ (x < N ∨ x ∈ live) := by simp [keptN, blt_true, memB_iff]
theorem keptH_find {N : Nat} {live : List Nat} : ∀ {H : Heap} {y : Nat} {b : Blk}, (keptH N live H).find y = some b → ∃ x b0, (x < N ∨ x ∈ live) ∧ renN N live x = y ∧ H.find x = some b0 ∧ b.rw = b0.rw ∧
    (b.segs = [] ∨ b.segs = segRen (renN N live) b0.segs ∧ ∀ n ∈ segNames b0.segs, n < N ∨ n ∈ live)
  | [], y, b, h => by simp [keptH, Heap.find] at h
  | (x, c) :: H, y, b, h => by
    simp only [keptH] at h
    cases hk : keptN N live x with
    | true =>
      rw [hk] at h
      simp only [cond_true, Heap.find] at h
      by_cases hxy : renN N live x = y
      · rw [beq_true.2 hxy] at h
        simp at h; subst h
        refine ⟨x, c, keptN_iff.1 hk, hxy, by simp [Heap.find], rfl, ?_⟩
        cases ha : allKept N live (segNames c.segs) with
        | true => right; simp [ha]; exact allKept_iff ha
        | false => left; simp [ha]
      · rw [beq_false.2 hxy] at h
        obtain ⟨x', b0, h1, h2, h3, h4⟩ := keptH_find h
        refine ⟨x', b0, h1, h2, ?_, h4⟩
        simp only [Heap.find]
        rw [beq_false.2 (by rintro rfl; exact hxy h2)]
        exact h3
    | false =>
      rw [hk] at h
      obtain ⟨x', b0, h1, h2, h3, h4⟩ := keptH_find h
      refine ⟨x', b0, h1, h2, ?_, h4⟩
      simp only [Heap.find]
      rw [beq_false.2 (by
        rintro rfl
        rw [keptN_iff.2 h1] at hk; simp at hk)]
      exact h3

/-- Names brought to the normal form: the same memory. -/
theorem step_norm' {ρs ρ0 ρ1 : Env} {H0 H1 : Heap} {N0 N1 : Nat} {w0 w1 : World} {live : List Nat} (h : Step ρs H0 N0 w0 ρ1 H1 N1 w1) (hs : ∀ x, x < N0 → ρs x = ρ0 x) (hs2 : ρs.le ρ0) :
    Step ρ0 H0 N0 w0 (renEnv ρ0 ρ1 N0 live) (keptH N0 live H1) (N0 + live.length) w1 where
  ext y hy := by
    unfold renEnv
    split
    · rename_i hlt
      rw [h.ext y (by omega)]; exact hs y hlt
    · rw [List.getElem?_eq_none (by omega)]
  os := h.os
  tape := h.tape
  output := h.output
  size := h.size
  block b hb hn := h.block b hb (fun ⟨x, k, l, hx, hl, r⟩ => hn ⟨x, k, l, hx, hs2 _ _ hl, r⟩)
  inv := by
    have blk : ∀ (x : Nat) (b0 b : Blk) (l : Loc), (x < N0 ∨ x ∈ live) → b.rw = b0.rw → (b.segs = [] ∨ b.segs = segRen (renN N0 live) b0.segs ∧ ∀ n ∈ segNames b0.segs, n < N0 ∨ n ∈ live) → BlkRel ρ1 w1 l b0 → BlkRel (renEnv ρ0 ρ1 N0 live) w1 l b := by
      rintro x b0 b l hx hrw hs ⟨c, e, fr, h1, h2, h3, h4⟩
      refine ⟨c, e, fr, h1, by rw [h2, hrw], fun hb => h3 (by rw [← hrw]; exact hb), fun o v hv => ?_⟩
      rcases hs with hs | ⟨hs, hn⟩
      · rw [hs] at hv; simp [flat] at hv
      · rw [hs, flat_ren, List.getElem?_map] at hv
        cases hq : (flat b0.segs)[o]? with
        | none => rw [hq] at hv; simp at hv
        | some u =>
          rw [hq] at hv; simp at hv; subst hv
          obtain ⟨x', hx', hr⟩ := h4 o u hq
          refine ⟨x', hx', VR_ren u x' (fun n hn' => renEnv_kept (hn n (flat_names _ u (List.mem_of_getElem? hq) n hn'))) hr⟩
    constructor
    · intro y b hy
      obtain ⟨x, b0, hx, rfl, hf, hrw, hs⟩ := keptH_find hy
      obtain ⟨l, hl, hb⟩ := h.inv.blk x b0 hf
      exact ⟨l, by rw [renEnv_kept hx]; exact hl, blk x b0 b l hx hrw hs hb⟩
    · intro y z by' bz ly lz hy hz hly hlz hr hb
      obtain ⟨x, b0, hx, rfl, hf, _, _⟩ := keptH_find hy
      obtain ⟨x', b0', hx', rfl, hf', _, _⟩ := keptH_find hz
      rw [renEnv_kept hx] at hly
      rw [renEnv_kept hx'] at hlz
      rw [h.inv.inj x x' b0 b0' ly lz hf hf' hly hlz hr hb]
  prov y k l hy hl := by
    obtain ⟨x, b0, hx, rfl, hf, _, _⟩ := keptH_find hy
    rw [renEnv_kept hx] at hl
    rcases h.prov x b0 l hf hl with ⟨z, kz, lz, hz, hlz, r⟩ | h'
    · exact .inl ⟨z, kz, lz, hz, hs2 _ _ hlz, r⟩
    · exact .inr h'
theorem step_norm {ρ0 ρ1 : Env} {H0 H1 : Heap} {N0 N1 : Nat} {w0 w1 : World} {live : List Nat} (h : Step ρ0 H0 N0 w0 ρ1 H1 N1 w1) :
    Step ρ0 H0 N0 w0 (renEnv ρ0 ρ1 N0 live) (keptH N0 live H1) (N0 + live.length) w1 := step_norm' h (fun _ _ => rfl) (fun _ _ h => h)

theorem keptT_get {N : Nat} {live : List Nat} : ∀ (tm : TM) (t : Nat), (keptT N live tm).get t = keptV N live (tm.get t)
  | .nil, t => by simp [keptT, TM.get, keptV, AV.names, allKept, AV.ren]
  | .node v l r, t => by
    simp only [keptT, TM.get]
    cases Nat.beq t 0 with
    | true => rfl
    | false =>
      cases Nat.beq (Nat.mod t 2) 1 with
      | true => exact keptT_get l _
      | false => exact keptT_get r _
theorem keptV_rel {ρ0 ρ1 : Env} {N : Nat} {live : List Nat} {v : AV} {x : Value} (h : VR ρ1 v x) : VR (renEnv ρ0 ρ1 N live) (keptV N live v) x := by
  unfold keptV
  cases ha : allKept N live v.names with
  | true => exact VR_ren v x (fun n hn => renEnv_kept (allKept_iff ha n hn)) h
  | false => simp [VR]

theorem normA_sound {N0 nt : Nat} {roots : List Nat} {tm : TM} {H : Heap} {K : TM → Heap → Nat → Option R} (h : normA N0 roots tm H K = some r) :
    ∃ tm2 H2 N2, K tm2 H2 N2 = some r ∧ N0 ≤ N2 ∧ ∀ (ρ0 : Env) (H0 : Heap) (w0 : World) (ρ1 : Env) (N1 : Nat) (w1 : World) (a : Act), Step ρ0 H0 N0 w0 ρ1 H N1 w1 → Tms ρ1 nt tm a → ∃ ρ2, Step ρ0 H0 N0 w0 ρ2 H2 N2 w1 ∧ Tms ρ2 nt tm2 a := by
  unfold normA at h
  dsimp only at h
  generalize liveOf N0 H (rootNames tm roots) = live at h
  cases hc : (nodupB live && aboveB N0 live) with
  | false => rw [hc] at h; simp at h
  | true =>
    rw [hc] at h
    simp only [cond_true] at h
    simp only [Bool.and_eq_true] at hc
    refine ⟨_, _, _, h, by omega, fun ρ0 H0 w0 ρ1 N1 w1 a hst ht => ⟨_, step_norm hst, ht.1, fun t => ?_⟩⟩
    rw [keptT_get]
    exact keptV_rel (ht.2 t)

theorem knowA_sound {nt : Nat} {c : Operand} {b : Bool} {tm : TM} {a : Act} (ht : Tms ρ nt tm a) (h : evA tm c = .bool b) : Tms ρ nt (knowA nt c b tm) a := by
  unfold knowA
  split
  · rename_i t
    cases hb : Nat.blt t nt with
    | false => simpa using ht
    | true =>
      simp only [cond_true]
      refine ht.know ?_
      have := ht.2 t
      simp only [evA] at h
      rw [h] at this
      exact this
  · exact ht

/-- What a law of a block must come to. -/
def HSnd (P : Program) (nt : Nat) (c : Code) (h : Handler) : Prop :=
  ∀ (R : Type) (r : R) (tm : TM) (H : Heap) (N : Nat) (K : Out → TM → Heap → Nat → Option R), h R tm H N K = some r → ∃ o tm' H' N', K o tm' H' N' = some r ∧ N ≤ N' ∧ CodeOK P nt c tm H N o tm' H' N'
/-- The blocks, the regions of a name. -/
def subs (id : Nat) : Code → List Code
  | .seq a b => subs id a ++ subs id b
  | .cond _ a b => subs id a ++ subs id b
  | .block i c => bif Nat.beq i id then .block i c :: subs id c else subs id c
  | .region i ops d => bif Nat.beq (Nat.add 1000000 i) id then [.region i ops d] else []
  | .loop c => subs id c
  | .scope c => subs id c
  | _ => []
def LawsOK (P : Program) (nt : Nat) (laws : List (Nat × Handler)) (c : Code) : Prop := ∀ id h, lawOf laws id = some h → ∀ c' ∈ subs id c, HSnd P nt c' h
theorem loopA_sound {C : Oracle} {nt : Nat} {D : DrawA} {F : Cfg} {c : Code}
    (ih : ∀ {R : Type} {r : R} {tm : TM} {H : Heap} {N : Nat} {K : Out → TM → Heap → Nat → Option R}, codeA P C D F nt c tm H N K = some r → ∃ o tm' H' N', K o tm' H' N' = some r ∧ N ≤ N' ∧ CodeOK P nt c tm H N o tm' H' N')
    {R : Type} {r : R} {n0 : Nat} {tm : TM} {H : Heap} {N : Nat} {K : Out → TM → Heap → Nat → Option R} (h : loopA F.fl N F.roots (fun tm H N K => codeA P C D F nt c tm H N K) n0 tm H N K = some r) :
    ∃ o tm' H' N', K o tm' H' N' = some r ∧ N ≤ N' ∧ CodeOK P nt (.loop c) tm H N o tm' H' N' := by
  have key : ∀ (n : Nat) (tm1 : TM) (H1 : Heap) (N1 : Nat), N ≤ N1 → loopA F.fl N F.roots (fun tm H N K => codeA P C D F nt c tm H N K) n tm1 H1 N1 K = some r →
      ∃ o tm' H' N', K o tm' H' N' = some r ∧ N ≤ N' ∧ ∀ (ρ0 : Env) (a0 : Act) (w0 : World) (ρ : Env) (a : Act) (w : World), FreshI ρ0 N → Step ρ0 H N w0 ρ H1 N1 w → Tms ρ nt tm1 a → a.defers = a0.defers →
        Code.rounds P c (fun e a' w' => e = o.to ∧ CodePost ρ0 nt H N w0 tm' H' N' a0 a' w') n a w := by
    intro n
    induction n with
    | zero => intro tm1 H1 N1 hN1 h; simp [loopA] at h
    | succ n ihn =>
      intro tm1 H1 N1 hN1 h
      simp only [loopA, normF_eq] at h
      obtain ⟨o, tm2, H2, N2, h2, hN2, hc2⟩ := ih h
      have other : ∀ (hk : K o tm2 H2 N2 = some r) (ho : o.to ≠ .normal), ∃ o tm' H' N', K o tm' H' N' = some r ∧ N ≤ N' ∧ ∀ (ρ0 : Env) (a0 : Act) (w0 : World) (ρ : Env) (a : Act) (w : World), FreshI ρ0 N → Step ρ0 H N w0 ρ H1 N1 w → Tms ρ nt tm1 a → a.defers = a0.defers →
          Code.rounds P c (fun e a' w' => e = o.to ∧ CodePost ρ0 nt H N w0 tm' H' N' a0 a' w') (n + 1) a w := by
        intro hk ho
        refine ⟨o, tm2, H2, N2, hk, by omega, fun ρ0 a0 w0 ρ a w hf hst ht hd => ?_⟩
        rw [rounds_succ]
        refine wp_mono (hc2 ρ a w ht hst.inv (hf.next hst hN1)) ?_
        rintro e a' w' ⟨rfl, ρ', hst', ht', hd'⟩
        have hp : o.to = o.to ∧ CodePost ρ0 nt H N w0 tm2 H2 N2 a0 a' w' := ⟨rfl, ρ', hst.trans hst' hN1 hN2, ht', hd'.trans hd⟩
        cases o with
        | normal => exact absurd rfl ho
        | exit i => exact hp
        | ret => exact hp
      cases o with
      | normal =>
        obtain ⟨tm3, H3, N3, h3, hN3, hn⟩ := normA_sound (nt := nt) h2
        obtain ⟨o4, tm4, H4, N4, h4, hN4, hr⟩ := ihn tm3 H3 N3 hN3 h3
        refine ⟨o4, tm4, H4, N4, h4, hN4, fun ρ0 a0 w0 ρ a w hf hst ht hd => ?_⟩
        rw [rounds_succ]
        refine wp_mono (hc2 ρ a w ht hst.inv (hf.next hst hN1)) ?_
        rintro e a' w' ⟨rfl, ρ', hst', ht', hd'⟩
        simp only [Out.to, Exit.then]
        obtain ⟨ρ3, hst3, ht3⟩ := hn ρ0 H w0 ρ' N2 w' a' (hst.trans hst' hN1 hN2) ht'
        exact hr ρ0 a0 w0 ρ3 a' w' hf hst3 ht3 (hd'.trans hd)
      | exit i => exact other h2 (by simp [Out.to])
      | ret => exact other h2 (by simp [Out.to])
  obtain ⟨o, tm', H', N', h1, h2, h3⟩ := key n0 tm H N (Nat.le_refl _) h
  exact ⟨o, tm', H', N', h1, h2, fun ρ a w ht hi hf => wp_loop_rounds n0 (h3 ρ a w ρ a w hf (Step.refl hi) ht rfl)⟩
theorem codeA_sound {C : Oracle} (hC : Snd P C) {nt : Nat} {D : DrawA} (hD : DSnd P nt D) {F : Cfg} : ∀ (c : Code) (hH : LawsOK P nt F.laws c) {R : Type} {r : R} {tm : TM} {H : Heap} {N : Nat} {K : Out → TM → Heap → Nat → Option R}, codeA P C D F nt c tm H N K = some r →
    ∃ o tm' H' N', K o tm' H' N' = some r ∧ N ≤ N' ∧ CodeOK P nt c tm H N o tm' H' N' := by
  intro c
  induction c with
  | skip =>
    intro hH R r tm H N K h
    exact ⟨.normal, tm, H, N, h, Nat.le_refl _, fun ρ a w ht hi hf => wp_skip ⟨rfl, ρ, Step.refl hi, ht, rfl⟩⟩
  | label l =>
    intro hH R r tm H N K h
    exact ⟨.normal, tm, H, N, h, Nat.le_refl _, fun ρ a w ht hi hf => wp_label ⟨rfl, ρ, Step.refl hi, ht, rfl⟩⟩
  | exit id =>
    intro hH R r tm H N K h
    exact ⟨.exit id, tm, H, N, h, Nat.le_refl _, fun ρ a w ht hi hf => wp_exit ⟨rfl, ρ, Step.refl hi, ht, rfl⟩⟩
  | ret =>
    intro hH R r tm H N K h
    exact ⟨.ret, tm, H, N, h, Nat.le_refl _, fun ρ a w ht hi hf => wp_ret ⟨rfl, ρ, Step.refl hi, ht, rfl⟩⟩
  | region id ops draw =>
    intro hH R r tm H N K h
    unfold codeA at h
    split at h
    · rename_i hd hlaw
      exact hH _ hd hlaw _ (by simp [subs]) R r tm H N K h
    rename_i hlaw
    clear hlaw
    cases draw with
    | true =>
      simp only [cond_true] at h
      obtain ⟨tm', H', N', h1, h2, h3⟩ := hD R ops tm H N _ r h
      exact ⟨.normal, tm', H', N', h1, h2, fun ρ a w ht hi hf => h3 ρ a w id ht hi hf.to⟩
    | false =>
      simp only [cond_false] at h
      obtain ⟨tm', H', N', h1, h2, h3⟩ := opsA_sound hC (i := 0) rfl h
      refine ⟨.normal, tm', H', N', h1, h2, fun ρ a w ht hi hf => wp_region ?_⟩
      have := h3 ρ a w (fun e a' w' => e = .normal ∧ CodePost ρ nt H N w tm' H' N' a a' w') ht hi hf.to (fun a' w' hp => ⟨rfl, hp⟩)
      simpa [List.range_eq_range', Out.to] using this
  | seq a b iha ihb =>
    intro hH R r tm H N K h
    simp only [codeA] at h
    obtain ⟨o, tm1, H1, N1, h1, hN1, hc1⟩ := iha (fun id h hl c' hc => hH id h hl c' (by simp [subs, hc])) h
    cases o with
    | normal =>
      obtain ⟨o2, tm2, H2, N2, h2, hN2, hc2⟩ := ihb (fun id h hl c' hc => hH id h hl c' (by simp [subs, hc])) h1
      refine ⟨o2, tm2, H2, N2, h2, Nat.le_trans hN1 hN2, fun ρ a w ht hi hf => wp_seq ?_⟩
      refine wp_mono (hc1 ρ a w ht hi hf) ?_
      rintro e a' w' ⟨rfl, ρ', hst, ht', hd⟩
      refine wp_mono (hc2 ρ' a' w' ht' hst.inv (hf.next hst hN1)) ?_
      rintro e a'' w'' ⟨rfl, ρ'', hst', ht'', hd'⟩
      exact ⟨rfl, ρ'', hst.trans hst' hN1 hN2, ht'', hd'.trans hd⟩
    | exit i =>
      refine ⟨_, tm1, H1, N1, h1, hN1, fun ρ a w ht hi hf => wp_seq (wp_mono (hc1 ρ a w ht hi hf) ?_)⟩
      rintro e a' w' ⟨rfl, hp⟩
      exact ⟨rfl, hp⟩
    | ret =>
      refine ⟨_, tm1, H1, N1, h1, hN1, fun ρ a w ht hi hf => wp_seq (wp_mono (hc1 ρ a w ht hi hf) ?_)⟩
      rintro e a' w' ⟨rfl, hp⟩
      exact ⟨rfl, hp⟩
  | cond c x y ihx ihy =>
    intro hH R r tm H N K h
    simp only [codeA] at h
    split at h
    · rename_i v hv
      have hev : ∀ (ρ : Env) (a : Act), Tms ρ nt tm a → a.eval c = .bool v := by
        intro ρ a ht
        have := ht.ev c
        rw [hv] at this
        simpa only [VR] using this
      cases v with
      | true =>
        simp only [cond_true] at h
        obtain ⟨o, tm', H', N', h1, h2, h3⟩ := ihx (fun id h hl c' hc => hH id h hl c' (by simp [subs, hc])) h
        exact ⟨o, tm', H', N', h1, h2, fun ρ a w ht hi hf => wp_cond_true (hev ρ a ht) (h3 ρ a w (knowA_sound ht hv) hi hf)⟩
      | false =>
        simp only [cond_false] at h
        obtain ⟨o, tm', H', N', h1, h2, h3⟩ := ihy (fun id h hl c' hc => hH id h hl c' (by simp [subs, hc])) h
        exact ⟨o, tm', H', N', h1, h2, fun ρ a w ht hi hf => wp_cond_false (hev ρ a ht) (h3 ρ a w (knowA_sound ht hv) hi hf)⟩
    · simp at h
  | block id c ih =>
    intro hH R r tm H N K h
    unfold codeA at h
    split at h
    · rename_i hd hlaw
      exact hH id hd hlaw _ (by simp [subs]) R r tm H N K h
    · rename_i hlaw
      obtain ⟨o, tm1, H1, N1, h1, hN1, hc1⟩ := ih (fun i h hl c' hc => hH i h hl c' (by
          simp only [subs]
          cases Nat.beq id i <;> simp [hc])) h
      cases o with
      | normal =>
        refine ⟨_, tm1, H1, N1, h1, hN1, fun ρ a w ht hi hf => wp_block (wp_mono (hc1 ρ a w ht hi hf) ?_)⟩
        rintro e a' w' ⟨rfl, hp⟩
        exact ⟨rfl, hp⟩
      | ret =>
        refine ⟨_, tm1, H1, N1, h1, hN1, fun ρ a w ht hi hf => wp_block (wp_mono (hc1 ρ a w ht hi hf) ?_)⟩
        rintro e a' w' ⟨rfl, hp⟩
        exact ⟨rfl, hp⟩
      | exit i =>
        by_cases hid : i = id
        · subst hid
          simp only [Nat.beq_refl, cond_true] at h1
          refine ⟨_, tm1, H1, N1, h1, hN1, fun ρ a w ht hi hf => wp_block (wp_mono (hc1 ρ a w ht hi hf) ?_)⟩
          rintro e a' w' ⟨rfl, hp⟩
          simp only [Out.to, Exit.inBlock, if_true]
          exact ⟨trivial, hp⟩
        · have h1' : (bif Nat.beq i id then K Out.normal tm1 H1 N1 else K (Out.exit i) tm1 H1 N1) = some r := h1
          clear h1
          rw [beq_false.2 hid] at h1'
          simp only [cond_false] at h1'
          refine ⟨_, tm1, H1, N1, h1', hN1, fun ρ a w ht hi hf => wp_block (wp_mono (hc1 ρ a w ht hi hf) ?_)⟩
          rintro e a' w' ⟨rfl, hp⟩
          simp only [Out.to, Exit.inBlock, if_neg hid]
          exact ⟨trivial, hp⟩
  | loop c ih =>
    intro hH R r tm H N K h
    simp only [codeA] at h
    exact loopA_sound (ih hH) h
  | scope c ih =>
    intro hH R r tm H N K h
    simp only [codeA] at h
    obtain ⟨o, tm1, H1, N1, h1, hN1, hc1⟩ := ih hH h
    refine ⟨o, tm1, H1, N1, h1, hN1, fun ρ a w ht hi hf => wp_scope_straight (wp_mono (hc1 ρ a w ht hi hf) ?_)⟩
    rintro e a' w' ⟨rfl, hp⟩
    cases o <;> exact ⟨rfl, hp⟩
  | rangeFunc f ps x y ih1 ih2 => intro hH R r tm H N K h; simp [codeA] at h
  | goto l => intro hH R r tm H N K h; simp [codeA] at h
  | refuse y => intro hH R r tm H N K h; simp [codeA] at h
end
end Go.Sx

/- Regions that draw their order: the executor goes through them once, in the order of the text, and sees to it that no other order would answer otherwise. -/
namespace Go.Sx
open Go

/-- Which operations stand ahead of one, by its edges: a number's bits. -/
def ancOf (acc : List Nat) : List Edge → Nat
  | [] => 0
  | e :: r => bif Region.binds .any e then Nat.lor (Nat.lor (2 ^ e.on) (acc.getD e.on 0)) (ancOf acc r) else ancOf acc r
def ancsOf : List Oper → List Nat → List Nat
  | [], acc => acc
  | o :: r, acc => ancsOf r (acc ++ [ancOf acc o.after.toList])
/-- Does no edge say which one comes first? -/
def unord (an : List Nat) (i j : Nat) : Bool := !(Nat.beq i j) && !(Nat.testBit (an.getD j 0) i) && !(Nat.testBit (an.getD i 0) j)

def memN (x : Nat) : List Nat → Bool
  | [] => false
  | y :: l => Nat.beq x y || memN x l
def namesOf : Eff → List Nat
  | [] => []
  | (x, _) :: e => x :: namesOf e

def maskT (an : List Nat) (j : Nat) : List Oper → Nat → TM → TM
  | [], _, tm => tm
  | o :: r, i, tm => maskT an j r (i + 1) (match o.dst with
    | some d => bif unord an i j then tm.set 12 d .any else tm
    | none => tm)
/-- The memory that an operation looks at; none: all. -/
def viewA (op : Op) (tm : TM) : Option (List Nat) :=
  match op with
  | .load _ a | .store _ a _ => match evA tm a with
    | .ptr p => some [p.x]
    | _ => some []
  | .call c => match c.callee with
    | .builtin .append => none
    | .builtin _ => some []
    | _ => none
  | _ => some []
abbrev Recs := List (Nat × List Nat × List Nat)
def hidden (an : List Nat) (j x : Nat) : Recs → Bool
  | [] => false
  | (i, ns, _) :: r => (unord an i j && memN x ns) || hidden an j x r
def inView (x : Nat) : Option (List Nat) → Bool
  | none => true
  | some l => memN x l
def seenH (an : List Nat) (j : Nat) (view : Option (List Nat)) (recs : Recs) : Heap → Heap
  | [] => []
  | (x, b) :: h => bif inView x view && !(hidden an j x recs) then (x, b) :: seenH an j view recs h else seenH an j view recs h
def domH : Heap → List Nat
  | [] => []
  | (x, _) :: h => x :: domH h
def namesOk (F : Heap) (N N' : Nat) : List Nat → Bool
  | [] => true
  | x :: l => ((F.find x).isSome || (Nat.ble N x && Nat.blt x N')) && namesOk F N N' l
def disj : List Nat → List Nat → Bool
  | [], _ => true
  | x :: l, m => !(memN x m) && disj l m
def freeOf (an : List Nat) (j : Nat) (ns : List Nat) : Recs → Bool
  | [] => true
  | (i, _, dom) :: r => (!(unord an i j) || disj ns dom) && freeOf an j ns r
def edgesOk (j : Nat) : List Edge → Bool
  | [] => true
  | e :: r => (!(Region.binds .any e) || Nat.blt e.on j) && edgesOk j r
def dstsOk (an : List Nat) (j : Nat) (d : Option Tmp) : List Oper → Nat → Bool
  | [], _ => true
  | o :: r, i => (!(unord an i j) || match d, o.dst with
    | some x, some y => !(Nat.beq x y)
    | _, _ => true) && dstsOk an j d r (i + 1)

variable {R : Type}

def opE (P : Program) (C : Oracle) (fl : Fl) (nt : Nat) (ops : Array Oper) (o : Oper) (tm : TM) (H : Heap) (N : Nat) (K : Option (Nat × Bool) → AV → Eff → Nat → Option R) : Option R :=
  match o.guard with
  | none => opF P C fl o.op tm H N (K none)
  | some (j, want) => match (ops[j]?).bind (·.dst) with
    | none => none
    | some d => bif Nat.blt d nt then match tm.get d with
      | .bool b => cond b (cond want (opF P C fl o.op (tm.set 12 d (.bool true)) H N (K (some (d, true)))) (K (some (d, true)) (.tup []) [] N))
          (cond want (K (some (d, false)) (.tup []) [] N) (opF P C fl o.op (tm.set 12 d (.bool false)) H N (K (some (d, false)))))
      | .tup [] => K none (.tup []) [] N
      | _ => none
      else none

def learn (g : Option (Nat × Bool)) (tm : TM) : TM := match g with
  | none => tm
  | some (d, b) => tm.set 12 d (.bool b)
def putT (d : Option Tmp) (v : AV) (tm : TM) : TM := match d with
  | none => tm
  | some d => tm.set 12 d v
def okD (nt : Nat) : Option Tmp → Bool
  | none => true
  | some d => Nat.blt d nt

def drawGo (P : Program) (C : Oracle) (fl : Fl) (nt : Nat) (ops : Array Oper) (an : List Nat) : List Oper → Nat → TM → Heap → Nat → Recs → (TM → Heap → Nat → Option R) → Option R
  | [], _, tm, H, N, _, K => K tm H N
  | o :: r, j, tm, H, N, recs, K =>
    bif edgesOk j o.after.toList && okD nt o.dst && dstsOk an j o.dst ops.toList 0 then
      opE P C fl nt ops o (maskT an j ops.toList 0 tm) (seenH an j (viewA o.op (maskT an j ops.toList 0 tm)) recs H) N fun g v e N' =>
        bif namesOk (seenH an j (viewA o.op (maskT an j ops.toList 0 tm)) recs H) N N' (namesOf e) && freeOf an j (namesOf e) recs then
          fT (putT o.dst v (learn g tm)) fun tm1 => fH (H.upd e) fun H1 => drawGo P C fl nt ops an r (j + 1) tm1 H1 N'
            ((j, namesOf e, domH (seenH an j (viewA o.op (maskT an j ops.toList 0 tm)) recs H)) :: recs) K
        else none
    else none

def drawA (P : Program) (fl : Fl) (nt : Nat) (C : Oracle) : DrawA := fun _ ops tm H N K =>
  bif P.follows .mixedOrders then drawGo P C fl nt ops (ancsOf ops.toList []) ops.toList 0 tm H N [] K else none

/-! its laws -/
section
variable {P : Program} {w : World} {ρ : Env} {r : R}

theorem memN_iff {x : Nat} : ∀ {l : List Nat}, memN x l = true ↔ x ∈ l
  | [] => by simp [memN]
  | y :: l => by simp [memN, memN_iff (l := l), beq_true]
theorem namesOf_mem {x : Nat} : ∀ {e : Eff}, x ∈ namesOf e ↔ ∃ b, (x, b) ∈ e
  | [] => by simp [namesOf]
  | (y, b) :: e => by
    simp only [namesOf, List.mem_cons, namesOf_mem (e := e), Prod.mk.injEq]
    constructor
    · rintro (rfl | ⟨c, hc⟩)
      · exact ⟨b, .inl ⟨rfl, rfl⟩⟩
      · exact ⟨c, .inr hc⟩
    · rintro ⟨c, ⟨rfl, rfl⟩ | hc⟩
      · exact .inl rfl
      · exact .inr ⟨c, hc⟩
theorem upd_find_other {x : Nat} : ∀ {e : Eff} {H : Heap}, x ∉ namesOf e → (H.upd e).find x = H.find x
  | [], H, _ => rfl
  | (y, some b) :: e, H, h => by
    simp only [namesOf, List.mem_cons, not_or] at h
    simp only [Heap.upd]
    rw [upd_find_other h.2, find_put, if_neg h.1]
  | (y, none) :: e, H, h => by
    simp only [namesOf, List.mem_cons, not_or] at h
    simp only [Heap.upd]
    rw [upd_find_other h.2, find_del, if_neg h.1]
theorem upd_find_mem {x : Nat} : ∀ {e : Eff} {H H' : Heap}, x ∈ namesOf e → (H.upd e).find x = (H'.upd e).find x
  | [], _, _, h => by simp [namesOf] at h
  | (y, some b) :: e, H, H', h => by
    simp only [Heap.upd]
    by_cases he : x ∈ namesOf e
    · exact upd_find_mem he
    · rw [upd_find_other he, upd_find_other he, find_put, find_put]
      simp only [namesOf, List.mem_cons] at h
      rw [if_pos (h.resolve_right he), if_pos (h.resolve_right he)]
  | (y, none) :: e, H, H', h => by
    simp only [Heap.upd]
    by_cases he : x ∈ namesOf e
    · exact upd_find_mem he
    · rw [upd_find_other he, upd_find_other he, find_del, find_del]
      simp only [namesOf, List.mem_cons] at h
      rw [if_pos (h.resolve_right he), if_pos (h.resolve_right he)]

theorem hidden_false {an : List Nat} {j x : Nat} : ∀ {recs : Recs}, hidden an j x recs = false → ∀ i ns dom, (i, ns, dom) ∈ recs → unord an i j = true → x ∉ ns
  | [], _, _, _, _, h, _ => by simp at h
  | (i', ns', dom') :: r, hh, i, ns, dom, h, hu => by
    simp only [hidden, Bool.or_eq_false_iff, Bool.and_eq_false_iff] at hh
    rcases List.mem_cons.1 h with h | h
    · simp only [Prod.mk.injEq] at h
      obtain ⟨rfl, rfl, rfl⟩ := h
      rcases hh.1 with h1 | h1
      · rw [hu] at h1; simp at h1
      · intro hx; rw [memN_iff.2 hx] at h1; simp at h1
    · exact hidden_false hh.2 i ns dom h hu
theorem seenH_find {an : List Nat} {j : Nat} {view : Option (List Nat)} {recs : Recs} : ∀ {H : Heap} {x : Nat} {b : Blk}, (seenH an j view recs H).find x = some b → H.find x = some b ∧ hidden an j x recs = false
  | [], x, b, h => by simp [seenH, Heap.find] at h
  | (y, c) :: H, x, b, h => by
    simp only [seenH] at h
    cases hc : (inView y view && !(hidden an j y recs)) with
    | true =>
      rw [hc] at h
      simp only [cond_true, Heap.find] at h ⊢
      simp only [Bool.and_eq_true, Bool.not_eq_true'] at hc
      by_cases hy : y = x
      · subst hy
        rw [Nat.beq_refl] at h ⊢
        simp only [cond_true] at h ⊢
        exact ⟨h, hc.2⟩
      · rw [beq_false.2 hy] at h ⊢
        simp only [cond_false] at h ⊢
        exact seenH_find h
    | false =>
      rw [hc] at h
      simp only [cond_false, Heap.find] at h ⊢
      obtain ⟨h1, h2⟩ := seenH_find h
      by_cases hy : y = x
      · subst hy
        -- then the name is not seen at all
        exfalso
        simp only [Bool.and_eq_false_iff, Bool.not_eq_false'] at hc
        rcases hc with hc | hc
        · have : ∀ (H : Heap) (b : Blk), (seenH an j view recs H).find y = some b → inView y view = true := by
            intro H
            induction H with
            | nil => intro b h; simp [seenH, Heap.find] at h
            | cons z H ih =>
              obtain ⟨z, d⟩ := z
              intro b h
              simp only [seenH] at h
              cases hd : (inView z view && !(hidden an j z recs)) with
              | true =>
                rw [hd] at h
                simp only [cond_true, Heap.find] at h
                simp only [Bool.and_eq_true] at hd
                by_cases hz : z = y
                · subst hz; exact hd.1
                · rw [beq_false.2 hz] at h; exact ih b h
              | false => rw [hd] at h; exact ih b h
          rw [this H b h] at hc; simp at hc
        · rw [h2] at hc; simp at hc
      · rw [beq_false.2 hy]; exact ⟨h1, h2⟩
theorem domH_find {H : Heap} {x : Nat} : x ∉ domH H → H.find x = none := by
  induction H with
  | nil => intro _; rfl
  | cons z H ih =>
    obtain ⟨z, b⟩ := z
    intro h
    simp only [domH, List.mem_cons, not_or] at h
    simp only [Heap.find]
    rw [beq_false.2 (Ne.symm h.1)]
    exact ih h.2
theorem namesOk_iff {F : Heap} {N N' : Nat} : ∀ {l : List Nat}, namesOk F N N' l = true → ∀ x ∈ l, F.find x ≠ none ∨ (N ≤ x ∧ x < N')
  | [], _, x, h => by simp at h
  | y :: l, hh, x, h => by
    simp only [namesOk, Bool.and_eq_true, Bool.or_eq_true, ble_true, blt_true] at hh
    rcases List.mem_cons.1 h with rfl | h
    · rcases hh.1 with h1 | h1
      · left; intro hn; rw [hn] at h1; simp at h1
      · exact .inr h1
    · exact namesOk_iff hh.2 x h
theorem disj_iff {m : List Nat} : ∀ {l : List Nat}, disj l m = true → ∀ x ∈ l, x ∉ m
  | [], _, x, h => by simp at h
  | y :: l, hh, x, h => by
    simp only [disj, Bool.and_eq_true, Bool.not_eq_true'] at hh
    rcases List.mem_cons.1 h with rfl | h
    · intro hx; rw [memN_iff.2 hx] at hh; simp at hh
    · exact disj_iff hh.2 x h
theorem freeOf_iff {an : List Nat} {j : Nat} {ns : List Nat} : ∀ {recs : Recs}, freeOf an j ns recs = true → ∀ i ns' dom, (i, ns', dom) ∈ recs → unord an i j = true → ∀ x ∈ ns, x ∉ dom
  | [], _, _, _, _, h, _ => by simp at h
  | (i', n', dom') :: r, hh, i, ns', dom, h, hu => by
    simp only [freeOf, Bool.and_eq_true, Bool.or_eq_true, Bool.not_eq_true'] at hh
    rcases List.mem_cons.1 h with h | h
    · simp only [Prod.mk.injEq] at h
      obtain ⟨rfl, rfl, rfl⟩ := h
      rcases hh.1 with h1 | h1
      · rw [hu] at h1; simp at h1
      · exact disj_iff h1
    · exact freeOf_iff hh.2 i ns' dom h hu
theorem edgesOk_iff {j : Nat} : ∀ {l : List Edge}, edgesOk j l = true → ∀ e ∈ l, Region.binds .any e = true → e.on < j
  | [], _, e, h => by simp at h
  | f :: l, hh, e, h => by
    simp only [edgesOk, Bool.and_eq_true, Bool.or_eq_true, Bool.not_eq_true', blt_true] at hh
    intro hb
    rcases List.mem_cons.1 h with rfl | h
    · rcases hh.1 with h1 | h1
      · rw [hb] at h1; simp at h1
      · exact h1
    · exact edgesOk_iff hh.2 e h hb
theorem dstsOk_iff {an : List Nat} {j : Nat} {d : Tmp} : ∀ {l : List Oper} {i : Nat}, dstsOk an j (some d) l i = true → ∀ k o, l[k]? = some o → unord an (i + k) j = true → o.dst ≠ some d
  | [], _, _, k, o, h, _ => by simp at h
  | o' :: l, i, hh, k, o, h, hu => by
    simp only [dstsOk, Bool.and_eq_true, Bool.or_eq_true, Bool.not_eq_true'] at hh
    cases k with
    | zero =>
      simp at h; subst h
      simp only [Nat.add_zero] at hu
      intro hd
      rcases hh.1 with h1 | h1
      · rw [hu] at h1; simp at h1
      · rw [hd] at h1; simp at h1
    | succ k =>
      exact dstsOk_iff hh.2 k o (by simpa using h) (by rw [show i + 1 + k = i + (k + 1) by omega]; exact hu)
theorem maskT_get {an : List Nat} {j : Nat} : ∀ {l : List Oper} {i : Nat} {tm : TM} (t : Nat), (maskT an j l i tm).get t = .any ∨ ((∀ k o, l[k]? = some o → unord an (i + k) j = true → o.dst ≠ some t) ∧ (maskT an j l i tm).get t = tm.get t)
  | [], i, tm, t => by right; simp [maskT]
  | o :: l, i, tm, t => by
    simp only [maskT]
    have step : ∀ tm' : TM, (tm'.get t = .any ∨ ((unord an i j = true → o.dst ≠ some t) ∧ tm'.get t = tm.get t)) →
        (maskT an j l (i + 1) tm').get t = .any ∨ ((∀ k o', (o :: l)[k]? = some o' → unord an (i + k) j = true → o'.dst ≠ some t) ∧ (maskT an j l (i + 1) tm').get t = tm.get t) := by
      intro tm' h
      rcases maskT_get (l := l) (i := i + 1) (tm := tm') t with h1 | ⟨h1, h2⟩
      · exact .inl h1
      · rcases h with h | ⟨h3, h4⟩
        · left; rw [h2, h]
        · right
          refine ⟨fun k o' hk hu => ?_, by rw [h2, h4]⟩
          cases k with
          | zero => simp at hk; subst hk; exact h3 (by simpa using hu)
          | succ k => exact h1 k o' (by simpa using hk) (by rw [show i + 1 + k = i + (k + 1) by omega]; exact hu)
    apply step
    cases hd : o.dst with
    | none => right; simp
    | some d =>
      simp only
      cases hu : unord an i j with
      | false => right; simp
      | true =>
        simp only [cond_true]
        rcases TM_get_set 12 tm d .any t with h | ⟨h, h'⟩ | ⟨h, h'⟩
        · exact .inl h
        · exact .inl h'
        · exact .inr ⟨fun _ => by simp; exact fun e => h e.symm, h'⟩

theorem testBit_lor (a b i : Nat) : Nat.testBit (Nat.lor a b) i = (Nat.testBit a i || Nat.testBit b i) := Nat.testBit_or a b i
theorem ancOf_spec {acc : List Nat} {i : Nat} : ∀ {l : List Edge}, Nat.testBit (ancOf acc l) i = true → ∃ e ∈ l, Region.binds .any e = true ∧ (i = e.on ∨ Nat.testBit (acc.getD e.on 0) i = true)
  | [], h => by simp [ancOf] at h
  | e :: l, h => by
    simp only [ancOf] at h
    cases hb : Region.binds .any e with
    | true =>
      rw [hb] at h
      simp only [cond_true, testBit_lor, Bool.or_eq_true] at h
      rcases h with (h | h) | h
      · rw [Nat.testBit_two_pow] at h
        exact ⟨e, by simp, hb, .inl (of_decide_eq_true h).symm⟩
      · exact ⟨e, by simp, hb, .inr h⟩
      · obtain ⟨e', he, h'⟩ := ancOf_spec h
        exact ⟨e', by simp [he], h'⟩
    | false =>
      rw [hb] at h
      obtain ⟨e', he, h'⟩ := ancOf_spec h
      exact ⟨e', by simp [he], h'⟩
theorem ancsOf_length : ∀ (l : List Oper) (acc : List Nat), (ancsOf l acc).length = acc.length + l.length
  | [], acc => by simp [ancsOf]
  | o :: l, acc => by simp [ancsOf, ancsOf_length l]; omega
theorem ancsOf_prefix : ∀ (l : List Oper) (acc : List Nat) (i : Nat), i < acc.length → (ancsOf l acc)[i]? = acc[i]?
  | [], acc, i, _ => rfl
  | o :: l, acc, i, h => by
    simp only [ancsOf]
    rw [ancsOf_prefix l _ i (by simp; omega), List.getElem?_append_left h]
theorem ancsOf_get : ∀ (l : List Oper) (acc : List Nat) (k : Nat) (o : Oper), l[k]? = some o → ∃ acc', (∀ i, i < acc.length + k → acc'[i]? = (ancsOf l acc)[i]?) ∧ acc'.length = acc.length + k ∧ (ancsOf l acc)[acc.length + k]? = some (ancOf acc' o.after.toList)
  | [], acc, k, o, h => by simp at h
  | o' :: l, acc, 0, o, h => by
    simp at h; subst h
    refine ⟨acc, fun i hi => ?_, rfl, ?_⟩
    · simp only [ancsOf]; rw [ancsOf_prefix l _ i (by simp; omega), List.getElem?_append_left (by omega)]
    · simp only [ancsOf]; rw [ancsOf_prefix l _ _ (by simp)]; simp
  | o' :: l, acc, k + 1, o, h => by
    obtain ⟨acc', h1, h2, h3⟩ := ancsOf_get l (acc ++ [ancOf acc o'.after.toList]) k o (by simpa using h)
    refine ⟨acc', fun i hi => ?_, by simp at h2; omega, ?_⟩
    · rw [h1 i (by simp; omega)]; rfl
    · simp only [ancsOf]
      rw [← h3]; congr 1; simp; omega
/-- Who stands ahead by edges: an edge's end, or who stands ahead of that. -/
theorem anc_step {ops : List Oper} {j : Nat} {o : Oper} (hj : ops[j]? = some o) (he : edgesOk j o.after.toList = true) {i : Nat} (h : Nat.testBit ((ancsOf ops []).getD j 0) i = true) :
    ∃ e ∈ o.after.toList, Region.binds .any e = true ∧ e.on < j ∧ (i = e.on ∨ Nat.testBit ((ancsOf ops []).getD e.on 0) i = true) := by
  obtain ⟨acc', h1, h2, h3⟩ := ancsOf_get ops [] j o hj
  simp only [List.length_nil, Nat.zero_add] at h1 h2 h3
  rw [List.getD_eq_getElem?_getD, h3] at h
  simp only [Option.getD_some] at h
  obtain ⟨e, hm, hb, hh⟩ := ancOf_spec h
  have hlt := edgesOk_iff he e hm hb
  refine ⟨e, hm, hb, hlt, hh.imp id fun hh => ?_⟩
  rw [List.getD_eq_getElem?_getD] at hh ⊢
  rw [← h1 e.on hlt]; exact hh
theorem anc_lt {ops : List Oper} (hall : ∀ (j : Nat) (o : Oper), ops[j]? = some o → edgesOk j o.after.toList = true) : ∀ (j i : Nat) (o : Oper), ops[j]? = some o → Nat.testBit ((ancsOf ops []).getD j 0) i = true → i < j := by
  intro j
  induction j using Nat.strongRecOn with
  | _ j ih =>
    intro i o hj h
    obtain ⟨e, _, _, hlt, hh⟩ := anc_step hj (hall j o hj) h
    rcases hh with rfl | hh
    · exact hlt
    · have hlen := (List.getElem?_eq_some_iff.1 hj).1
      have := ih e.on hlt i ops[e.on] (List.getElem?_eq_getElem (by omega)) hh
      omega
/-- A set of operations that holds with each one all that its edges lead to holds all that stand ahead of it. -/
theorem anc_in {ops : List Oper} (hall : ∀ (j : Nat) (o : Oper), ops[j]? = some o → edgesOk j o.after.toList = true) {D : Nat → Prop} (hD : ∀ (j : Nat) (o : Oper), ops[j]? = some o → D j → ∀ e ∈ o.after.toList, Region.binds .any e = true → D e.on) :
    ∀ (j i : Nat) (o : Oper), ops[j]? = some o → D j → Nat.testBit ((ancsOf ops []).getD j 0) i = true → D i := by
  intro j
  induction j using Nat.strongRecOn with
  | _ j ih =>
    intro i o hj hd h
    obtain ⟨e, hm, hb, hlt, hh⟩ := anc_step hj (hall j o hj) h
    have hde := hD j o hj hd e hm hb
    rcases hh with rfl | hh
    · exact hde
    · have hlen := (List.getElem?_eq_some_iff.1 hj).1
      exact ih e.on hlt i ops[e.on] (List.getElem?_eq_getElem (by omega)) hde hh
end
end Go.Sx


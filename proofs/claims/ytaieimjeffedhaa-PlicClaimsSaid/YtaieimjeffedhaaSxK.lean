/- What the executor's operations answer, the machine's operations answer: all together; calls by an oracle. -/
import Derived.Test.YtaieimjeffedhaaSxJ
set_option linter.unusedSimpArgs false
set_option linter.unusedVariables false
set_option linter.unnecessarySimpa false
namespace Go.Sx
open Go

/-- What an operation's run comes to. -/
def Does (P : Program) (s : Sem Next) (w : World) (Q : Value → World → Prop) : Prop :=
  match s.run P w with
  | .ok (.value v) w' => Q v w'
  | .ok .skip w' => Q undef w'
  | .ok (.enter f args) w' => Calls P f args w' fun e w'' => ∃ v, e = .returned v ∧ Q v w''
  | _ => False

/-- The oracle tells what calls come to. -/
def Snd (P : Program) (C : Oracle) : Prop :=
  ∀ (R : Type) (g : FuncId) (args : List AV) (H : Heap) (N : Nat) (K : AV → Eff → Nat → Option R) (r : R), C R g args H N K = some r →
    ∃ v e N', K v e N' = some r ∧ N ≤ N' ∧ ∀ (ρ : Env) (w : World) (vs : List Value), VRs ρ args vs → Inv ρ H w → Fresh ρ N N' →
      Does P (callFunc g vs.toArray) w (fun v' w' => Post ρ H N w e N' v v' w')

section
variable {P : Program} {w : World} {ρ : Env} {R : Type} {r : R}

theorem Does.mono {s : Sem Next} {Q Q' : Value → World → Prop} (h : Does P s w Q) (hq : ∀ v w', Q v w' → Q' v w') : Does P s w Q' := by
  unfold Does at *
  generalize s.run P w = q at *
  cases q with
  | ok n w' =>
    cases n <;> simp only at h ⊢ <;> first
      | exact hq _ _ h
      | exact h.mono fun e w' ⟨v, hv, hh⟩ => ⟨v, hv, hq _ _ hh⟩
  | halt x w' => exact h
theorem does_v {s : Sem Value} {z : Value} {w' : World} {Q : Value → World → Prop} (h : s.run P w = .ok z w') (hq : Q z w') : Does P (do pure (.value (← s))) w Q := by
  unfold Does; simp only [Sem.run_bind, h, Result.andThen_ok, Sem.run_pure]; exact hq
theorem does_u {s : Sem Unit} {w' : World} {Q : Value → World → Prop} (h : s.run P w = .ok () w') (hq : Q undef w') : Does P (do s; pure .skip) w Q := by
  unfold Does; simp only [Sem.run_bind, h, Result.andThen_ok, Sem.run_pure]; exact hq
theorem does_bind {α : Type} {s : Sem α} {f : α → Sem Next} {a : α} {w' : World} {Q : Value → World → Prop} (h : s.run P w = .ok a w') (hd : Does P (f a) w' Q) : Does P (s >>= f) w Q := by
  unfold Does at *; simp only [Sem.run_bind, h, Result.andThen_ok]; exact hd

theorem foldA_sound {f : (k : IntKind) → BitVec k.bits → BitVec k.bits → BitVec k.bits} {g : Value → Value → Sem Value} (hfg : ∀ (k : IntKind) (x y : BitVec k.bits), (g (.int k (den k x)) (.int k (den k y))).run P w = .ok (.int k (den k (f k x y))) w) :
    ∀ {l : List AV} {k : IntKind} {x : BitVec k.bits} {v : AV} {ys : List Value}, foldA f k x l = some v → VRs ρ l ys → ∃ z, (ys.foldlM g (.int k (den k x))).run P w = .ok z w ∧ VR ρ v z
  | [], k, x, v, ys, h, hv => by
    simp [foldA] at h; subst h
    simp at hv; subst hv
    exact ⟨_, rfl, by simp only [VR]⟩
  | u :: l, k, x, v, ys, h, hv => by
    cases u <;> simp only [foldA, reduceCtorEq] at h
    rename_i k' y
    split at h
    · rename_i hk; subst hk
      obtain ⟨z, zs, rfl, hz, hzs⟩ := VRs_cons.1 hv
      simp only [VR] at hz; subst hz
      obtain ⟨q, hq, hr⟩ := foldA_sound hfg h hzs
      exact ⟨q, by simp only [List.foldlM_cons, Sem.run_bind, hfg, Result.andThen_ok]; exact hq, hr⟩
    · simp at h

theorem builtinA_sound {b : Builtin} {ts : Array TypeId} {H : Heap} {args : List AV} {N : Nat} {K : AV → Eff → Nat → Option R} (h : builtinA P b ts H args N K = some r) :
    ∃ v e N', K v e N' = some r ∧ N ≤ N' ∧ ∀ (ρ : Env) (w : World) (vs : List Value) (ty : TypeId) (cs : Array Bool), VRs ρ args vs → Inv ρ H w → Fresh ρ N N' →
      Does P (builtin b ts ty cs vs.toArray) w (fun v' w' => Post ρ H N w e N' v v' w') := by
  unfold builtinA at h
  split at h
  · rename_i x
    split at h
    · rename_i t ht
      have key : ∀ (n : Nat), n < 2 ^ 63 → K (.int .i64 (BitVec.ofNat 64 n)) [] N = some r → (∀ (ρ : Env) (w : World) (x' : Value) (ty : TypeId), VR ρ x x' → (Builtin.len_ ts ty #[x']).run P w = .ok (goInt n) w) →
          ∃ v e N', K v e N' = some r ∧ N ≤ N' ∧ ∀ (ρ : Env) (w : World) (vs : List Value) (ty : TypeId) (cs : Array Bool), VRs ρ [x] vs → Inv ρ H w → Fresh ρ N N' →
            Does P (builtin .len ts ty cs vs.toArray) w (fun v' w' => Post ρ H N w e N' v v' w') := by
        intro n hn hk hrun
        refine ⟨_, _, _, hk, Nat.le_refl _, fun ρ w vs ty cs hvs hinv hf => ?_⟩
        obtain ⟨x', rfl, hx⟩ := VRs_one_iff.1 hvs
        refine does_v (hrun ρ w x' ty hx) (Post.same hinv ?_)
        simp only [VR, goInt]
        rw [← den_ofNat hn]
      split at h
      · rename_i e p es n hu
        obtain ⟨v, e', N', h1, h2, h3⟩ : ∃ v e N', K v e N' = some r ∧ N ≤ N' ∧ ∀ (ρ : Env) (w : World) (vs : List Value) (ty : TypeId) (cs : Array Bool), VRs ρ [.slice p es n] vs → Inv ρ H w → Fresh ρ N N' →
            Does P (builtin .len ts ty cs vs.toArray) w (fun v' w' => Post ρ H N w e N' v v' w') := by
          by_cases hn : n < 2 ^ 63
          · exact key n hn h fun ρ w x' ty hx => by
              simp only [VR] at hx
              obtain ⟨l, cap, _, _, _, _, rfl⟩ := hx
              simp [Builtin.len_, ht, run_underlying hu]
          · refine ⟨_, _, _, h, Nat.le_refl _, fun ρ w vs ty cs hvs hinv hf => ?_⟩
            obtain ⟨x', rfl, hx⟩ := VRs_one_iff.1 hvs
            simp only [VR] at hx
            obtain ⟨l, cap, _, _, _, _, rfl⟩ := hx
            omega
        exact ⟨v, e', N', h1, h2, h3⟩
      · rename_i e hu
        exact key 0 (by decide) h fun ρ w x' ty hx => by
          simp only [VR] at hx; subst hx
          simp [Builtin.len_, ht, run_underlying hu]
      · rename_i n e hu
        cases hb : Nat.blt n (2 ^ 62) with
        | false => rw [hb] at h; simp at h
        | true =>
          rw [hb] at h
          rw [blt_true] at hb
          exact key n (by omega) h fun ρ w x' ty hx => by simp [Builtin.len_, ht, run_underlying hu]
      · rename_i a hu
        split at h
        · rename_i n e hu2
          cases hb : Nat.blt n (2 ^ 62) with
          | false => rw [hb] at h; simp at h
          | true =>
            rw [hb] at h
            rw [blt_true] at hb
            exact key n (by omega) h fun ρ w x' ty hx => by simp [Builtin.len_, ht, run_underlying hu, run_underlying hu2]
        · simp at h
      · simp at h
    · simp at h
  · rename_i s x
    split at h
    · rename_i t u ht hu
      split at h
      · rename_i e hue
        obtain ⟨v, e', N', h1, h2, h3⟩ := appendA_sound (ty := 0) ht hu hue (by simp) h
        refine ⟨v, e', N', h1, h2, fun ρ w vs ty cs hvs hinv hf => ?_⟩
        obtain ⟨s', zs, rfl, hs, hzs⟩ := VRs_cons.1 hvs
        obtain ⟨x', rfl, hx⟩ := VRs_one_iff.1 hzs
        obtain ⟨z, w', hrun, hp⟩ := h3 ρ w s' x' hs hx hinv hf
        exact does_v (show (Builtin.append_ ts ty #[s', x']).run P w = .ok z w' from hrun) hp
      · simp at h
    · simp at h
  · rename_i k x l
    split at h
    · rename_i v hv
      refine ⟨_, _, _, h, Nat.le_refl _, fun ρ w vs ty cs hvs hinv hf => ?_⟩
      obtain ⟨x', zs, rfl, hx, hzs⟩ := VRs_cons.1 hvs
      simp only [VR] at hx; subst hx
      obtain ⟨z, hz, hr⟩ := foldA_sound (P := P) (w := w) (g := Builtin.min2) (fun k x y => by simp only [Builtin.min2, Sem.run_pure]; rw [den_min]) hv hzs
      exact does_v (z := z) (w' := w) (by simp only [Builtin.min_]; exact hz) (Post.same hinv hr)
    · simp at h
  · rename_i k x l
    split at h
    · rename_i v hv
      refine ⟨_, _, _, h, Nat.le_refl _, fun ρ w vs ty cs hvs hinv hf => ?_⟩
      obtain ⟨x', zs, rfl, hx, hzs⟩ := VRs_cons.1 hvs
      simp only [VR] at hx; subst hx
      obtain ⟨z, hz, hr⟩ := foldA_sound (P := P) (w := w) (g := Builtin.max2) (fun k x y => by simp only [Builtin.max2, Sem.run_pure, gt_iff_lt]; rw [den_max]) hv hzs
      exact does_v (z := z) (w' := w) (by simp only [Builtin.max_]; exact hz) (Post.same hinv hr)
    · simp at h
  · simp at h

theorem methodA_sound : ∀ (d D : Nat) (t : TypeId) (v : AV) (name : String) (g : FuncId) (x : AV) (v' : Value), d ≤ D → methodA P d t v name = some (g, x) → VR ρ v v' → ∃ x', (method D t v' name).run P w = .ok (g, x') w ∧ VR ρ x x'
  | 0, _, _, _, _, _, _, _, _, h, _ => by simp [methodA] at h
  | d + 1, 0, _, _, _, _, _, _, hd, _, _ => by omega
  | d + 1, D + 1, t, v, name, g, x, v', hd, h, hv => by
    simp only [methodA] at h
    split at h
    · simp at h
    · rename_i i hi
      split at h
      · simp at h
      · rename_i m hm
        split at h
        · rename_i f hfn hpath
          split at h
          · rename_i p hu
            simp at h; obtain ⟨rfl, rfl⟩ := h
            refine ⟨v', ?_, hv⟩
            simp [method, run_typeInfo hi, hm, hpath, follow, hfn, receiverAt, run_underlying hu, Place.get]
          · simp at h
        · rename_i s hfn hpath
          cases hdr : s.deref with
          | true => rw [hdr] at h; simp at h
          | false =>
            rw [hdr] at h
            simp only [cond_false] at h
            split at h
            · rename_i fs cs hu
              split at h
              · rename_i f hf
                split at h
                · rename_i t' u ha hc
                  simp only [VR] at hv
                  obtain ⟨a, rfl, hva⟩ := hv
                  obtain ⟨y, hy, hry⟩ := VRs_get hva _ _ hc
                  simp only [Array.getElem?_toList] at hy
                  simp only [VR] at hry
                  obtain ⟨z, rfl, hz⟩ := hry
                  obtain ⟨x', hx', hr⟩ := methodA_sound d D t' u name g x z (by omega) h hz
                  refine ⟨x', ?_, hr⟩
                  simp [method, run_typeInfo hi, hm, hpath, follow, hfn, hdr, run_underlying hu, hf, run_part_cell ha hy, Place.get, hx']
                · simp at h
              · simp at h
            · simp at h
        · simp at h

theorem callA_sound {C : Oracle} (hC : Snd P C) {c : Call} {ev : Operand → AV} {H : Heap} {N : Nat} {K : AV → Eff → Nat → Option R} (h : callA P C c ev H N K = some r) :
    ∃ v e N', K v e N' = some r ∧ N ≤ N' ∧ ∀ (ρ : Env) (w : World) (ev' : Operand → Value) (ty : TypeId), (∀ x, VR ρ (ev x) (ev' x)) → Inv ρ H w → Fresh ρ N N' →
      Does P (do let d ← resolve ev' c ty; invoke d.target d.args) w (fun v' w' => Post ρ H N w e N' v v' w') := by
  have hargs : ∀ (ρ : Env) (ev' : Operand → Value), (∀ x, VR ρ (ev x) (ev' x)) → VRs ρ (c.args.toList.map ev) (c.args.toList.map ev') := fun ρ ev' he => VRs_map ev ev' _ fun x _ => he x
  unfold callA at h
  split at h
  · rename_i b hcal
    obtain ⟨v, e, N', h1, h2, h3⟩ := builtinA_sound h
    refine ⟨v, e, N', h1, h2, fun ρ w ev' ty he hinv hf => ?_⟩
    refine does_bind (a := { target := .builtin b c.argTypes ty (c.args.map fun | .const _ => true | _ => false), args := c.args.map ev' }) (w' := w) (by simp only [resolve, hcal, Sem.run_pure]; rfl) ?_
    have := h3 ρ w _ ty (c.args.map fun | .const _ => true | _ => false) (hargs ρ ev' he) hinv hf
    have e1 : (c.args.toList.map ev').toArray = c.args.map ev' := by apply Array.ext'; simp
    rw [e1] at this
    exact this
  · rename_i f hcal
    split at h
    · rename_i g a cs hf'
      obtain ⟨v, e, N', h1, h2, h3⟩ := hC R g _ H N K r h
      refine ⟨v, e, N', h1, h2, fun ρ w ev' ty he hinv hf => ?_⟩
      have hfv := he f
      rw [hf'] at hfv
      simp only [VR] at hfv
      obtain ⟨a', c', hx, ha, hc'⟩ := hfv
      refine does_bind (a := { target := .fn (.func g) c', args := a' ++ c.args.map ev' }) (w' := w) (by simp only [resolve, hcal, hx, Deferred.ofValue, Sem.run_pure]) ?_
      have := h3 ρ w _ (VRs_append ha (VRs_append (hargs ρ ev' he) hc')) hinv hf
      have e1 : (a'.toList ++ (c.args.toList.map ev' ++ c'.toList)).toArray = a' ++ c.args.map ev' ++ c' := by
        apply Array.ext'; simp
      rw [e1] at this
      exact this
    · simp at h
  · rename_i rcv name hcal
    split at h
    · rename_i t u hrv
      split at h
      · rename_i g x hm
        obtain ⟨v, e, N', h1, h2, h3⟩ := hC R g _ H N K r h
        refine ⟨v, e, N', h1, h2, fun ρ w ev' ty he hinv hf => ?_⟩
        have hfv := he rcv
        rw [hrv] at hfv
        simp only [VR] at hfv
        obtain ⟨y, hy, hry⟩ := hfv
        refine does_bind (a := { target := .fn (.method name) #[], args := #[ev' rcv] ++ c.args.map ev' }) (w' := w) (by simp only [resolve, hcal, Sem.run_pure]) ?_
        obtain ⟨x', hx', hr⟩ := methodA_sound (P := P) (w := w) 8 (P.types.size + Made.depth) t u name g x y (Nat.le_trans (by decide : 8 ≤ Made.depth) (Nat.le_add_left _ _)) hm hry
        have := h3 ρ w _ (VRs_cons' hr (hargs ρ ev' he)) hinv hf
        have e1 : invoke (.fn (.method name) #[]) (#[ev' rcv] ++ c.args.map ev') = callMethod (ev' rcv) name (c.args.map ev') := by
          simp only [invoke]
          have : (#[ev' rcv] ++ c.args.map ev')[0]? = some (ev' rcv) := by rw [Array.getElem?_append_left (by simp)]; rfl
          rw [this]
          show callMethod (ev' rcv) name ((#[ev' rcv] ++ c.args.map ev').extract 1 _) = _
          congr 1
          apply Array.ext'
          simp [List.take_of_length_le]
        show Does P (invoke (.fn (.method name) #[]) (#[ev' rcv] ++ c.args.map ev')) w _
        rw [e1, hy]
        simp only [callMethod]
        refine does_bind (a := P) (w' := w) rfl ?_
        refine does_bind (a := (g, x')) (w' := w) hx' ?_
        have e2 : (x' :: c.args.toList.map ev').toArray = #[x'] ++ c.args.map ev' := by
          apply Array.ext'; simp
        rw [e2] at this
        exact this
      · simp at h
    · simp at h
end
end Go.Sx

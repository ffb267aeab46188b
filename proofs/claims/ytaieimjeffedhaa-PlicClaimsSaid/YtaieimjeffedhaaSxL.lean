/- What the executor's operations answer, the machine's operations answer: one operation; a row of operations. -/
import Derived.Test.YtaieimjeffedhaaSxK
set_option linter.unusedSimpArgs false
set_option linter.unusedVariables false
set_option linter.unnecessarySimpa false
namespace Go.Sx
open Go

section
variable {P : Program} {w : World} {ρ : Env} {R : Type} {r : R}

theorem VR_undef : VR ρ (.tup []) undef := by simp only [VR]; exact ⟨#[], rfl, by simp⟩

theorem opA_sound {C : Oracle} (hC : Snd P C) {op : Op} {tm : TM} {H : Heap} {N : Nat} {K : AV → Eff → Nat → Option R} (h : opA P C op tm H N K = some r) :
    ∃ v e N', K v e N' = some r ∧ N ≤ N' ∧ ∀ (ρ : Env) (w : World) (ev : Operand → Value) (o : Oper), o.op = op → (∀ x, VR ρ (evA tm x) (ev x)) → Inv ρ H w → Fresh ρ N N' →
      Does P (execOp ev o) w (fun v' w' => Post ρ H N w e N' v v' w') := by
  unfold opA at h
  split at h
  · -- move
    refine ⟨_, _, _, h, Nat.le_refl _, fun ρ w ev o ho he hi hf => ?_⟩
    unfold Does; simp only [execOp, ho, Sem.run_pure]
    exact Post.same hi (he _)
  · -- assign
    refine ⟨_, _, _, h, Nat.le_refl _, fun ρ w ev o ho he hi hf => ?_⟩
    unfold Does; simp only [execOp, ho, Sem.run_pure]
    exact Post.same hi (he _)
  · -- pick
    rename_i c a b
    split at h
    · rename_i u hu
      have hb : ∀ (ρ : Env) (ev : Operand → Value), (∀ x, VR ρ (evA tm x) (ev x)) → ev c = .bool u := by
        intro ρ ev he
        have := he c; rw [hu] at this; simpa only [VR] using this
      split at h
      · rename_i x y hx hy
        refine ⟨_, _, _, h, Nat.le_refl _, fun ρ w ev o ho he hi hf => ?_⟩
        unfold Does; simp only [execOp, ho, hb ρ ev he, asBool, pure_bind, Sem.run_pure]
        refine Post.same hi ?_
        have h1 := he a
        have h2 := he b
        rw [hx] at h1; rw [hy] at h2
        cases u <;> simp <;> assumption
      · cases u with
        | true =>
          simp only [cond_true] at h
          refine ⟨_, _, _, h, Nat.le_refl _, fun ρ w ev o ho he hi hf => ?_⟩
          unfold Does; simp only [execOp, ho, hb ρ ev he, asBool, pure_bind, Sem.run_pure]
          exact Post.same hi (he _)
        | false =>
          simp only [cond_false] at h
          refine ⟨_, _, _, h, Nat.le_refl _, fun ρ w ev o ho he hi hf => ?_⟩
          unfold Does; simp only [execOp, ho, hb ρ ev he, asBool, pure_bind, Sem.run_pure]
          exact Post.same hi (he _)
    · simp at h
  · -- alloc
    rename_i t
    split at h
    · rename_i z hz
      obtain ⟨v, e, N', h1, h2, hc, h3⟩ := newA_sound h
      refine ⟨v, e, N', h1, h2, fun ρ w ev o ho he hi hf => ?_⟩
      obtain ⟨zv, hzv, hzr⟩ := zeroA_sound (w := w) (ρ := ρ) hz hc
      obtain ⟨q, w', hq, hp⟩ := h3 ρ w zv hzr hi hf
      simp only [execOp, ho]
      exact does_v (z := .pointer (some q)) (w' := w') (by simp [Instr.alloc, hzv, hq]) hp
    · simp at h
  · -- box
    rename_i t x
    obtain ⟨v, e, N', h1, h2, hc, h3⟩ := newA_sound h
    refine ⟨v, e, N', h1, h2, fun ρ w ev o ho he hi hf => ?_⟩
    obtain ⟨q, w', hq, hp⟩ := h3 ρ w (ev x) (VRs_cellsOf (he x) hc) hi hf
    simp only [execOp, ho]
    exact does_v (z := .pointer (some q)) (w' := w') (by simp [Instr.box, hq]) hp
  · -- build
    rename_i t ps
    split at h
    · rename_i v hv
      refine ⟨_, _, _, h, Nat.le_refl _, fun ρ w ev o ho he hi hf => ?_⟩
      obtain ⟨z, hz, hr⟩ := buildA_sound (P := P) (w := w) (ρ := ρ) hv (ps := ps.map fun (i, x) => (i, ev x)) (by simp [List.map_map]) (by
        intro i v x hv hx
        simp only [List.getElem?_map, Array.toList_map] at hv hx
        cases hq : ps.toList[i]? with
        | none => simp [hq] at hv
        | some p => simp [hq] at hv hx; subst hv; subst hx; exact he p.2)
      simp only [execOp, ho]
      exact does_v hz (Post.same hi hr)
    · simp at h
  · -- buildSlice
    rename_i t n ps
    obtain ⟨v, e, N', h1, h2, h3⟩ := buildSliceA_sound (H := H) h
    refine ⟨v, e, N', h1, h2, fun ρ w ev o ho he hi hf => ?_⟩
    obtain ⟨z, w', hz, hp⟩ := h3 ρ w (ps.map fun (i, x) => (i, ev x)) (by simp [List.map_map]) (by
        intro i v x hv hx
        simp only [List.getElem?_map, Array.toList_map] at hv hx
        cases hq : ps.toList[i]? with
        | none => simp [hq] at hv
        | some p => simp [hq] at hv hx; subst hv; subst hx; exact he p.2) hi hf
    simp only [execOp, ho]
    exact does_v hz hp
  · -- load
    rename_i t a
    split at h
    · rename_i p n hp hn
      obtain ⟨cs, hk, hcs, b, hb, hsl⟩ := loadA_spec h
      have key : ∀ (ρ : Env) (w : World), Inv ρ H w → ∃ v, K v [] N = some r ∧ ∃ l y, ρ p.x = some l ∧ (loadVar t (l.addr p.pos)).run P w = .ok y w ∧ VR ρ v y := by
        intro ρ w hi
        obtain ⟨l, ys, hl, hv, hc⟩ := hi.cells hb hsl hcs
        obtain ⟨v, hv1, y, hy, hr⟩ := run_loadVar (P := P) hn hcs hv hc hk
        exact ⟨v, hv1, l, y, hl, hy, hr⟩
      -- the value does not hang on the world
      unfold aggOr at hk
      split at hk
      · rename_i ha
        refine ⟨_, _, _, hk, Nat.le_refl _, fun ρ w ev o ho he hi hf => ?_⟩
        obtain ⟨l, ys, hl, hv, hc⟩ := hi.cells hb hsl hcs
        obtain ⟨v, hv1, y, hy, hr⟩ := run_loadVar (P := P) (K := fun v => if True then some v else none) (r := .agg cs) hn hcs hv hc (by unfold aggOr; rw [ha]; simp)
        simp at hv1; subst hv1
        have hpv := he a
        rw [hp] at hpv
        simp only [VR] at hpv
        obtain ⟨l', hl', hpv⟩ := hpv
        rw [hl] at hl'; simp at hl'; subst hl'
        simp only [execOp, ho]
        exact does_v (by rw [hpv]; simp only [Instr.loadAt, Instr.sureAddr, pure_bind]; exact hy) (Post.same hi hr)
      · rename_i ha
        split at hk
        · rename_i v0
          refine ⟨_, _, _, hk, Nat.le_refl _, fun ρ w ev o ho he hi hf => ?_⟩
          obtain ⟨l, ys, hl, hv, hc⟩ := hi.cells hb hsl hcs
          obtain ⟨v, hv1, y, hy, hr⟩ := run_loadVar (P := P) (K := fun v => if True then some v else none) (r := v0) hn hcs hv hc (by unfold aggOr; rw [ha]; simp)
          simp at hv1; subst hv1
          have hpv := he a
          rw [hp] at hpv
          simp only [VR] at hpv
          obtain ⟨l', hl', hpv⟩ := hpv
          rw [hl] at hl'; simp at hl'; subst hl'
          simp only [execOp, ho]
          exact does_v (by rw [hpv]; simp only [Instr.loadAt, Instr.sureAddr, pure_bind]; exact hy) (Post.same hi hr)
        · simp at hk
      · simp at hk
    · simp at h
  · -- store
    rename_i t a x
    split at h
    · rename_i p n hp hn
      have h' : (bif Nat.beq (cellsOf (evA tm x)).length n then storeA H p (cellsOf (evA tm x)) fun b => K (.tup []) [(p.x, some b)] N else none) = some r := h
      clear h
      cases hc : Nat.beq (cellsOf (evA tm x)).length n with
      | false => rw [hc] at h'; simp at h'
      | true =>
        rw [hc] at h'
        simp only [cond_true] at h'
        rw [beq_true] at hc
        obtain ⟨b', hk, hcells, h3⟩ := storeA_sound (P := P) (N := N) (t := t) h'
        refine ⟨_, _, _, hk, Nat.le_refl _, fun ρ w ev o ho he hi hf => ?_⟩
        obtain ⟨l, w', hl, hrun, hst⟩ := h3 ρ w (ev x) (VRs_cellsOf (he x) hcells) hi (by rw [hc]; exact hn)
        have hpv := he a
        rw [hp] at hpv
        simp only [VR] at hpv
        obtain ⟨l', hl', hpv⟩ := hpv
        rw [hl] at hl'; simp at hl'; subst hl'
        simp only [execOp, ho]
        exact does_u (by rw [hpv]; simp only [Instr.storeAt, Instr.sureAddr, pure_bind]; exact hrun) ⟨ρ, hst, VR_undef⟩
    · simp at h
  · -- nilCheck
    rename_i x
    split at h
    · rename_i p hp
      refine ⟨_, _, _, h, Nat.le_refl _, fun ρ w ev o ho he hi hf => ?_⟩
      have hpv := he x
      rw [hp] at hpv
      have hpv0 := hpv
      simp only [VR] at hpv
      obtain ⟨l, hl, hx⟩ := hpv
      unfold Does; simp only [execOp, ho, hx, Sem.run_pure]
      rw [← hx]
      exact Post.same hi hpv0
    · rename_i f a c hp
      refine ⟨_, _, _, h, Nat.le_refl _, fun ρ w ev o ho he hi hf => ?_⟩
      have hpv := he x
      rw [hp] at hpv
      have hpv0 := hpv
      simp only [VR] at hpv
      obtain ⟨a', c', hx, _, _⟩ := hpv
      unfold Does; simp only [execOp, ho, hx, Sem.run_pure]
      rw [← hx]
      exact Post.same hi hpv0
    · simp at h
  · -- binOp
    rename_i op t x y yt
    obtain ⟨v, hv, hall⟩ := binA_sound h
    refine ⟨_, _, _, hv, Nat.le_refl _, fun ρ w ev o ho he hi hf => ?_⟩
    obtain ⟨z, hz1, hz2, hr⟩ := hall ρ w (ev x) (ev y) x y (he x) (he y)
    simp only [execOp, ho]
    exact does_v (by simp only [Sem.run_bind, hz1, Result.andThen_ok]; exact hz2) (Post.same hi hr)
  · -- unOp
    rename_i op t x
    split at h
    · rename_i v hv
      refine ⟨_, _, _, h, Nat.le_refl _, fun ρ w ev o ho he hi hf => ?_⟩
      obtain ⟨z, hz, hr⟩ := unA_sound (P := P) (w := w) hv (he x)
      simp only [execOp, ho]
      exact does_v hz (Post.same hi hr)
    · simp at h
  · -- convert
    rename_i s d x
    split at h
    · rename_i sd k k' v hs hd hx
      refine ⟨_, _, _, h, Nat.le_refl _, fun ρ w ev o ho he hi hf => ?_⟩
      have hpv := he x
      rw [hx] at hpv
      simp only [VR] at hpv
      simp only [execOp, ho, hpv]
      refine does_v (z := .int k (den k (convA k' k v))) (w' := w) ?_ (Post.same hi (by simp only [VR]))
      simp only [convert, Sem.run_bind, run_underlying hs, run_underlying hd, Result.andThen_ok, Conv.intToInt, Sem.run_pure, den_conv]
    · simp at h
  · -- makeInterface
    rename_i t x
    split at h
    · simp at h
    · rename_i d hni hd
      refine ⟨_, _, _, h, Nat.le_refl _, fun ρ w ev o ho he hi hf => ?_⟩
      simp only [execOp, ho]
      refine does_v (z := .iface t (ev x)) (w' := w) ?_ (Post.same hi (by simp only [VR]; exact ⟨_, rfl, he x⟩))
      simp only [Instr.makeInterface, Sem.run_bind, run_underlying hd, Result.andThen_ok]
      cases d <;> first | rfl | exact absurd rfl (hni _)
    · simp at h
  · -- makeFunc
    rename_i f a c
    refine ⟨_, _, _, h, Nat.le_refl _, fun ρ w ev o ho he hi hf => ?_⟩
    simp only [execOp, ho]
    refine does_v (z := .func f (a.map ev) (c.map ev)) (w' := w) (by simp only [Instr.makeFunc, Sem.run_pure]) (Post.same hi ?_)
    simp only [VR]
    refine ⟨_, _, rfl, ?_, ?_⟩
    · rw [Array.toList_map]; exact VRs_map _ _ _ fun x _ => he x
    · rw [Array.toList_map]; exact VRs_map _ _ _ fun x _ => he x
  · -- makeSlice
    rename_i t l c
    obtain ⟨v, e, N', h1, h2, h3⟩ := makeSliceA_sound (H := H) h
    refine ⟨v, e, N', h1, h2, fun ρ w ev o ho he hi hf => ?_⟩
    obtain ⟨z, w', hz, hp⟩ := h3 ρ w _ _ (he l) (he c) hi hf
    simp only [execOp, ho]
    exact does_v hz hp
  · -- slice
    rename_i t x lo hi
    obtain ⟨v, hv, hall⟩ := sliceA_sound h
    refine ⟨_, _, _, hv, Nat.le_refl _, fun ρ w ev o ho he hi' hf => ?_⟩
    have opt : ∀ q : Option Operand, VRo ρ (q.map (evA tm)) (q.map ev) := fun q => by
      cases q with
      | none => exact .inl ⟨rfl, rfl⟩
      | some q => exact .inr ⟨_, _, rfl, rfl, he q⟩
    obtain ⟨z, hz, hr⟩ := hall ρ w (ev x) (lo.map ev) (hi.map ev) (he x) (opt lo) (opt hi)
    simp only [execOp, ho, Option.map_none]
    exact does_v hz (Post.same hi' hr)
  · -- fieldAddr
    rename_i t x f
    split at h
    · rename_i v hv
      refine ⟨_, _, _, h, Nat.le_refl _, fun ρ w ev o ho he hi hf => ?_⟩
      obtain ⟨z, hz, hr⟩ := fieldAddrA_sound (w := w) hv (he x)
      simp only [execOp, ho]
      exact does_v hz (Post.same hi hr)
    · simp at h
  · -- field
    rename_i t x f
    obtain ⟨v, hv, hall⟩ := fieldA_sound h
    refine ⟨_, _, _, hv, Nat.le_refl _, fun ρ w ev o ho he hi hf => ?_⟩
    obtain ⟨z, hz, hr⟩ := hall ρ w (ev x) (he x)
    simp only [execOp, ho]
    exact does_v hz (Post.same hi hr)
  · -- indexAddr
    rename_i t x i
    obtain ⟨v, hv, hall⟩ := indexAddrA_sound h
    refine ⟨_, _, _, hv, Nat.le_refl _, fun ρ w ev o ho he hi hf => ?_⟩
    obtain ⟨z, hz, hr⟩ := hall ρ w (ev x) (ev i) (he x) (he i)
    simp only [execOp, ho]
    exact does_v hz (Post.same hi hr)
  · -- index
    rename_i t x i
    obtain ⟨v, hv, hall⟩ := indexA_sound h
    refine ⟨_, _, _, hv, Nat.le_refl _, fun ρ w ev o ho he hi hf => ?_⟩
    obtain ⟨z, hz, hr⟩ := hall ρ w (ev x) (ev i) (he x) (he i)
    simp only [execOp, ho]
    exact does_v hz (Post.same hi hr)
  · -- extract
    rename_i x i
    split at h
    · rename_i l hl
      split at h
      · rename_i v hv
        refine ⟨_, _, _, h, Nat.le_refl _, fun ρ w ev o ho he hi hf => ?_⟩
        have hpv := he x
        rw [hl] at hpv
        simp only [VR] at hpv
        obtain ⟨a, hx, ha⟩ := hpv
        obtain ⟨y, hy, hr⟩ := VRs_get ha _ _ hv
        simp only [execOp, ho, hx]
        refine does_v (z := y) (w' := w) ?_ (Post.same hi hr)
        simp only [Array.getElem?_toList] at hy
        simp only [Instr.extract, hy, Sem.run_pure]
      · simp at h
    · simp at h
  · -- call
    rename_i c
    obtain ⟨v, e, N', h1, h2, h3⟩ := callA_sound hC h
    refine ⟨v, e, N', h1, h2, fun ρ w ev o ho he hi hf => ?_⟩
    simp only [execOp, ho]
    exact h3 ρ w ev o.type he hi hf
  · simp at h
end
end Go.Sx

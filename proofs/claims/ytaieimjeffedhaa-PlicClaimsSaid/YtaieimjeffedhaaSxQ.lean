/- What the executor answers, the machine answers: a function's body; calls by their bodies. -/
import Derived.Test.YtaieimjeffedhaaSxP
set_option linter.unusedSimpArgs false
set_option linter.unusedVariables false
set_option linter.unnecessarySimpa false
namespace Go.Sx
open Go

section
variable {P : Program} {w : World} {ρ : Env} {R : Type} {r : R}

def resOne (tmps : Array Value) : ResultVar → Sem Value
  | .tmp t => pure (tmps.getD t undef)
  | .cell q t => do loadVar t (← asAddr (tmps.getD q undef))
theorem resultsA_sound {tm : TM} {H : Heap} : ∀ {rs : List ResultVar} {K : List AV → Option R}, resultsA P tm H rs K = some r → ∃ l, K l = some r ∧ ∀ (ρ : Env) (nt : Nat) (a : Act) (w : World), Tms ρ nt tm a → Inv ρ H w →
    ∃ ys : List Value, (rs.mapM (resOne a.tmps)).run P w = .ok ys w ∧ VRs ρ l ys
  | [], K, h => ⟨[], h, fun ρ nt a w ht hi => ⟨[], by simp, by simp⟩⟩
  | .tmp t :: rs, K, h => by
    simp only [resultsA] at h
    obtain ⟨l, hk, hall⟩ := resultsA_sound h
    refine ⟨_, hk, fun ρ nt a w ht hi => ?_⟩
    obtain ⟨ys, hy, hv⟩ := hall ρ nt a w ht hi
    exact ⟨a.tmps.getD t undef :: ys, by simp only [List.mapM_cons, Sem.run_bind, resOne, Sem.run_pure, Result.andThen_ok, hy], VRs_cons' (ht.2 t) hv⟩
  | .cell q t :: rs, K, h => by
    simp only [resultsA] at h
    split at h
    · rename_i p n hp hn
      obtain ⟨cs, hk, hcs, b, hb, hsl⟩ := loadA_spec h
      have key : ∀ v, (∀ (ρ : Env) (w : World) (l : Loc) (ys : List Value), VRs ρ cs ys → (∀ j y, ys[j]? = some y → w.cell? (l.addr (p.pos + j)) = some y) → ∃ y, (loadVar t (l.addr p.pos)).run P w = .ok y w ∧ VR ρ v y) →
          resultsA P tm H rs (fun l => K (v :: l)) = some r → ∃ l, K l = some r ∧ ∀ (ρ : Env) (nt : Nat) (a : Act) (w : World), Tms ρ nt tm a → Inv ρ H w →
            ∃ ys : List Value, ((ResultVar.cell q t :: rs).mapM (resOne a.tmps)).run P w = .ok ys w ∧ VRs ρ l ys := by
        intro v hv h
        obtain ⟨l, hk, hall⟩ := resultsA_sound h
        refine ⟨_, hk, fun ρ nt a w ht hi => ?_⟩
        obtain ⟨ys, hy, hvs⟩ := hall ρ nt a w ht hi
        obtain ⟨lc, zs, hl, hzs, hc⟩ := hi.cells hb hsl hcs
        obtain ⟨y, hyr, hyv⟩ := hv ρ w lc zs hzs hc
        have hq := ht.2 q
        rw [hp] at hq
        simp only [VR] at hq
        obtain ⟨l', hl', hqv⟩ := hq
        rw [hl] at hl'; simp at hl'; subst hl'
        refine ⟨y :: ys, ?_, VRs_cons' hyv hvs⟩
        simp only [List.mapM_cons, Sem.run_bind, resOne, hqv]
        simp only [asAddr, Sem.run_pure, Result.andThen_ok, hyr, hy]
      unfold aggOr at hk
      split at hk
      · rename_i ha
        refine key _ (fun ρ w l ys hv hc => ?_) hk
        obtain ⟨v, hv1, y, hy, hr⟩ := run_loadVar (P := P) (K := fun v => if True then some v else none) (r := .agg cs) hn hcs hv hc (by unfold aggOr; rw [ha]; simp)
        simp at hv1; subst hv1
        exact ⟨y, hy, hr⟩
      · rename_i ha
        split at hk
        · rename_i v0
          refine key _ (fun ρ w l ys hv hc => ?_) hk
          obtain ⟨v, hv1, y, hy, hr⟩ := run_loadVar (P := P) (K := fun v => if True then some v else none) (r := v0) hn hcs hv hc (by unfold aggOr; rw [ha]; simp)
          simp at hv1; subst hv1
          exact ⟨y, hy, hr⟩
        · simp at hk
      · simp at hk
    · simp at h

theorem oneOf_rel {l : List AV} {ys : List Value} (h : VRs ρ l ys) : VR ρ (oneOf l) (if h : ys.toArray.size = 1 then ys.toArray[0] else .tuple ys.toArray) := by
  match l, h with
  | [], h => simp at h; subst h; simp only [oneOf, VR]; exact ⟨#[], by simp, by simp⟩
  | [v], h => obtain ⟨y, rfl, hy⟩ := VRs_one_iff.1 h; simpa [oneOf] using hy
  | u :: v :: l, h =>
    have hl := VRs_length h
    rw [dif_neg (by simp at hl ⊢; omega)]
    simp only [oneOf, VR]
    exact ⟨_, rfl, by simpa using h⟩

theorem ofArgs_tms {nt : Nat} : ∀ (args : List AV) (vs : List Value) (i : Nat) (tm : TM) (a : Act), VRs ρ args vs → i + args.length ≤ nt → Tms ρ nt tm a → (∀ j v, vs[j]? = some v → a.tmps.getD (i + j) undef = v) → Tms ρ nt (TM.ofArgs tm i args) a
  | [], vs, i, tm, a, hv, hl, ht, hj => by simpa [TM.ofArgs] using ht
  | u :: l, vs, i, tm, a, hv, hl, ht, hj => by
    obtain ⟨y, zs, rfl, hy, hzs⟩ := VRs_cons.1 hv
    simp only [TM.ofArgs]
    simp at hl
    refine ofArgs_tms l zs (i + 1) _ a hzs (by omega) (ht.know ?_) (fun j v h => ?_)
    · have := hj 0 y rfl
      simp at this ⊢
      rw [this]; exact hy
    · have := hj (j + 1) v (by simpa using h)
      rw [← this]; congr 1; omega

/-- The laws of blocks that a function's reckoning leans on. -/
def FOK (P : Program) (fn : Func) (F : Cfg) : Prop := ∀ c, fn.body = some c → LawsOK P fn.ntmps F.laws c
theorem fok_nil {fn : Func} {F : Cfg} (h : F.laws = []) : FOK P fn F := by
  intro c _ id hd hl
  rw [h] at hl
  simp [lawOf] at hl
theorem bodyA_sound {C : Oracle} (hC : Snd P C) {F : Cfg} {f : FuncId} {fn : Func} (hfn : P.funcs[f]? = some fn) (hF : FOK P fn F) {args : List AV} {H : Heap} {N : Nat} {K : AV → Heap → Nat → Option R} (h : bodyA P C (drawA P) F fn args H N K = some r) :
    ∃ v H' N', K v H' N' = some r ∧ N ≤ N' ∧ ∀ (ρ : Env) (w : World) (vs : List Value), VRs ρ args vs → Inv ρ H w → FreshI ρ N →
      Calls P f vs.toArray w (fun e w' => ∃ v', e = .returned v' ∧ ∃ ρ', Step ρ H N w ρ' H' N' w' ∧ VR ρ' v v') := by
  unfold bodyA at h
  split at h
  · simp at h
  · rename_i c hb
    cases hle : Nat.ble args.length fn.ntmps with
    | false => rw [hle] at h; simp at h
    | true =>
      rw [hle] at h
      simp only [cond_true] at h
      rw [ble_true] at hle
      obtain ⟨o, tm', H', N', hk, hN, hc⟩ := codeA_sound hC (drawA_sound (nt := fn.ntmps) hC) c (hF c hb) h
      have fin : ∀ (hk : resultsA P tm' H' fn.results.toList (fun l => K (oneOf l) H' N') = some r) (ho : o = .normal ∨ o = .ret), ∃ v H' N', K v H' N' = some r ∧ N ≤ N' ∧ ∀ (ρ : Env) (w : World) (vs : List Value), VRs ρ args vs → Inv ρ H w → FreshI ρ N →
          Calls P f vs.toArray w (fun e w' => ∃ v', e = .returned v' ∧ ∃ ρ', Step ρ H N w ρ' H' N' w' ∧ VR ρ' v v') := by
        intro hk ho
        obtain ⟨l, hk2, hres⟩ := resultsA_sound hk
        refine ⟨_, H', N', hk2, hN, fun ρ w vs hvs hi hf => ?_⟩
        have hlen := VRs_length hvs
        have ht : Tms ρ fn.ntmps (TM.ofArgs .nil 0 args) { tmps := vs.toArray ++ Array.replicate (fn.ntmps - vs.toArray.size) undef, defers := [] } := by
          refine ofArgs_tms args vs 0 .nil _ hvs (by omega) ⟨by simp; omega, fun t => by simp [TM.get, VR]⟩ ?_
          intro j v hj
          have hlt := (List.getElem?_eq_some_iff.1 hj).1
          rw [Array.getD_eq_getD_getElem?, Array.getElem?_append_left (by simpa using hlt)]
          simp [hj]
        refine calls_of_wp hfn hb (wp_mono (hc ρ _ w ht hi hf) ?_)
        rintro e a' w' ⟨rfl, ρ', hst, ht', hd⟩
        obtain ⟨ys, hy, hv⟩ := hres ρ' fn.ntmps a' w' ht' hst.inv
        have hrun : (results fn a'.tmps).run P w' = .ok (if h : ys.toArray.size = 1 then ys.toArray[0] else .tuple ys.toArray) w' := by
          unfold results
          have e1 : fn.results.mapM (resOne a'.tmps) = List.toArray <$> (fn.results.toList.mapM (resOne a'.tmps)) := by
            rw [← List.mapM_toArray]
          have e2 : (fn.results.mapM (resOne a'.tmps)).run P w' = .ok ys.toArray w' := by
            rw [e1, Sem.run_map, hy]; rfl
          simp only [Sem.run_bind]
          refine (congrArg (fun q => Result.andThen q _) e2).trans ?_
          simp only [Result.andThen_ok, Sem.run_pure]
        have hd' : a'.defers = [] := hd
        rcases ho with rfl | rfl
        · exact ⟨hd', _, hrun, _, rfl, ρ', hst, oneOf_rel hv⟩
        · exact ⟨hd', _, hrun, _, rfl, ρ', hst, oneOf_rel hv⟩
      cases o with
      | normal => exact fin hk (.inl rfl)
      | ret => exact fin hk (.inr rfl)
      | exit i => simp at hk

mutual
theorem ren_id : ∀ v : AV, v.ren id = v
  | .any => rfl
  | .bool _ => rfl
  | .int _ _ => rfl
  | .ptr p => rfl
  | .nilptr => rfl
  | .slice _ _ _ => rfl
  | .nilslice => rfl
  | .func g a c => by simp only [AV.ren, renL_id a, renL_id c]
  | .nilfunc => rfl
  | .iface t v => by simp only [AV.ren, ren_id v]
  | .nilface => rfl
  | .agg l => by simp only [AV.ren, renL_id l]
  | .tup l => by simp only [AV.ren, renL_id l]
  | .lit _ => rfl
theorem renL_id : ∀ l : List AV, AV.renL id l = l
  | [] => rfl
  | v :: l => by simp only [AV.renL, ren_id v, renL_id l]
end
theorem VR_congr {ρ' : Env} {v : AV} {x : Value} (h : ∀ n ∈ v.names, ρ' n = ρ n) (hv : VR ρ v x) : VR ρ' v x := by
  have := VR_ren (f := id) v x h hv
  rwa [ren_id] at this
theorem VRs_congr {ρ' : Env} {l : List AV} {ys : List Value} (h : ∀ n ∈ AV.namesL l, ρ' n = ρ n) (hv : VRs ρ l ys) : VRs ρ' l ys := by
  have := VRs_ren (f := id) l ys h hv
  rwa [renL_id] at this
theorem heapBelow_find {N : Nat} : ∀ {H : Heap}, heapBelow N H = true → ∀ x b, H.find x = some b → x < N ∧ ∀ n ∈ segNames b.segs, n < N
  | [], _, x, b, h => by simp [Heap.find] at h
  | (y, c) :: H, hh, x, b, h => by
    simp only [heapBelow, Bool.and_eq_true, blt_true] at hh
    simp only [Heap.find] at h
    by_cases hy : y = x
    · subst hy
      rw [Nat.beq_refl] at h
      simp at h; subst h
      refine ⟨hh.1, fun n hn => ?_⟩
      have := allKept_iff hh.2.1 n hn
      simpa using this
    · rw [beq_false.2 hy] at h
      exact heapBelow_find hh.2.2 x b h

/-- What is told of names below N alone. -/
def cutEnv (ρ : Env) (N : Nat) : Env := fun x => if x < N then ρ x else none
theorem cutEnv_le {N : Nat} : (cutEnv ρ N).le ρ := by
  intro x l h
  unfold cutEnv at h
  split at h
  · exact h
  · simp at h
theorem Inv.cut {H : Heap} {N : Nat} (hi : Inv ρ H w) (hb : heapBelow N H = true) : Inv (cutEnv ρ N) H w := by
  constructor
  · intro x b hx
    obtain ⟨h1, h2⟩ := heapBelow_find hb x b hx
    obtain ⟨l, hl, c, e, fr, q1, q2, q3, q4⟩ := hi.blk x b hx
    refine ⟨l, by simp [cutEnv, h1, hl], c, e, fr, q1, q2, q3, fun o v hv => ?_⟩
    obtain ⟨y, hy, hr⟩ := q4 o v hv
    refine ⟨y, hy, VR_congr (fun n hn => ?_) hr⟩
    have := h2 n (flat_names _ v (List.mem_of_getElem? hv) n hn)
    simp [cutEnv, this]
  · intro x y bx b' lx ly hx hy hlx hly
    exact hi.inj x y bx b' lx ly hx hy (cutEnv_le _ _ hlx) (cutEnv_le _ _ hly)
theorem cutEnv_fresh {N : Nat} : FreshI (cutEnv ρ N) N := by
  intro x hx
  simp [cutEnv]; omega

theorem upd_append : ∀ (e1 e2 : Eff) (H : Heap), H.upd (e1 ++ e2) = (H.upd e1).upd e2
  | [], e2, H => rfl
  | (x, some b) :: e1, e2, H => by simp only [List.cons_append, Heap.upd]; exact upd_append e1 e2 _
  | (x, none) :: e1, e2, H => by simp only [List.cons_append, Heap.upd]; exact upd_append e1 e2 _
theorem upd_pairs : ∀ (H' H : Heap) (x : Nat), (H.upd (pairs H')).find x = match H'.find x with | some b => some b | none => H.find x
  | [], H, x => rfl
  | (y, c) :: H', H, x => by
    simp only [pairs, upd_append, Heap.upd, find_put, Heap.find]
    by_cases h : x = y
    · subst h; simp
    · rw [if_neg h, beq_false.2 (Ne.symm h)]
      exact upd_pairs H' H x
theorem find_cons_eq (y : Nat) (c : Blk) (G : Heap) : Heap.find ((y, c) :: G) y = some c := by
  simp [Heap.find]
theorem find_cons_ne {x y : Nat} (c : Blk) (G : Heap) (h : y ≠ x) : Heap.find ((y, c) :: G) x = Heap.find G x := by
  simp only [Heap.find]
  rw [beq_false.2 h]
  rfl
def gone (H' G : Heap) (x : Nat) : Bool := (G.find x).isSome && (H'.find x).isNone
theorem upd_gone (H' : Heap) : ∀ (G H : Heap) (x : Nat), (H.upd (goneE H' G)).find x = cond (gone H' G x) none (H.find x)
  | [], H, x => rfl
  | (y, c) :: G, H, x => by
    unfold goneE
    cases hy : H'.find y with
    | some b =>
      dsimp only
      rw [upd_gone H' G H x]
      by_cases h : y = x
      · subst h
        have h1 : gone H' G y = false := by simp [gone, hy]
        have h2 : gone H' ((y, c) :: G) y = false := by simp [gone, hy]
        rw [h1, h2]
      · have : gone H' ((y, c) :: G) x = gone H' G x := by simp only [gone]; rw [find_cons_ne c G h]
        rw [this]
    | none =>
      dsimp only [Heap.upd]
      rw [upd_gone H' G _ x, find_del]
      by_cases h : y = x
      · subst h
        have h2 : gone H' ((y, c) :: G) y = true := by simp [gone, hy, find_cons_eq]
        rw [h2, if_pos rfl]
        cases gone H' G y <;> rfl
      · have : gone H' ((y, c) :: G) x = gone H' G x := by simp only [gone]; rw [find_cons_ne c G h]
        rw [this, if_neg (Ne.symm h)]
theorem upd_whole (H H' : Heap) (x : Nat) : (H.upd (goneE H' H ++ pairs H')).find x = H'.find x := by
  rw [upd_append, upd_pairs, upd_gone]
  cases hf : H'.find x with
  | some b => rfl
  | none =>
    cases hH : H.find x with
    | none => simp
    | some b => simp [gone, hf, hH]

theorem callFunc_enter {g : FuncId} {fn : Func} (hfn : P.funcs[g]? = some fn) (hname : (fn.name == "runtime.NumGoroutine") = false) (hbody : fn.body.isNone = false) (args : Array Value) : (callFunc g args).run P w = .ok (.enter g args) w := by
  have h1 : ¬ fn.name = "runtime.NumGoroutine" := fun h => by rw [h] at hname; simp at hname
  have h2 : ¬ fn.body = none := fun h => by rw [h] at hbody; simp at hbody
  simp [callFunc, hfn, h1, h2]

/-- What an oracle's answer must stand for. -/
def Ans (P : Program) (g : FuncId) (args : List AV) (H : Heap) (N : Nat) (v : AV) (e : Eff) (N' : Nat) : Prop :=
  ∀ (ρ : Env) (w : World) (vs : List Value), VRs ρ args vs → Inv ρ H w → Fresh ρ N N' → Does P (callFunc g vs.toArray) w (fun v' w' => Post ρ H N w e N' v v' w')

theorem inlineA_sound {C : Oracle} (hC : Snd P C) {F : Cfg} {g : FuncId} {fn : Func} (hfn : P.funcs[g]? = some fn) (hF : FOK P fn F) (hname : (fn.name == "runtime.NumGoroutine") = false) {args : List AV} {H : Heap} {N : Nat} {K : AV → Eff → Nat → Option R}
    (h : inlineA P C (drawA P) F fn args H N K = some r) : ∃ v e N', K v e N' = some r ∧ N ≤ N' ∧ Ans P g args H N v e N' := by
  unfold inlineA at h
  cases hc : (heapBelow N H && allKept N [] (AV.namesL args)) with
  | false => rw [hc] at h; simp at h
  | true =>
    rw [hc] at h
    simp only [cond_true] at h
    simp only [Bool.and_eq_true] at hc
    have hbody : fn.body.isNone = false := by
      cases hb : fn.body with
      | none => simp [bodyA, hb] at h
      | some c => rfl
    obtain ⟨v, H', N', hk, hN, hcall⟩ := bodyA_sound hC hfn hF h
    try dsimp only at hk
    generalize liveOf N H' v.names = live at hk
    cases hc2 : (nodupB live && aboveB N live && allKept N live v.names) with
    | false => rw [hc2] at hk; simp at hk
    | true =>
      rw [hc2] at hk
      simp only [cond_true] at hk
      simp only [Bool.and_eq_true] at hc2
      refine ⟨_, _, _, hk, by omega, fun ρ w vs hvs hi hf => ?_⟩
      unfold Does
      rw [callFunc_enter hfn hname hbody]
      simp only
      have hargs : VRs (cutEnv ρ N) args vs := VRs_congr (fun n hn => by
        have := allKept_iff hc.2 n hn
        simp at this
        simp [cutEnv, this]) hvs
      refine (hcall (cutEnv ρ N) w vs hargs (hi.cut hc.1) cutEnv_fresh).mono ?_
      rintro e w' ⟨v', rfl, ρ', hst, hv⟩
      refine ⟨v', rfl, renEnv ρ ρ' N live, ?_, VR_ren v v' (fun n hn => renEnv_kept (allKept_iff hc2.2 n hn)) hv⟩
      exact (step_norm' hst (fun x hx => by simp [cutEnv, hx]) cutEnv_le).congr (fun x => upd_whole H _ x)

/-! calls that write nothing that was there -/
mutual
theorem VR_ro {ρ' : Env} : ∀ (v : AV) (x : Value), (∀ n ∈ v.names, ∀ l, ρ n = some l → ρ' n = some { l with rw := false }) → VR ρ v x → VR ρ' v x
  | .any, _, _, _ => by simp [VR]
  | .bool _, _, _, hv => by simpa [VR] using hv
  | .int _ _, _, _, hv => by simpa [VR] using hv
  | .ptr p, _, h, hv => by
    simp only [VR] at hv ⊢
    obtain ⟨l, hl, hx⟩ := hv
    exact ⟨_, h p.x (by simp [AV.names]) l hl, hx⟩
  | .nilptr, _, _, hv => by simpa [VR] using hv
  | .slice p es n, _, h, hv => by
    simp only [VR] at hv ⊢
    obtain ⟨l, cap, hl, h1, h2, _, h4⟩ := hv
    exact ⟨_, cap, h p.x (by simp [AV.names]) l hl, h1, h2, by simp, h4⟩
  | .nilslice, _, _, hv => by simpa [VR] using hv
  | .func _ a c, _, h, hv => by
    simp only [VR] at hv ⊢
    obtain ⟨a', c', hx, ha, hc⟩ := hv
    exact ⟨a', c', hx, VRs_ro a _ (fun n hn => h n (by simp [AV.names, hn])) ha, VRs_ro c _ (fun n hn => h n (by simp [AV.names, hn])) hc⟩
  | .nilfunc, _, _, hv => by simpa [VR] using hv
  | .iface _ v, _, h, hv => by
    simp only [VR] at hv ⊢
    obtain ⟨y, hx, hy⟩ := hv
    exact ⟨y, hx, VR_ro v y (fun n hn => h n (by simpa [AV.names] using hn)) hy⟩
  | .nilface, _, _, hv => by simpa [VR] using hv
  | .agg l, _, h, hv => by
    simp only [VR] at hv ⊢
    obtain ⟨a, hx, ha⟩ := hv
    exact ⟨a, hx, VRs_ro l _ (fun n hn => h n (by simpa [AV.names] using hn)) ha⟩
  | .tup l, _, h, hv => by
    simp only [VR] at hv ⊢
    obtain ⟨a, hx, ha⟩ := hv
    exact ⟨a, hx, VRs_ro l _ (fun n hn => h n (by simpa [AV.names] using hn)) ha⟩
  | .lit _, _, _, hv => by simpa [VR] using hv
theorem VRs_ro {ρ' : Env} : ∀ (l : List AV) (ys : List Value), (∀ n ∈ AV.namesL l, ∀ l, ρ n = some l → ρ' n = some { l with rw := false }) → VRs ρ l ys → VRs ρ' l ys
  | [], _, _, hl => by simpa using hl
  | v :: l, _, h, hl => by
    obtain ⟨y, r, rfl, hv, hr⟩ := VRs_cons.1 hl
    exact VRs_cons' (VR_ro v y (fun n hn => h n (by simp [AV.namesL, hn])) hv) (VRs_ro l r (fun n hn => h n (by simp [AV.namesL, hn])) hr)
end
def roEnv (ρ : Env) (N : Nat) : Env := fun x => if x < N then (ρ x).map (fun l => { l with rw := false }) else none
theorem roEnv_some {N x : Nat} {l : Loc} (hx : x < N) (h : ρ x = some l) : roEnv ρ N x = some { l with rw := false } := by simp [roEnv, hx, h]
theorem roEnv_inv {N x : Nat} {l : Loc} (h : roEnv ρ N x = some l) : x < N ∧ l.rw = false ∧ ∃ l', ρ x = some l' ∧ l'.b = l.b := by
  unfold roEnv at h
  split at h
  · rename_i hx
    cases hr : ρ x with
    | none => rw [hr] at h; simp at h
    | some l' => rw [hr] at h; simp at h; subst h; exact ⟨hx, rfl, l', rfl, rfl⟩
  · simp at h
theorem readH_find : ∀ {H : Heap} {x : Nat} {b : Blk}, (readH H).find x = some b → ∃ b0, H.find x = some b0 ∧ b = { b0 with rw := false }
  | [], x, b, h => by simp [readH, Heap.find] at h
  | (y, c) :: H, x, b, h => by
    simp only [readH, Heap.find] at h ⊢
    by_cases hy : y = x
    · subst hy; rw [Nat.beq_refl] at h ⊢; simp at h ⊢; exact h.symm
    · rw [beq_false.2 hy] at h ⊢; exact readH_find h
theorem Inv.ro {H : Heap} {N : Nat} (hi : Inv ρ H w) (hb : heapBelow N H = true) : Inv (roEnv ρ N) (readH H) w := by
  constructor
  · intro x b hx
    obtain ⟨b0, hx0, rfl⟩ := readH_find hx
    obtain ⟨h1, h2⟩ := heapBelow_find hb x b0 hx0
    obtain ⟨l, hl, c, e, fr, q1, q2, q3, q4⟩ := hi.blk x b0 hx0
    refine ⟨_, roEnv_some h1 hl, c, e, fr, q1, rfl, by simp, fun o v hv => ?_⟩
    obtain ⟨y, hy, hr⟩ := q4 o v hv
    refine ⟨y, hy, VR_ro v y (fun n hn l hl => ?_) hr⟩
    exact roEnv_some (h2 n (flat_names _ v (List.mem_of_getElem? hv) n hn)) hl
  · intro x y bx b' lx ly hx hy hlx hly hrw
    rw [(roEnv_inv hlx).2.1] at hrw; simp at hrw
theorem allIn_iff {live : List Nat} : ∀ {l : List Nat}, allIn live l = true → ∀ x ∈ l, x ∈ live
  | [], _, x, h => by simp at h
  | y :: l, hh, x, h => by
    simp only [allIn, Bool.and_eq_true, memB_iff] at hh
    rcases List.mem_cons.1 h with rfl | h
    · exact hh.1
    · exact allIn_iff hh.2 x h
def newEnv (ρ ρ' : Env) (N : Nat) (live : List Nat) : Env := fun y => if y < N then ρ y else match live[y - N]? with | some x => ρ' x | none => ρ y
theorem newEnv_live {ρ' : Env} {N : Nat} {live : List Nat} (hab : ∀ x ∈ live, N ≤ x) {x : Nat} (h : x ∈ live) : newEnv ρ ρ' N live (renN N live x) = ρ' x := by
  unfold newEnv renN
  have hx : ¬ x < N := by have := hab x h; omega
  rw [show Nat.blt x N = false by rw [← Bool.not_eq_true, blt_true]; exact hx]
  simp only [cond_false]
  rw [if_neg (by omega), show N + posN x live - N = posN x live by omega, (posN_lt h).2]
theorem newE_names {N : Nat} {live : List Nat} {H' : Heap} : ∀ {l : List Nat} {y : Nat} {ob : Option Blk}, (y, ob) ∈ newE N live H' l → ∃ x b, x ∈ l ∧ y = renN N live x ∧ H'.find x = some b ∧ b.rw = true ∧ (∀ n ∈ segNames b.segs, n ∈ live) ∧ ob = some { b with segs := segRen (renN N live) b.segs }
  | [], y, ob, h => by simp [newE] at h
  | x :: l, y, ob, h => by
    simp only [newE] at h
    split at h
    · rename_i b hb
      cases hc : (b.rw && allIn live (segNames b.segs)) with
      | true =>
        rw [hc] at h
        simp only [cond_true, List.mem_cons, Prod.mk.injEq] at h
        simp only [Bool.and_eq_true] at hc
        rcases h with ⟨rfl, rfl⟩ | h
        · exact ⟨x, b, by simp, rfl, hb, hc.1, allIn_iff hc.2, rfl⟩
        · obtain ⟨x', b', h1, r⟩ := newE_names h
          exact ⟨x', b', by simp [h1], r⟩
      | false =>
        rw [hc] at h
        obtain ⟨x', b', h1, r⟩ := newE_names h
        exact ⟨x', b', by simp [h1], r⟩
    · obtain ⟨x', b', h1, r⟩ := newE_names h
      exact ⟨x', b', by simp [h1], r⟩
theorem upd_find_in : ∀ {e : Eff} {H : Heap} {y : Nat} {b : Blk}, (H.upd e).find y = some b → (y, some b) ∈ e ∨ (y ∉ namesOf e ∧ H.find y = some b)
  | [], H, y, b, h => .inr ⟨by simp [namesOf], h⟩
  | (x, some c) :: e, H, y, b, h => by
    simp only [Heap.upd] at h
    rcases upd_find_in h with h | ⟨h1, h2⟩
    · exact .inl (by simp [h])
    · rw [find_put] at h2
      split at h2
      · rename_i hy; subst hy; simp at h2; subst h2; exact .inl (by simp)
      · rename_i hy; exact .inr ⟨by simp [namesOf, hy, h1], h2⟩
  | (x, none) :: e, H, y, b, h => by
    simp only [Heap.upd] at h
    rcases upd_find_in h with h | ⟨h1, h2⟩
    · exact .inl (by simp [h])
    · rw [find_del] at h2
      split at h2
      · simp at h2
      · rename_i hy; exact .inr ⟨by simp [namesOf, hy, h1], h2⟩

/-- Behind a step that may write nothing old. -/
theorem step_quiet {ρ' : Env} {H H' : Heap} {N N' : Nat} {w' : World} {live : List Nat} (hi : Inv ρ H w) (hb : heapBelow N H = true) (h : Step (roEnv ρ N) (readH H) N w ρ' H' N' w') (hab : ∀ x ∈ live, N ≤ x) :
    Step ρ H N w (newEnv ρ ρ' N live) (H.upd (newE N live H' live)) (N + live.length) w' := by
  have noOwn : ∀ b, ¬ Owned (roEnv ρ N) (readH H) b := by
    rintro b ⟨x, k, l, hx, hl, hr, _⟩
    rw [(roEnv_inv hl).2.1] at hr; simp at hr
  have find : ∀ y b, (H.upd (newE N live H' live)).find y = some b → (∃ x b0, x ∈ live ∧ y = renN N live x ∧ H'.find x = some b0 ∧ b0.rw = true ∧ (∀ n ∈ segNames b0.segs, n ∈ live) ∧ b = { b0 with segs := segRen (renN N live) b0.segs }) ∨ (H.find y = some b ∧ y < N) := by
    intro y b hy
    rcases upd_find_in hy with h1 | ⟨_, h1⟩
    · obtain ⟨x, b0, q1, q2, q3, q4, q5, q6⟩ := newE_names h1
      simp at q6
      exact .inl ⟨x, b0, q1, q2, q3, q4, q5, q6⟩
    · exact .inr ⟨h1, (heapBelow_find hb y b h1).1⟩
  have envOld : ∀ y, y < N → newEnv ρ ρ' N live y = ρ y := fun y hy => by simp [newEnv, hy]
  have newLoc : ∀ x b0 l, x ∈ live → H'.find x = some b0 → b0.rw = true → ρ' x = some l → w.heap.size ≤ l.b := by
    intro x b0 l hx hf hr hl
    obtain ⟨l', hl', _, _, _, _, q2, _⟩ := h.inv.blk x b0 hf
    rw [hl] at hl'; simp at hl'; subst hl'
    rcases h.prov x b0 l hf hl with ⟨z, kz, lz, hz, hlz, hbz, hrz⟩ | h'
    · have := hrz (by rw [q2, hr])
      rw [(roEnv_inv hlz).2.1] at this; simp at this
    · exact h'
  constructor
  · intro y hy
    unfold newEnv
    split
    · rfl
    · rw [List.getElem?_eq_none (by omega)]
  · exact h.os
  · exact h.tape
  · exact h.output
  · exact h.size
  · exact fun b hb2 _ => h.block b hb2 (noOwn b)
  · constructor
    · intro y b hy
      rcases find y b hy with ⟨x, b0, hx, rfl, hf, hr, hn, rfl⟩ | ⟨hf, hlt⟩
      · obtain ⟨l, hl, c, e, fr, q1, q2, q3, q4⟩ := h.inv.blk x b0 hf
        refine ⟨l, by rw [newEnv_live hab hx]; exact hl, c, e, fr, q1, q2, q3, fun o v hv => ?_⟩
        simp only [flat_ren, List.getElem?_map] at hv
        cases hq : (flat b0.segs)[o]? with
        | none => rw [hq] at hv; simp at hv
        | some u =>
          rw [hq] at hv; simp at hv; subst hv
          obtain ⟨x', hx', hr'⟩ := q4 o u hq
          exact ⟨x', hx', VR_ren u x' (fun n hn' => newEnv_live hab (hn n (flat_names _ u (List.mem_of_getElem? hq) n hn'))) hr'⟩
      · obtain ⟨l, hl, hbr⟩ := hi.blk y b hf
        refine ⟨l, by rw [envOld y hlt]; exact hl, ?_⟩
        obtain ⟨c, e, fr, q1, q2, q3, q4⟩ := hbr
        refine ⟨c, e, fr, by rw [h.block l.b (lt_size q1) (noOwn _)]; exact q1, q2, q3, fun o v hv => ?_⟩
        obtain ⟨z, hz, hr⟩ := q4 o v hv
        refine ⟨z, hz, VR_congr (fun n hn => envOld n ?_) hr⟩
        exact (heapBelow_find hb y b hf).2 n (flat_names _ v (List.mem_of_getElem? hv) n hn)
    · intro y z by' bz ly lz hy hz hly hlz hr hbb
      rcases find y by' hy with ⟨x, b0, hx, rfl, hf, hrw, _, _⟩ | ⟨hf, hlt⟩ <;> rcases find z bz hz with ⟨x', b0', hx', rfl, hf', hrw', _, _⟩ | ⟨hf', hlt'⟩
      · rw [newEnv_live hab hx] at hly
        rw [newEnv_live hab hx'] at hlz
        rw [h.inv.inj x x' b0 b0' ly lz hf hf' hly hlz hr hbb]
      · rw [newEnv_live hab hx] at hly
        rw [envOld z hlt'] at hlz
        have h1 := newLoc x b0 ly hx hf hrw hly
        obtain ⟨l2, hl2, hb2⟩ := hi.blk z bz hf'
        rw [hlz] at hl2; simp at hl2; subst hl2
        have := hb2.lt
        omega
      · rw [envOld y hlt] at hly
        rw [newEnv_live hab hx'] at hlz
        have h1 := newLoc x' b0' lz hx' hf' hrw' hlz
        obtain ⟨l2, hl2, hb2⟩ := hi.blk y by' hf
        rw [hly] at hl2; simp at hl2; subst hl2
        have := hb2.lt
        omega
      · rw [envOld y hlt] at hly
        rw [envOld z hlt'] at hlz
        exact hi.inj y z by' bz ly lz hf hf' hly hlz hr hbb
  · intro y k l hy hl
    rcases find y k hy with ⟨x, b0, hx, rfl, hf, hrw, _, _⟩ | ⟨hf, hlt⟩
    · rw [newEnv_live hab hx] at hl
      exact .inr (newLoc x b0 l hx hf hrw hl)
    · rw [envOld y hlt] at hl
      exact .inl ⟨y, k, l, hf, hl, rfl, id⟩

theorem quietA_sound {C : Oracle} (hC : Snd P C) {F : Cfg} {g : FuncId} {fn : Func} (hfn : P.funcs[g]? = some fn) (hF : FOK P fn F) (hname : (fn.name == "runtime.NumGoroutine") = false) {args : List AV} {H : Heap} {N : Nat} {K : AV → Eff → Nat → Option R}
    (h : quietA P C (drawA P) F fn args H N K = some r) : ∃ v e N', K v e N' = some r ∧ N ≤ N' ∧ Ans P g args H N v e N' := by
  unfold quietA at h
  cases hc : (heapBelow N H && allKept N [] (AV.namesL args)) with
  | false => rw [hc] at h; simp at h
  | true =>
    rw [hc] at h
    simp only [cond_true] at h
    simp only [Bool.and_eq_true] at hc
    have hbody : fn.body.isNone = false := by
      cases hb : fn.body with
      | none => simp [bodyA, hb] at h
      | some c => rfl
    obtain ⟨v, H', N', hk, hN, hcall⟩ := bodyA_sound hC hfn hF h
    try dsimp only at hk
    generalize liveGo N H' 400 v.names [] = live at hk
    cases hc2 : (nodupB live && aboveB N live && allIn live v.names) with
    | false => rw [hc2] at hk; simp at hk
    | true =>
      rw [hc2] at hk
      simp only [cond_true] at hk
      simp only [Bool.and_eq_true] at hc2
      refine ⟨_, _, _, hk, by omega, fun ρ w vs hvs hi hf => ?_⟩
      unfold Does
      rw [callFunc_enter hfn hname hbody]
      simp only
      have hargs : VRs (roEnv ρ N) args vs := VRs_ro args vs (fun n hn l hl => by
        have := allKept_iff hc.2 n hn
        simp at this
        exact roEnv_some this hl) hvs
      have hfr : FreshI (roEnv ρ N) N := by intro x hx; simp [roEnv]; intro h; omega
      refine (hcall (roEnv ρ N) w vs hargs (hi.ro hc.1) hfr).mono ?_
      rintro e w' ⟨v', rfl, ρ', hst, hv⟩
      refine ⟨v', rfl, newEnv ρ ρ' N live, step_quiet hi hc.1 hst (aboveB_iff hc2.1.2), VR_ren v v' (fun n hn => newEnv_live (aboveB_iff hc2.1.2) (allIn_iff hc2.2 n hn)) hv⟩
end
end Go.Sx

/- Loops whose heads have several shapes; calls by their bodies in just the memory that their arguments tell of. -/
import Derived.Test.YtkbcfbehebbmhaaGreatSxAC
import Derived.Test.YtkbcfbehebbmhaaGreatSxAE
set_option linter.unusedSimpArgs false
set_option linter.unusedVariables false
set_option linter.unnecessarySimpa false
namespace Go.Sx
open Go

/-! ### a loop, round by round -/
/-- From what stands at the head to what stands behind the last round. -/
inductive Rn {α β : Type} (step : α → Option (α ⊕ β)) : α → β → Prop where
  | last {x : α} {z : β} : step x = some (.inr z) → Rn step x z
  | next {x y : α} {z : β} : step x = some (.inl y) → Rn step y z → Rn step x z
def Heap.sub (h H : Heap) : Prop := ∀ x b, h.find x = some b → H.find x = some b
theorem sub_nil {H : Heap} : Heap.sub [] H := fun x b h => by simp [Heap.find] at h
theorem sub_cons {h H : Heap} {k : Nat} {b : Blk} (h1 : H.find k = some b) (h2 : Heap.sub h H) : Heap.sub ((k, b) :: h) H := by
  intro x c hx
  by_cases hk : k = x
  · subst hk; rw [find_cons_eq] at hx; simp only [Option.some.injEq] at hx; rw [← hx]; exact h1
  · rw [find_cons_ne _ _ hk] at hx; exact h2 x c hx
def inlO {α β : Type} : Option α → Option (α ⊕ β)
  | some y => some (.inl y)
  | none => none
def inrO {α β : Type} : Option β → Option (α ⊕ β)
  | some y => some (.inr y)
  | none => none
/-- What is looked at behind a round. -/
def roundK {α β : Type} (N0 : Nat) (roots kT kE : List Nat) (dec : List AV → Heap → Nat → Option α) (decE : Out → List AV → Heap → Nat → Option β) (o : Out) (tm : TM) (H : Heap) (N : Nat) : Option (α ⊕ β) := match o with
  | .normal => normA N0 roots tm H fun tm H N => inlO (dec (obsT kT tm) H N)
  | o => inrO (decE o (obsT kE tm) H N)
section
variable {P : Program}
/-- A loop's law: α: what stands at its head; β: behind it; one round. -/
structure LL (P : Program) (C : Oracle) (nt : Nat) (D : DrawA) (F : Cfg) (c : Code) (α β : Type) where
  N0 : Nat
  rts : List Nat := F.roots
  kT : List Nat
  vT : α → List AV
  hT : α → Heap
  nT : α → Nat
  dec : List AV → Heap → Nat → Option α
  dec_ok : ∀ vs H N y, dec vs H N = some y → vs = vT y ∧ (hT y).sub H ∧ N = nT y
  kE : List Nat
  oE : β → Out
  vE : β → List AV
  hE : β → Heap
  nE : β → Nat
  decE : Out → List AV → Heap → Nat → Option β
  decE_ok : ∀ o vs H N z, decE o vs H N = some z → o = oE z ∧ o ≠ .normal ∧ vs = vE z ∧ (hE z).sub H ∧ N = nE z
  step : α → Option (α ⊕ β)
  hstep : ∀ x, codeA P C D F nt c (tmOf kT (vT x)) (hT x) (nT x) (roundK N0 rts kT kE dec decE) = step x

theorem LL.sound {C : Oracle} {nt : Nat} {D : DrawA} {F : Cfg} {c : Code} {α β : Type} (L : LL P C nt D F c α β) (hC : Snd P C) (hD : DSnd P nt D) (hH : LawsOK P nt F.laws c) {x : α} {z : β} (hr : Rn L.step x z) :
    (L.N0 ≤ L.nT x → L.N0 ≤ L.nE z) ∧ L.oE z ≠ .normal ∧ ∃ n, ∀ (ρ0 : Env) (H0 : Heap) (a0 : Act) (w0 : World) (ρ : Env) (a : Act) (w : World), L.N0 ≤ L.nT x → FreshI ρ0 L.N0 → Step ρ0 H0 L.N0 w0 ρ (L.hT x) (L.nT x) w → Tms ρ nt (tmOf L.kT (L.vT x)) a → a.defers = a0.defers →
      Code.rounds P c (fun e a' w' => e = (L.oE z).to ∧ CodePost ρ0 nt H0 L.N0 w0 (tmOf L.kE (L.vE z)) (L.hE z) (L.nE z) a0 a' w') n a w := by
  induction hr with
  | @last x z hs =>
    have hrun := L.hstep x
    rw [hs] at hrun
    obtain ⟨o, tm1, H1, N1, hk, hN1, hc⟩ := codeA_sound hC hD c hH hrun
    have hk' : ∃ z', L.decE o (obsT L.kE tm1) H1 N1 = some z' ∧ z' = z := by
      cases o with
      | normal =>
        simp only [roundK] at hk
        unfold normA at hk
        dsimp only at hk
        generalize liveOf L.N0 H1 (rootNames tm1 L.rts) = live at hk
        cases hq : (nodupB live && aboveB L.N0 live) with
        | false => rw [hq] at hk; simp at hk
        | true =>
          rw [hq] at hk
          simp only [cond_true] at hk
          unfold inlO at hk
          split at hk <;> simp at hk
      | exit i =>
        simp only [roundK, inrO] at hk
        split at hk
        · rename_i y hy; simp only [Option.some.injEq, Sum.inr.injEq] at hk; exact ⟨y, hy, hk⟩
        · simp at hk
      | ret =>
        simp only [roundK, inrO] at hk
        split at hk
        · rename_i y hy; simp only [Option.some.injEq, Sum.inr.injEq] at hk; exact ⟨y, hy, hk⟩
        · simp at hk
    obtain ⟨z', hz, rfl⟩ := hk'
    obtain ⟨e0, e1, e2, e3, e4⟩ := L.decE_ok _ _ _ _ _ hz
    refine ⟨fun h => by omega, e0 ▸ e1, 1, ?_⟩
    intro ρ0 H0 a0 w0 ρ a w hle hfr hst ht hd
    rw [rounds_succ]
    have hfr' : FreshI ρ (L.nT x) := hfr.next hst hle
    refine wp_mono (hc ρ a w ht hst.inv hfr') ?_
    rintro e a' w' ⟨rfl, ρ', hst', ht', hd'⟩
    have hbig : Step ρ0 H0 L.N0 w0 ρ' H1 N1 w' := hst.trans hst' hle hN1
    have hp : o.to = (L.oE z').to ∧ CodePost ρ0 nt H0 L.N0 w0 (tmOf L.kE (L.vE z')) (L.hE z') (L.nE z') a0 a' w' := by
      refine ⟨by rw [e0], ρ', ?_, ht'.weaken (tmOf_get e2), hd'.trans hd⟩
      have hb2 : Step ρ0 H0 L.N0 w0 ρ' (L.hE z') N1 w' := hbig.weaken e3
      rw [← e4]; exact hb2
    cases o with
    | normal => exact absurd rfl e1
    | exit i => exact hp
    | ret => exact hp
  | @next x y z hs hr ih =>
    obtain ⟨ih1, ih2, n, ih3⟩ := ih
    have hrun := L.hstep x
    rw [hs] at hrun
    obtain ⟨o, tm1, H1, N1, hk, hN1, hc⟩ := codeA_sound hC hD c hH hrun
    cases o with
    | exit i => simp only [roundK, inrO] at hk; split at hk <;> simp at hk
    | ret => simp only [roundK, inrO] at hk; split at hk <;> simp at hk
    | normal =>
      simp only [roundK] at hk
      obtain ⟨tm2, H2, N2, h2, hN2, hn⟩ := normA_sound (nt := nt) hk
      have h2' : L.dec (obsT L.kT tm2) H2 N2 = some y := by
        unfold inlO at h2
        split at h2
        · rename_i y' hy; simp only [Option.some.injEq, Sum.inl.injEq] at h2; rw [hy, h2]
        · simp at h2
      obtain ⟨e1, e2, e3⟩ := L.dec_ok _ _ _ _ h2'
      refine ⟨fun _ => ih1 (by omega), ih2, n + 1, ?_⟩
      intro ρ0 H0 a0 w0 ρ a w hle hfr hst ht hd
      rw [rounds_succ]
      have hfr' : FreshI ρ (L.nT x) := hfr.next hst hle
      refine wp_mono (hc ρ a w ht hst.inv hfr') ?_
      rintro e a' w' ⟨rfl, ρ', hst', ht', hd'⟩
      simp only [Out.to, Exit.then]
      have hbig : Step ρ0 H0 L.N0 w0 ρ' H1 N1 w' := hst.trans hst' hle hN1
      obtain ⟨ρ3, hst3, ht3⟩ := hn ρ0 H0 w0 ρ' N1 w' a' hbig ht'
      refine ih3 ρ0 H0 a0 w0 ρ3 a' w' (by omega) hfr ?_ (ht3.weaken (tmOf_get e1)) (hd'.trans hd)
      rw [← e3]
      exact hst3.weaken e2

/-- What becomes of the ends of a loop in its block. -/
def exK {R : Type} (id : Nat) (K : Out → TM → Heap → Nat → Option R) : Out → TM → Heap → Nat → Option R := fun o tm H N => match o with
  | .exit i => bif Nat.beq i id then K .normal tm H N else K (.exit i) tm H N
  | o => K o tm H N
abbrev Cps (α : Type) := (R : Type) → α → (Out → TM → Heap → Nat → Option R) → Option R
/-- The law of a loop in its block, as a handler: by what is told of the whole loop. -/
def llH {α : Type} (N0 : Nat) (kT : List Nat) (dec : List AV → Heap → Nat → Option α) (id : Nat) (cps : Cps α) : Handler := fun R tm H N K =>
  bif Nat.beq N N0 then match dec (obsT kT tm) H N with
    | some x => cps R x (exK id K)
    | none => none
  else none
def LL.handler {C : Oracle} {nt : Nat} {D : DrawA} {F : Cfg} {c : Code} {α β : Type} (L : LL P C nt D F c α β) (id : Nat) (cps : Cps α) : Handler := llH L.N0 L.kT L.dec id cps
def CpsOK {C : Oracle} {nt : Nat} {D : DrawA} {F : Cfg} {c : Code} {α β : Type} (L : LL P C nt D F c α β) (cps : Cps α) : Prop :=
  ∀ (R : Type) (x : α) (K : Out → TM → Heap → Nat → Option R) (r : R), cps R x K = some r → ∃ z, Rn L.step x z ∧ K (L.oE z) (tmOf L.kE (L.vE z)) (L.hE z) (L.nE z) = some r
theorem LL.handler_snd {C : Oracle} {nt : Nat} {D : DrawA} {F : Cfg} {c : Code} {α β : Type} (L : LL P C nt D F c α β) (hC : Snd P C) (hD : DSnd P nt D) (hH : LawsOK P nt F.laws c) (id : Nat) {cps : Cps α} (hcps : CpsOK L cps) :
    HSnd P nt (.block id (.loop c)) (L.handler id cps) := by
  intro R r tm H N K h
  unfold LL.handler llH at h
  cases hn : Nat.beq N L.N0 with
  | false => rw [hn] at h; simp at h
  | true =>
    rw [hn] at h
    simp only [cond_true] at h
    rw [beq_true] at hn
    split at h
    · rename_i x hx
      obtain ⟨e1, e2, e3⟩ := L.dec_ok _ _ _ _ hx
      obtain ⟨z, hz, hk⟩ := hcps R x _ r h
      obtain ⟨h1, h2, n, h3⟩ := L.sound hC hD hH hz
      have hle : L.N0 ≤ L.nT x := by omega
      have hle2 := h1 hle
      have hok : ∀ (ρ : Env) (a : Act) (w : World), Tms ρ nt tm a → Inv ρ H w → FreshI ρ N →
          (Code.loop c).wp P (fun e a' w' => e = (L.oE z).to ∧ CodePost ρ nt H N w (tmOf L.kE (L.vE z)) (L.hE z) (L.nE z) a a' w') a w := by
        intro ρ a w ht hi hf
        have hi' : Inv ρ (L.hT x) w := hi.sub e2
        have := wp_loop_rounds n (h3 ρ (L.hT x) a w ρ a w hle (by rw [← hn]; exact hf) (by rw [← e3, hn]; exact Step.refl hi') (ht.weaken (tmOf_get e1)) rfl)
        refine wp_mono this ?_
        rintro e a' w' ⟨rfl, ρ', hst, ht', hd⟩
        refine ⟨rfl, ρ', ?_, ht', hd⟩
        rw [← hn] at hst
        have hle : ∀ b, Owned ρ (L.hT x) b → Owned ρ H b := by
          rintro b ⟨y, k, l, hy, q⟩
          exact ⟨y, k, l, e2 y k hy, q⟩
        refine ⟨hst.ext, hst.os, hst.tape, hst.output, hst.size, fun b hb hno => hst.block b hb (fun ho => hno (hle b ho)), hst.inv, fun y k l hy hl => ?_⟩
        rcases hst.prov y k l hy hl with ⟨u, ku, lu, hu, q⟩ | h'
        · exact .inl ⟨u, ku, lu, e2 u ku hu, q⟩
        · exact .inr h'
      have hNN : N ≤ L.nE z := by omega
      unfold exK at hk
      split at hk
      · rename_i i hi
        cases hb : Nat.beq i id with
        | true =>
          rw [hb] at hk
          simp only [cond_true] at hk
          rw [beq_true] at hb
          subst hb
          refine ⟨_, _, _, _, hk, hNN, fun ρ a w ht hinv hf => wp_block (wp_mono (hok ρ a w ht hinv hf) ?_)⟩
          rintro e a' w' ⟨rfl, hp⟩
          rw [hi]
          simp only [Out.to, Exit.inBlock, if_true]
          exact ⟨trivial, hp⟩
        | false =>
          rw [hb] at hk
          simp only [cond_false] at hk
          rw [beq_false] at hb
          refine ⟨_, _, _, _, hk, hNN, fun ρ a w ht hinv hf => wp_block (wp_mono (hok ρ a w ht hinv hf) ?_)⟩
          rintro e a' w' ⟨rfl, hp⟩
          rw [hi]
          simp only [Out.to, Exit.inBlock, if_neg hb]
          exact ⟨trivial, hp⟩
      · rename_i o ho
        refine ⟨_, _, _, _, hk, hNN, fun ρ a w ht hinv hf => wp_block (wp_mono (hok ρ a w ht hinv hf) ?_)⟩
        rintro e a' w' ⟨rfl, hp⟩
        cases hq : L.oE z with
        | normal => exact absurd hq h2
        | exit i => exact absurd hq (ho i)
        | ret => exact ⟨rfl, hp⟩
    · simp at h
end
/-- Laws of several blocks. -/
theorem laws_cons {P : Program} {nt : Nat} {id : Nat} {h : Handler} {l : List (Nat × Handler)} {c : Code} (hh : ∀ c' ∈ subs id c, HSnd P nt c' h) (hl : LawsOK P nt l c) : LawsOK P nt ((id, h) :: l) c := by
  intro i h' hi c' hc'
  unfold lawOf at hi
  cases hb : Nat.beq id i with
  | true =>
    rw [hb] at hi
    rw [beq_true] at hb
    subst hb
    simp only [cond_true, Option.some.injEq] at hi
    subst hi
    exact hh c' hc'
  | false => rw [hb] at hi; exact hl i h' hi c' hc'
theorem subs_one {id : Nat} {c b : Code} {p : Code → Prop} (hs : subs id c = [b]) (h : p b) : ∀ c' ∈ subs id c, p c' := by
  intro c' hc'
  rw [hs] at hc'
  simp only [List.mem_singleton] at hc'
  subst hc'; exact h
theorem fok_of {P : Program} {fn : Func} {F : Cfg} (h : LawsOK P fn.ntmps F.laws (bodyC fn)) : FOK P fn F := by
  intro c hc
  have : bodyC fn = c := by unfold bodyC; rw [hc]
  rw [← this]; exact h

/-! ### one of two handlers; a block by its own code -/
def orH (N0 : Nat) (h h' : Handler) : Handler := fun R tm H N K => bif Nat.beq N N0 then h R tm H N K else h' R tm H N K
theorem orH_snd {P : Program} {nt : Nat} {c : Code} {N0 : Nat} {h h' : Handler} (h1 : HSnd P nt c h) (h2 : HSnd P nt c h') : HSnd P nt c (orH N0 h h') := by
  intro R r tm H N K hk
  unfold orH at hk
  cases hn : Nat.beq N N0 with
  | true => rw [hn] at hk; exact h1 R r tm H N K hk
  | false => rw [hn] at hk; exact h2 R r tm H N K hk
def selfH (P : Program) (C : Oracle) (D : DrawA) (F : Cfg) (nt : Nat) (c : Code) : Handler := fun _ tm H N K => codeA P C D F nt c tm H N K
theorem selfH_snd {P : Program} {C : Oracle} {D : DrawA} {F : Cfg} {nt : Nat} {c : Code} (hC : Snd P C) (hD : DSnd P nt D) (hH : LawsOK P nt F.laws c) : HSnd P nt c (selfH P C D F nt c) := by
  intro R r tm H N K hk
  exact codeA_sound hC hD c hH hk

/-! ### calls in just the memory that is told of -/
def inlS (P : Program) (g : Nat) (fn : Func) (F : Cfg) (D C : Oracle) : Oracle := fun R g' args H N K =>
  bif Nat.beq g' g then
    let xs := liveGo 0 H 400 (AV.namesL args) []
    bif nodupB xs && allIn xs (AV.namesL args) && belowB N xs then
      match takeH H xs xs 0 with
      | some Hc => inlineA P D (drawA P) F fn (AV.renL (fun n => posN n xs) args) Hc xs.length fun v e k' =>
        bif Nat.ble xs.length k' && belowB k' (namesOf e) then K (v.ren (mapN xs N)) (renE (mapN xs N) e) (Nat.add N (Nat.sub k' xs.length)) else none
      | none => none
    else none
  else C R g' args H N K
theorem inlS_snd {P : Program} {g : FuncId} {fn : Func} {F : Cfg} {D C : Oracle} (hfn : P.funcs[g]? = some fn) (hname : (fn.name == "runtime.NumGoroutine") = false) (hD : Snd P D) (hC : Snd P C) (hF : FOK P fn F := by first | exact fok_nil rfl | assumption) : Snd P (inlS P g fn F D C) := by
  intro R g' args H N K r h
  unfold inlS at h
  cases hg : Nat.beq g' g with
  | false => rw [hg] at h; exact hC R g' args H N K r h
  | true =>
    rw [hg] at h
    have hg' : g' = g := Nat.eq_of_beq_eq_true hg
    subst hg'
    simp only [cond_true] at h
    generalize liveGo 0 H 400 (AV.namesL args) [] = xs at h
    cases hc : (nodupB xs && allIn xs (AV.namesL args) && belowB N xs) with
    | false => rw [hc] at h; simp at h
    | true =>
      rw [hc] at h
      simp only [cond_true] at h
      simp only [Bool.and_eq_true] at hc
      obtain ⟨⟨hnd, hal⟩, hbl⟩ := hc
      split at h
      · rename_i Hc ht
        obtain ⟨v, e, k', hk0, hle, hans⟩ := inlineA_sound hD hfn hF hname h
        cases hk : (Nat.ble xs.length k' && belowB k' (namesOf e)) with
        | false => rw [hk] at hk0; simp at hk0
        | true =>
          rw [hk] at hk0
          simp only [cond_true] at hk0
          simp only [Bool.and_eq_true] at hk
          obtain ⟨t1, t2, t3⟩ := takeH_spec ht (fun j hj => by simp)
          have hlt := belowB_iff hbl
          have hback : ∀ n ∈ xs, mapN xs N (posN n xs) = n := fun n hn => by
            have := mapN_lt (N := N) (posN_lt hn).1
            rw [(posN_lt hn).2] at this; simp at this; exact this.symm
          have hin := allIn_iff hal
          have hkk := ble_true.1 hk.1
          refine ⟨_, _, _, hk0, Nat.le_add_right _ _, ?_⟩
          have key := ans_ren (xs := xs) (N := N) hans hkk hnd hlt
            (fun n hn => by obtain ⟨m, hm, rfl⟩ := namesL_ren args n hn; exact (posN_lt (hin m hm)).1)
            (fun x b hx => by
              obtain ⟨_, q2, x', b0, _, _, rfl, q6⟩ := t3 x b hx
              refine ⟨by omega, fun n hn => ?_⟩
              obtain ⟨m, hm, rfl⟩ := segNames_ren b0.segs n hn
              exact (posN_lt (q6 m hm)).1)
            (fun x hx => ⟨belowB_iff hk.2 x hx, fun hx2 => by have := t2 x hx2; rwa [Nat.zero_add] at this⟩)
            (H := H) (fun y b hy => by
              have inj := mapN_inj (N := N) hnd hlt
              have tw := twin_ren inj Hc
              obtain ⟨j, rfl⟩ := tw.2 y b hy
              rw [tw.1] at hy
              cases hq : Hc.find j with
              | none => rw [hq] at hy; simp at hy
              | some b1 =>
                rw [hq] at hy; simp at hy; subst hy
                obtain ⟨_, q2, x, b0, q3, q4, rfl, q6⟩ := t3 j b1 hq
                have hjx : mapN xs N j = x := by
                  have := mapN_lt (N := N) (i := j) (xs := xs) (by omega)
                  rw [q3] at this; simp at this; exact this.symm
                rw [hjx, q4]
                simp only [blkRen]
                rw [segRen_back b0.segs (fun n hn => hback n (q6 n hn))])
          rw [renL_back args (fun n hn => hback n (hin n hn))] at key
          exact key
      · simp at h

/-! ### such calls that write nothing -/
def quiS (P : Program) (g : Nat) (fn : Func) (F : Cfg) (D C : Oracle) : Oracle := fun R g' args H N K =>
  bif Nat.beq g' g then
    let xs := liveGo 0 H 400 (AV.namesL args) []
    bif nodupB xs && allIn xs (AV.namesL args) && belowB N xs then
      match takeH H xs xs 0 with
      | some Hc => quietA P D (drawA P) F fn (AV.renL (fun n => posN n xs) args) Hc xs.length fun v e k' =>
        bif Nat.ble xs.length k' && belowB k' (namesOf e) then K (v.ren (mapN xs N)) (renE (mapN xs N) e) (Nat.add N (Nat.sub k' xs.length)) else none
      | none => none
    else none
  else C R g' args H N K
theorem quiS_snd {P : Program} {g : FuncId} {fn : Func} {F : Cfg} {D C : Oracle} (hfn : P.funcs[g]? = some fn) (hname : (fn.name == "runtime.NumGoroutine") = false) (hD : Snd P D) (hC : Snd P C) (hF : FOK P fn F := by first | exact fok_nil rfl | assumption) : Snd P (quiS P g fn F D C) := by
  intro R g' args H N K r h
  unfold quiS at h
  cases hg : Nat.beq g' g with
  | false => rw [hg] at h; exact hC R g' args H N K r h
  | true =>
    rw [hg] at h
    have hg' : g' = g := Nat.eq_of_beq_eq_true hg
    subst hg'
    simp only [cond_true] at h
    generalize liveGo 0 H 400 (AV.namesL args) [] = xs at h
    cases hc : (nodupB xs && allIn xs (AV.namesL args) && belowB N xs) with
    | false => rw [hc] at h; simp at h
    | true =>
      rw [hc] at h
      simp only [cond_true] at h
      simp only [Bool.and_eq_true] at hc
      obtain ⟨⟨hnd, hal⟩, hbl⟩ := hc
      split at h
      · rename_i Hc ht
        obtain ⟨v, e, k', hk0, hle, hans⟩ := quietA_sound hD hfn hF hname h
        cases hk : (Nat.ble xs.length k' && belowB k' (namesOf e)) with
        | false => rw [hk] at hk0; simp at hk0
        | true =>
          rw [hk] at hk0
          simp only [cond_true] at hk0
          simp only [Bool.and_eq_true] at hk
          obtain ⟨t1, t2, t3⟩ := takeH_spec ht (fun j hj => by simp)
          have hlt := belowB_iff hbl
          have hback : ∀ n ∈ xs, mapN xs N (posN n xs) = n := fun n hn => by
            have := mapN_lt (N := N) (posN_lt hn).1
            rw [(posN_lt hn).2] at this; simp at this; exact this.symm
          have hin := allIn_iff hal
          have hkk := ble_true.1 hk.1
          refine ⟨_, _, _, hk0, Nat.le_add_right _ _, ?_⟩
          have key := ans_ren (xs := xs) (N := N) hans hkk hnd hlt
            (fun n hn => by obtain ⟨m, hm, rfl⟩ := namesL_ren args n hn; exact (posN_lt (hin m hm)).1)
            (fun x b hx => by
              obtain ⟨_, q2, x', b0, _, _, rfl, q6⟩ := t3 x b hx
              refine ⟨by omega, fun n hn => ?_⟩
              obtain ⟨m, hm, rfl⟩ := segNames_ren b0.segs n hn
              exact (posN_lt (q6 m hm)).1)
            (fun x hx => ⟨belowB_iff hk.2 x hx, fun hx2 => by have := t2 x hx2; rwa [Nat.zero_add] at this⟩)
            (H := H) (fun y b hy => by
              have inj := mapN_inj (N := N) hnd hlt
              have tw := twin_ren inj Hc
              obtain ⟨j, rfl⟩ := tw.2 y b hy
              rw [tw.1] at hy
              cases hq : Hc.find j with
              | none => rw [hq] at hy; simp at hy
              | some b1 =>
                rw [hq] at hy; simp at hy; subst hy
                obtain ⟨_, q2, x, b0, q3, q4, rfl, q6⟩ := t3 j b1 hq
                have hjx : mapN xs N j = x := by
                  have := mapN_lt (N := N) (i := j) (xs := xs) (by omega)
                  rw [q3] at this; simp at this; exact this.symm
                rw [hjx, q4]
                simp only [blkRen]
                rw [segRen_back b0.segs (fun n hn => hback n (q6 n hn))])
          rw [renL_back args (fun n hn => hback n (hin n hn))] at key
          exact key
      · simp at h

/-! ### entries of functions over memory -/
/-- A function's law over memory: α: arguments and memory; β: the answer and memory behind it. -/
structure EL (P : Program) (C : Oracle) (F : Cfg) (fn : Func) (α β : Type) where
  eA : α → List AV
  eH : α → Heap
  dec : List AV → Heap → Option α
  dec_ok : ∀ args H x, dec args H = some x → args = eA x ∧ H = eH x
  enc : β → AV × Eff × Nat
  decR : AV → Eff → Nat → Option β
  decR_ok : ∀ v e k z, decR v e k = some z → (v, e, k) = enc z
  step : α → Option β
  hstep : ∀ x, inlineA P C (drawA P) F fn (eA x) (eH x) (eH x).length decR = step x
def elE {α β : Type} (g : Nat) (dec : List AV → Heap → Option α) (ok : α → Bool) (f : α → β) (enc : β → AV × Eff × Nat) (C : Oracle) : Oracle :=
  stGE g (fun args H => match dec args H with
    | some x => some (ok x, enc (f x))
    | none => none) C
theorem elE_snd {P : Program} {C D : Oracle} {F : Cfg} {g : FuncId} {fn : Func} {α β : Type} (L : EL P C F fn α β) (hC : Snd P C) (hfn : P.funcs[g]? = some fn) (hname : (fn.name == "runtime.NumGoroutine") = false) {ok : α → Bool} {f : α → β}
    (hf : ∀ x, ok x = true → L.step x = some (f x)) (hD : Snd P D) (hF : FOK P fn F := by first | exact fok_nil rfl | assumption) : Snd P (elE g L.dec ok f L.enc D) := by
  refine stGE_snd ?_ hD
  intro args H v e k' h
  have h := unG_of h
  split at h
  · rename_i x hx
    simp only [Option.some.injEq, Prod.mk.injEq] at h
    obtain ⟨h1, h2⟩ := h
    obtain ⟨rfl, rfl⟩ := L.dec_ok _ _ _ hx
    have hr := L.hstep x
    rw [hf x h1] at hr
    obtain ⟨v', e', N', hk, hN, hans⟩ := inlineA_sound hC hfn hF hname hr
    have := L.decR_ok _ _ _ _ hk
    rw [h2] at this
    simp only [Prod.mk.injEq] at this
    obtain ⟨rfl, rfl, rfl⟩ := this
    exact hans
  · simp at h
theorem lit64d {x : BitVec 64} {n : Nat} (h : x.toNat = n) (hn : n < 2 ^ 64) : x = BitVec.ofNat 64 n := by
  apply BitVec.eq_of_toNat_eq
  rw [BitVec.toNat_ofNat, Nat.mod_eq_of_lt hn]
  exact h
/-! ### a call, parted by a number among its arguments -/
def splitGo {R : Type} (C : Oracle) (g i : Nat) (args : List AV) (cx : BitVec 64) (H : Heap) (N : Nat) (K : AV → Eff → Nat → Option R) : List (BitVec 64) → Option R
  | [] => C R g args H N K
  | c :: l => cond (cx == c) (C R g (args.set i (.int .i64 c)) H N K) (splitGo C g i args cx H N K l)
def splitE (g i : Nat) (lits : List (BitVec 64)) (C : Oracle) : Oracle := fun R g' args H N K =>
  bif Nat.beq g' g then match args[i]? with
    | some (.int .i64 cx) => splitGo C g i args cx H N K lits
    | _ => C R g' args H N K
  else C R g' args H N K
theorem splitGo_eq {R : Type} {C : Oracle} {g i : Nat} {args : List AV} {cx : BitVec 64} {H : Heap} {N : Nat} {K : AV → Eff → Nat → Option R} {r : R} (hx : args[i]? = some (.int .i64 cx)) : ∀ l, splitGo C g i args cx H N K l = some r → C R g args H N K = some r
  | [], h => h
  | c :: l, h => by
    simp only [splitGo] at h
    cases hc : (cx == c) with
    | false => rw [hc] at h; exact splitGo_eq hx l h
    | true =>
      rw [hc] at h
      simp only [beq_iff_eq] at hc
      subst hc
      have e : args.set i (.int .i64 cx) = args := by
        apply List.ext_getElem?
        intro j
        rw [List.getElem?_set]
        split
        · rename_i hj
          subst hj
          split
          · exact hx.symm
          · rename_i hlt; rw [List.getElem?_eq_none (by omega)] at hx; simp at hx
        · rfl
      rw [e] at h; exact h
theorem splitE_snd {P : Program} {g i : Nat} {lits : List (BitVec 64)} {C : Oracle} (hC : Snd P C) : Snd P (splitE g i lits C) := by
  intro R g' args H N K r h
  refine hC R g' args H N K r ?_
  unfold splitE at h
  cases hg : Nat.beq g' g with
  | false => rw [hg] at h; exact h
  | true =>
    rw [hg] at h
    obtain rfl : g' = g := Nat.eq_of_beq_eq_true hg
    simp only [cond_true] at h
    split at h
    · rename_i cx hx
      exact splitGo_eq hx lits h
    · exact h
/-! ### for looking: what stands where a block begins -/
def probe : Handler := fun R tm H N K => K (.exit 999999) tm H N
def tmsOf (tm : TM) : Nat → List Nat → List (Nat × AV)
  | _, [] => []
  | i, _ :: r => match tm.get i with
    | .any => tmsOf tm (i + 1) r
    | v => (i, v) :: tmsOf tm (i + 1) r
def heads (P : Program) (C : Oracle) (F : Cfg) (fn : Func) (ids : List Nat) (args : List AV) (H : Heap) (N : Nat) : Option (List (Nat × AV) × Heap × Nat) :=
  codeA P C (drawA P F.fl fn.ntmps C) { F with laws := ids.map (fun i => (i, probe)) ++ F.laws } fn.ntmps (bodyC fn) (TM.ofArgs .nil 0 args) H N fun o tm H N => match o with
    | .exit i => bif Nat.beq i 999999 then some (tmsOf tm 0 (List.replicate fn.ntmps 0), H, N) else none
    | _ => none
/-! ### numbers of cells, with their width told -/
def asI64 (v : AV) : BitVec 64 := v.asInt .i64
def asU64 (v : AV) : BitVec 64 := v.asInt .u64
def asU32 (v : AV) : BitVec 32 := v.asInt .u32
def asU16 (v : AV) : BitVec 16 := v.asInt .u16
def asU8 (v : AV) : BitVec 8 := v.asInt .u8
def asI8 (v : AV) : BitVec 8 := v.asInt .i8
@[simp] theorem asI64_mk (x : BitVec 64) : asI64 (.int .i64 x) = x := rfl
@[simp] theorem asU64_mk (x : BitVec 64) : asU64 (.int .u64 x) = x := rfl
@[simp] theorem asU32_mk (x : BitVec 32) : asU32 (.int .u32 x) = x := rfl
@[simp] theorem asU16_mk (x : BitVec 16) : asU16 (.int .u16 x) = x := rfl
@[simp] theorem asU8_mk (x : BitVec 8) : asU8 (.int .u8 x) = x := rfl
@[simp] theorem asI8_mk (x : BitVec 8) : asI8 (.int .i8 x) = x := rfl
@[simp] theorem asBool_mk (x : Bool) : AV.asBool (.bool x) = x := rfl
end Go.Sx

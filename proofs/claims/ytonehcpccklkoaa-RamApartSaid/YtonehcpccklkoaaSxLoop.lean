/- Laws of loops: from a law of one round to a law of the whole. -/
import Derived.Test.YtonehcpccklkoaaSxR
set_option linter.unusedSimpArgs false
set_option linter.unusedVariables false
set_option linter.unnecessarySimpa false
namespace Go.Sx
open Go

def tmOf : List Nat → List AV → TM
  | k :: ks, v :: vs => (tmOf ks vs).set 12 k v
  | _, _ => .nil
def hpOf : List Nat → List Blk → Heap
  | k :: ks, b :: bs => (k, b) :: hpOf ks bs
  | _, _ => []
def obsT : List Nat → TM → List AV
  | [], _ => []
  | k :: ks, tm => tm.get k :: obsT ks tm
def obsH : List Nat → Heap → List (Option Blk)
  | [], _ => []
  | k :: ks, H => H.find k :: obsH ks H

theorem tmOf_get : ∀ {ks : List Nat} {vs : List AV} {tm : TM}, obsT ks tm = vs → ∀ t, (tmOf ks vs).get t = .any ∨ (tmOf ks vs).get t = tm.get t
  | [], vs, tm, h, t => by simp [tmOf, TM.get]
  | k :: ks, [], tm, h, t => by simp [tmOf, TM.get]
  | k :: ks, v :: vs, tm, h, t => by
    simp only [obsT, List.cons.injEq] at h
    simp only [tmOf]
    rcases TM_get_set 12 (tmOf ks vs) k v t with h1 | ⟨h1, h2⟩ | ⟨h1, h2⟩
    · exact .inl h1
    · right; rw [h2, h1, h.1]
    · rw [h2]; exact tmOf_get h.2 t
theorem hpOf_find : ∀ {ks : List Nat} {bs : List Blk} {H : Heap}, obsH ks H = bs.map some → ∀ x b, (hpOf ks bs).find x = some b → H.find x = some b
  | [], bs, H, h, x, b, hx => by simp [hpOf, Heap.find] at hx
  | k :: ks, [], H, h, x, b, hx => by simp [hpOf, Heap.find] at hx
  | k :: ks, c :: bs, H, h, x, b, hx => by
    simp only [obsH, List.map_cons, List.cons.injEq] at h
    simp only [hpOf, Heap.find] at hx
    by_cases hk : k = x
    · subst hk
      rw [Nat.beq_refl] at hx
      simp only [cond_true, Option.some.injEq] at hx
      rw [← hx]; exact h.1
    · rw [beq_false.2 hk] at hx
      exact hpOf_find h.2 x b hx
theorem Tms.weaken {ρ : Env} {nt : Nat} {tm tm' : TM} {a : Act} (h : Tms ρ nt tm a) (hw : ∀ t, tm'.get t = .any ∨ tm'.get t = tm.get t) : Tms ρ nt tm' a := by
  refine ⟨h.1, fun t => ?_⟩
  rcases hw t with h1 | h1
  · rw [h1]; simp [VR]
  · rw [h1]; exact h.2 t
theorem Step.weaken {ρ ρ' : Env} {H H' G : Heap} {N N' : Nat} {w w' : World} (h : Step ρ H N w ρ' H' N' w') (hs : ∀ x b, G.find x = some b → H'.find x = some b) : Step ρ H N w ρ' G N' w' :=
  ⟨h.ext, h.os, h.tape, h.output, h.size, h.block, h.inv.sub hs, fun y k l hy hl => h.prov y k l (hs y k hy) hl⟩

/-- What is known at a point: some temporaries, some blocks, the next name. -/
structure Pt where
  ks : List Nat
  vs : List AV
  ns : List Nat
  bs : List Blk
  N : Nat
def Pt.tm (p : Pt) : TM := tmOf p.ks p.vs
def Pt.H (p : Pt) : Heap := hpOf p.ns p.bs
/-- Does more stand there? -/
def Pt.le (p : Pt) (tm : TM) (H : Heap) (N : Nat) : Prop := obsT p.ks tm = p.vs ∧ obsH p.ns H = p.bs.map some ∧ N = p.N

section
variable {P : Program}
/-- What stands before with less, stands before with more. -/
theorem CodeOK.weaken {nt : Nat} {c : Code} {p : Pt} {tm : TM} {H : Heap} {N : Nat} {o : Out} {tm' : TM} {H' : Heap} {N' : Nat} (h : CodeOK P nt c p.tm p.H p.N o tm' H' N') (hp : p.le tm H N) : CodeOK P nt c tm H N o tm' H' N' := by
  obtain ⟨h1, h2, h3⟩ := hp
  subst h3
  intro ρ a w ht hi hf
  refine wp_mono (h ρ a w (ht.weaken (tmOf_get h1)) (hi.sub (hpOf_find h2)) hf) ?_
  rintro e a' w' ⟨rfl, ρ', hst, ht', hd⟩
  refine ⟨rfl, ρ', ?_, ht', hd⟩
  have hle : ∀ b, Owned ρ p.H b → Owned ρ H b := by
    rintro b ⟨x, k, l, hx, r⟩
    exact ⟨x, k, l, hpOf_find h2 x k hx, r⟩
  refine ⟨hst.ext, hst.os, hst.tape, hst.output, hst.size, fun b hb hn => hst.block b hb (fun ho => hn (hle b ho)), hst.inv, fun y k l hy hl => ?_⟩
  rcases hst.prov y k l hy hl with ⟨z, kz, lz, hz, r⟩ | h'
  · exact .inl ⟨z, kz, lz, hpOf_find h2 z kz hz, r⟩
  · exact .inr h'
theorem CodeOK.post {nt : Nat} {c : Code} {tm : TM} {H : Heap} {N : Nat} {o : Out} {tm' : TM} {H' : Heap} {N' : Nat} {q : Pt} (h : CodeOK P nt c tm H N o tm' H' N') (hq : q.le tm' H' N') : CodeOK P nt c tm H N o q.tm q.H q.N := by
  obtain ⟨h1, h2, h3⟩ := hq
  subst h3
  intro ρ a w ht hi hf
  refine wp_mono (h ρ a w ht hi hf) ?_
  rintro e a' w' ⟨rfl, ρ', hst, ht', hd⟩
  exact ⟨rfl, ρ', hst.weaken (hpOf_find h2), ht'.weaken (tmOf_get h1), hd⟩

/-- What is looked at behind a round that goes on; behind one that ends. -/
def nextK (N0 : Nat) (roots kT kH : List Nat) (o : Out) (tm : TM) (H : Heap) (N : Nat) : Option (List AV × List (Option Blk) × Nat) := match o with
  | .normal => normA N0 roots tm H fun tm H N => some (obsT kT tm, obsH kH H, N)
  | _ => none
def lastK (kT kH : List Nat) (o : Out) (tm : TM) (H : Heap) (N : Nat) : Option (Out × List AV × List (Option Blk) × Nat) := match o with
  | .normal => none
  | o => some (o, obsT kT tm, obsH kH H, N)
def stepN {α β : Type} (vT : α → List AV) (vH : α → List Blk) (N0 : Nat) : α ⊕ β → Option (List AV × List (Option Blk) × Nat)
  | .inl y => some (vT y, (vH y).map some, N0)
  | .inr _ => none
def stepE {α β : Type} (oE : β → Out) (eT : β → List AV) (eH : β → List Blk) (eN : β → Nat) : α ⊕ β → Option (Out × List AV × List (Option Blk) × Nat)
  | .inl _ => none
  | .inr z => some (oE z, eT z, (eH z).map some, eN z)
def wholeP {α β : Type} (f : α → β) (m : α → Nat) (x : α) : α ⊕ β → Prop
  | .inl y => m y < m x ∧ f x = f y
  | .inr z => f x = z
/-- A loop's law: α: what stands at its head; step: one round; f: the whole. -/
structure LoopLaw (P : Program) (C : Oracle) (nt : Nat) (D : DrawA) (F : Cfg) (c : Code) (α β : Type) where
  N0 : Nat
  rts : List Nat := F.roots
  kT : List Nat
  kH : List Nat
  vT : α → List AV
  vH : α → List Blk
  kE : List Nat
  hE : List Nat
  eT : β → List AV
  eH : β → List Blk
  eN : β → Nat
  oE : β → Out
  step : α → α ⊕ β
  f : α → β
  m : α → Nat
  next : ∀ x, codeA P C D F nt c (tmOf kT (vT x)) (hpOf kH (vH x)) N0 (nextK N0 rts kT kH) = stepN vT vH N0 (step x)
  last : ∀ x, codeA P C D F nt c (tmOf kT (vT x)) (hpOf kH (vH x)) N0 (lastK kE hE) = stepE oE eT eH eN (step x)
  ends : ∀ z, oE z ≠ .normal
  whole : ∀ x, wholeP f m x (step x)
def LoopLaw.pE {C : Oracle} {nt : Nat} {D : DrawA} {F : Cfg} {c : Code} {α β : Type} (L : LoopLaw P C nt D F c α β) (z : β) : Pt := ⟨L.kE, L.eT z, L.hE, L.eH z, L.eN z⟩

theorem LoopLaw.sound {C : Oracle} {nt : Nat} {D : DrawA} {F : Cfg} {c : Code} {α β : Type} (L : LoopLaw P C nt D F c α β) (hC : Snd P C) (hD : DSnd P nt D) (hH : LawsOK P nt F.laws c) (x : α) :
    L.N0 ≤ (L.pE (L.f x)).N ∧ CodeOK P nt (.loop c) (tmOf L.kT (L.vT x)) (hpOf L.kH (L.vH x)) L.N0 (L.oE (L.f x)) (L.pE (L.f x)).tm (L.pE (L.f x)).H (L.pE (L.f x)).N := by
  have key : ∀ (n : Nat) (x : α), L.m x < n → L.N0 ≤ (L.pE (L.f x)).N ∧ ∀ (ρ0 : Env) (H0 : Heap) (a0 : Act) (w0 : World) (ρ : Env) (a : Act) (w : World), FreshI ρ0 L.N0 → Step ρ0 H0 L.N0 w0 ρ (hpOf L.kH (L.vH x)) L.N0 w → Tms ρ nt (tmOf L.kT (L.vT x)) a → a.defers = a0.defers →
      Code.rounds P c (fun e a' w' => e = (L.oE (L.f x)).to ∧ CodePost ρ0 nt H0 L.N0 w0 (L.pE (L.f x)).tm (L.pE (L.f x)).H (L.pE (L.f x)).N a0 a' w') n a w := by
    intro n
    induction n with
    | zero => intro x hx; omega
    | succ n ih =>
      intro x hx
      have hrn := L.next x
      have hre := L.last x
      have hw := L.whole x
      cases hs : L.step x with
      | inl y =>
        rw [hs] at hrn hw
        have hr := hrn
        simp only [stepN, wholeP] at hr hw
        obtain ⟨hm, hf⟩ := hw
        obtain ⟨hN, hy⟩ := ih y (by omega)
        rw [hf]
        refine ⟨hN, fun ρ0 H0 a0 w0 ρ a w hfr hst ht hd => ?_⟩
        obtain ⟨o, tm1, H1, N1, hk, hN1, hc⟩ := codeA_sound hC hD c hH hr
        cases o with
        | exit i => simp [nextK] at hk
        | ret => simp [nextK] at hk
        | normal =>
          simp only [nextK] at hk
          obtain ⟨tm2, H2, N2, h2, hN2, hn⟩ := normA_sound (nt := nt) hk
          simp only [Option.some.injEq, Prod.mk.injEq] at h2
          obtain ⟨e1, e2, e3⟩ := h2
          subst e3
          rw [rounds_succ]
          have hfr' : FreshI ρ L.N0 := hfr.next hst (Nat.le_refl _)
          refine wp_mono (hc ρ a w ht hst.inv hfr') ?_
          rintro e a' w' ⟨rfl, ρ', hst', ht', hd'⟩
          simp only [Out.to, Exit.then]
          have hbig : Step ρ0 H0 L.N0 w0 ρ' H1 N1 w' := hst.trans hst' (Nat.le_refl _) hN1
          obtain ⟨ρ3, hst3, ht3⟩ := hn ρ0 H0 w0 ρ' N1 w' a' hbig ht'
          exact hy ρ0 H0 a0 w0 ρ3 a' w' hfr (hst3.weaken (hpOf_find e2)) (ht3.weaken (tmOf_get e1)) (hd'.trans hd)
      | inr z =>
        rw [hs] at hre hw
        have hr := hre
        simp only [stepE, wholeP] at hr hw
        subst hw
        obtain ⟨o, tm1, H1, N1, hk, hN1, hc⟩ := codeA_sound hC hD c hH hr
        have main : ∀ (ho : o ≠ .normal) (hk : some (o, obsT L.kE tm1, obsH L.hE H1, N1) = some (L.oE (L.f x), L.eT (L.f x), (L.eH (L.f x)).map some, L.eN (L.f x))), L.N0 ≤ (L.pE (L.f x)).N ∧ ∀ (ρ0 : Env) (H0 : Heap) (a0 : Act) (w0 : World) (ρ : Env) (a : Act) (w : World), FreshI ρ0 L.N0 → Step ρ0 H0 L.N0 w0 ρ (hpOf L.kH (L.vH x)) L.N0 w → Tms ρ nt (tmOf L.kT (L.vT x)) a → a.defers = a0.defers →
            Code.rounds P c (fun e a' w' => e = (L.oE (L.f x)).to ∧ CodePost ρ0 nt H0 L.N0 w0 (L.pE (L.f x)).tm (L.pE (L.f x)).H (L.pE (L.f x)).N a0 a' w') (n + 1) a w := by
          intro ho hk
          simp only [Option.some.injEq, Prod.mk.injEq] at hk
          obtain ⟨e0, e1, e2, e3⟩ := hk
          refine ⟨by rw [LoopLaw.pE]; simp only; omega, fun ρ0 H0 a0 w0 ρ a w hfr hst ht hd => ?_⟩
          rw [rounds_succ]
          have hfr' : FreshI ρ L.N0 := hfr.next hst (Nat.le_refl _)
          refine wp_mono (hc ρ a w ht hst.inv hfr') ?_
          rintro e a' w' ⟨rfl, ρ', hst', ht', hd'⟩
          have hbig : Step ρ0 H0 L.N0 w0 ρ' H1 N1 w' := hst.trans hst' (Nat.le_refl _) hN1
          have hp : o.to = (L.oE (L.f x)).to ∧ CodePost ρ0 nt H0 L.N0 w0 (L.pE (L.f x)).tm (L.pE (L.f x)).H (L.pE (L.f x)).N a0 a' w' := by
            refine ⟨by rw [e0], ρ', ?_, ht'.weaken (tmOf_get e1), hd'.trans hd⟩
            have hb2 : Step ρ0 H0 L.N0 w0 ρ' (L.pE (L.f x)).H N1 w' := hbig.weaken (hpOf_find e2)
            rw [show (L.pE (L.f x)).N = N1 from e3.symm]
            exact hb2
          cases o with
          | normal => exact absurd rfl ho
          | exit i => exact hp
          | ret => exact hp
        cases o with
        | normal => simp [lastK] at hk
        | exit i => exact main (by simp) hk
        | ret => exact main (by simp) hk
  obtain ⟨hN, hk⟩ := key (L.m x + 1) x (Nat.lt_succ_self _)
  refine ⟨hN, fun ρ a w ht hi hf => wp_loop_rounds (L.m x + 1) (hk ρ (hpOf L.kH (L.vH x)) a w ρ a w hf (Step.refl hi) ht rfl)⟩

/-- The law of a loop in its block, as a handler. -/
def LoopLaw.handler {C : Oracle} {nt : Nat} {D : DrawA} {F : Cfg} {c : Code} {α β : Type} (L : LoopLaw P C nt D F c α β) (id : Nat) (dec : List AV → List (Option Blk) → Option α) : Handler := fun R tm H N K =>
  bif Nat.beq N L.N0 then match dec (obsT L.kT tm) (obsH L.kH H) with
    | some x => (match L.oE (L.f x) with
      | .exit i => bif Nat.beq i id then K .normal (L.pE (L.f x)).tm (L.pE (L.f x)).H (L.pE (L.f x)).N else K (.exit i) (L.pE (L.f x)).tm (L.pE (L.f x)).H (L.pE (L.f x)).N
      | o => K o (L.pE (L.f x)).tm (L.pE (L.f x)).H (L.pE (L.f x)).N)
    | none => none
  else none
theorem LoopLaw.handler_snd {C : Oracle} {nt : Nat} {D : DrawA} {F : Cfg} {c : Code} {α β : Type} (L : LoopLaw P C nt D F c α β) (hC : Snd P C) (hD : DSnd P nt D) (hH : LawsOK P nt F.laws c) (id : Nat) (dec : List AV → List (Option Blk) → Option α)
    (hdec : ∀ vs bs x, dec vs bs = some x → vs = L.vT x ∧ bs = (L.vH x).map some) : HSnd P nt (.block id (.loop c)) (L.handler id dec) := by
  intro R r tm H N K h
  unfold LoopLaw.handler at h
  cases hn : Nat.beq N L.N0 with
  | false => rw [hn] at h; simp at h
  | true =>
    rw [hn] at h
    simp only [cond_true] at h
    rw [beq_true] at hn
    split at h
    · rename_i x hx
      obtain ⟨e1, e2⟩ := hdec _ _ _ hx
      obtain ⟨hN, hok⟩ := L.sound hC hD hH x
      have hok' := CodeOK.weaken (p := ⟨L.kT, L.vT x, L.kH, L.vH x, L.N0⟩) hok ⟨e1, e2, hn⟩
      subst hn
      split at h
      · rename_i i hi
        cases hb : Nat.beq i id with
        | true =>
          rw [hb] at h
          simp only [cond_true] at h
          rw [beq_true] at hb
          subst hb
          refine ⟨_, _, _, _, h, hN, fun ρ a w ht hinv hf => wp_block (wp_mono (hok' ρ a w ht hinv hf) ?_)⟩
          rintro e a' w' ⟨rfl, hp⟩
          rw [hi]
          simp only [Out.to, Exit.inBlock, if_true]
          exact ⟨trivial, hp⟩
        | false =>
          rw [hb] at h
          simp only [cond_false] at h
          rw [beq_false] at hb
          refine ⟨_, _, _, _, h, hN, fun ρ a w ht hinv hf => wp_block (wp_mono (hok' ρ a w ht hinv hf) ?_)⟩
          rintro e a' w' ⟨rfl, hp⟩
          rw [hi]
          simp only [Out.to, Exit.inBlock, if_neg hb]
          exact ⟨trivial, hp⟩
      · rename_i o ho
        refine ⟨_, _, _, _, h, hN, fun ρ a w ht hinv hf => wp_block (wp_mono (hok' ρ a w ht hinv hf) ?_)⟩
        rintro e a' w' ⟨rfl, hp⟩
        cases hq : L.oE (L.f x) with
        | normal => exact absurd hq (L.ends _)
        | exit i => exact absurd hq (ho i)
        | ret => exact ⟨rfl, hp⟩
    · simp at h

/-- A law of one block. -/
theorem laws_one {nt : Nat} {id : Nat} {h : Handler} {c : Code} {b : Code} (hs : subs id c = [b]) (hh : HSnd P nt b h) : LawsOK P nt [(id, h)] c := by
  intro i h' hl c' hc'
  unfold lawOf at hl
  cases hb : Nat.beq id i with
  | true =>
    rw [hb] at hl
    rw [beq_true] at hb
    subst hb
    simp only [cond_true, Option.some.injEq] at hl
    subst hl
    rw [hs] at hc'
    simp only [List.mem_singleton] at hc'
    subst hc'
    exact hh
  | false => rw [hb] at hl; simp [lawOf] at hl
theorem cond_app {α β : Type} (g : α → β) (c : Bool) {x y : β} {a b : α} (h1 : x = g a) (h2 : y = g b) : cond c x y = g (cond c a b) := by cases c <;> assumption
def bodyC (fn : Func) : Code := match fn.body with | some c => c | none => .skip
def loopIn (id : Nat) (fn : Func) : Code := match subs id (bodyC fn) with
  | [.block _ (.loop c)] => c
  | _ => .skip
theorem fok_one {fn : Func} {F : Cfg} {id : Nat} {h : Handler} {b : Code} (hl : F.laws = [(id, h)]) (hs : subs id (bodyC fn) = [b]) (hh : HSnd P fn.ntmps b h) : FOK P fn F := by
  intro c hc
  rw [hl]
  refine laws_one (b := b) ?_ hh
  rw [← hs]
  unfold bodyC
  rw [hc]
theorem laws_nil {nt : Nat} {c : Code} : LawsOK P nt [] c := by
  intro i h hl; simp [lawOf] at hl
end
end Go.Sx

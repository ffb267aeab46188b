/- Several texts in one. -/
import Derived.Test.YtkbcfbehebbmhaaGreatSxR
set_option linter.unusedSimpArgs false
set_option linter.unusedVariables false
set_option linter.unnecessarySimpa false
/- Laws of loops: from a law of one round to a law of the whole. -/
namespace Go.Sx
open Go

def tmOf : List Nat → List AV → TM
  | k :: ks, v :: vs => (tmOf ks vs).set 12 k v
  | _, _ => .nil
def hpOf : List Nat → List Blk → Heap
  | k :: ks, b :: bs => (k, b) :: hpOf ks bs
  | _, _ => []
def obsT : List Nat → TM → List AV
  | [], _ => []
  | k :: ks, tm => tm.get k :: obsT ks tm
def obsH : List Nat → Heap → List (Option Blk)
  | [], _ => []
  | k :: ks, H => H.find k :: obsH ks H

theorem tmOf_get : ∀ {ks : List Nat} {vs : List AV} {tm : TM}, obsT ks tm = vs → ∀ t, (tmOf ks vs).get t = .any ∨ (tmOf ks vs).get t = tm.get t
  | [], vs, tm, h, t => by simp [tmOf, TM.get]
  | k :: ks, [], tm, h, t => by simp [tmOf, TM.get]
  | k :: ks, v :: vs, tm, h, t => by
    simp only [obsT, List.cons.injEq] at h
    simp only [tmOf]
    rcases TM_get_set 12 (tmOf ks vs) k v t with h1 | ⟨h1, h2⟩ | ⟨h1, h2⟩
    · exact .inl h1
    · right; rw [h2, h1, h.1]
    · rw [h2]; exact tmOf_get h.2 t
theorem hpOf_find : ∀ {ks : List Nat} {bs : List Blk} {H : Heap}, obsH ks H = bs.map some → ∀ x b, (hpOf ks bs).find x = some b → H.find x = some b
  | [], bs, H, h, x, b, hx => by simp [hpOf, Heap.find] at hx
  | k :: ks, [], H, h, x, b, hx => by simp [hpOf, Heap.find] at hx
  | k :: ks, c :: bs, H, h, x, b, hx => by
    simp only [obsH, List.map_cons, List.cons.injEq] at h
    simp only [hpOf, Heap.find] at hx
    by_cases hk : k = x
    · subst hk
      rw [Nat.beq_refl] at hx
      simp only [cond_true, Option.some.injEq] at hx
      rw [← hx]; exact h.1
    · rw [beq_false.2 hk] at hx
      exact hpOf_find h.2 x b hx
theorem Tms.weaken {ρ : Env} {nt : Nat} {tm tm' : TM} {a : Act} (h : Tms ρ nt tm a) (hw : ∀ t, tm'.get t = .any ∨ tm'.get t = tm.get t) : Tms ρ nt tm' a := by
  refine ⟨h.1, fun t => ?_⟩
  rcases hw t with h1 | h1
  · rw [h1]; simp [VR]
  · rw [h1]; exact h.2 t
theorem Step.weaken {ρ ρ' : Env} {H H' G : Heap} {N N' : Nat} {w w' : World} (h : Step ρ H N w ρ' H' N' w') (hs : ∀ x b, G.find x = some b → H'.find x = some b) : Step ρ H N w ρ' G N' w' :=
  ⟨h.ext, h.os, h.tape, h.output, h.size, h.block, h.inv.sub hs, fun y k l hy hl => h.prov y k l (hs y k hy) hl⟩

/-- What is known at a point: some temporaries, some blocks, the next name. -/
structure Pt where
  ks : List Nat
  vs : List AV
  ns : List Nat
  bs : List Blk
  N : Nat
def Pt.tm (p : Pt) : TM := tmOf p.ks p.vs
def Pt.H (p : Pt) : Heap := hpOf p.ns p.bs
/-- Does more stand there? -/
def Pt.le (p : Pt) (tm : TM) (H : Heap) (N : Nat) : Prop := obsT p.ks tm = p.vs ∧ obsH p.ns H = p.bs.map some ∧ N = p.N

section
variable {P : Program}
/-- What stands before with less, stands before with more. -/
theorem CodeOK.weaken {nt : Nat} {c : Code} {p : Pt} {tm : TM} {H : Heap} {N : Nat} {o : Out} {tm' : TM} {H' : Heap} {N' : Nat} (h : CodeOK P nt c p.tm p.H p.N o tm' H' N') (hp : p.le tm H N) : CodeOK P nt c tm H N o tm' H' N' := by
  obtain ⟨h1, h2, h3⟩ := hp
  subst h3
  intro ρ a w ht hi hf
  refine wp_mono (h ρ a w (ht.weaken (tmOf_get h1)) (hi.sub (hpOf_find h2)) hf) ?_
  rintro e a' w' ⟨rfl, ρ', hst, ht', hd⟩
  refine ⟨rfl, ρ', ?_, ht', hd⟩
  have hle : ∀ b, Owned ρ p.H b → Owned ρ H b := by
    rintro b ⟨x, k, l, hx, r⟩
    exact ⟨x, k, l, hpOf_find h2 x k hx, r⟩
  refine ⟨hst.ext, hst.os, hst.tape, hst.output, hst.size, fun b hb hn => hst.block b hb (fun ho => hn (hle b ho)), hst.inv, fun y k l hy hl => ?_⟩
  rcases hst.prov y k l hy hl with ⟨z, kz, lz, hz, r⟩ | h'
  · exact .inl ⟨z, kz, lz, hpOf_find h2 z kz hz, r⟩
  · exact .inr h'
theorem CodeOK.post {nt : Nat} {c : Code} {tm : TM} {H : Heap} {N : Nat} {o : Out} {tm' : TM} {H' : Heap} {N' : Nat} {q : Pt} (h : CodeOK P nt c tm H N o tm' H' N') (hq : q.le tm' H' N') : CodeOK P nt c tm H N o q.tm q.H q.N := by
  obtain ⟨h1, h2, h3⟩ := hq
  subst h3
  intro ρ a w ht hi hf
  refine wp_mono (h ρ a w ht hi hf) ?_
  rintro e a' w' ⟨rfl, ρ', hst, ht', hd⟩
  exact ⟨rfl, ρ', hst.weaken (hpOf_find h2), ht'.weaken (tmOf_get h1), hd⟩

/-- What is looked at behind a round that goes on; behind one that ends. -/
def nextK (N0 : Nat) (roots kT kH : List Nat) (o : Out) (tm : TM) (H : Heap) (N : Nat) : Option (List AV × List (Option Blk) × Nat) := match o with
  | .normal => normA N0 roots tm H fun tm H N => some (obsT kT tm, obsH kH H, N)
  | _ => none
def lastK (kT kH : List Nat) (o : Out) (tm : TM) (H : Heap) (N : Nat) : Option (Out × List AV × List (Option Blk) × Nat) := match o with
  | .normal => none
  | o => some (o, obsT kT tm, obsH kH H, N)
def stepN {α β : Type} (vT : α → List AV) (vH : α → List Blk) (N0 : Nat) : α ⊕ β → Option (List AV × List (Option Blk) × Nat)
  | .inl y => some (vT y, (vH y).map some, N0)
  | .inr _ => none
def stepE {α β : Type} (oE : β → Out) (eT : β → List AV) (eH : β → List Blk) (eN : β → Nat) : α ⊕ β → Option (Out × List AV × List (Option Blk) × Nat)
  | .inl _ => none
  | .inr z => some (oE z, eT z, (eH z).map some, eN z)
def wholeP {α β : Type} (f : α → β) (m : α → Nat) (x : α) : α ⊕ β → Prop
  | .inl y => m y < m x ∧ f x = f y
  | .inr z => f x = z
/-- A loop's law: α: what stands at its head; step: one round; f: the whole. -/
structure LoopLaw (P : Program) (C : Oracle) (nt : Nat) (D : DrawA) (F : Cfg) (c : Code) (α β : Type) where
  N0 : Nat
  rts : List Nat := F.roots
  kT : List Nat
  kH : List Nat
  vT : α → List AV
  vH : α → List Blk
  kE : List Nat
  hE : List Nat
  eT : β → List AV
  eH : β → List Blk
  eN : β → Nat
  oE : β → Out
  step : α → α ⊕ β
  f : α → β
  m : α → Nat
  next : ∀ x, codeA P C D F nt c (tmOf kT (vT x)) (hpOf kH (vH x)) N0 (nextK N0 rts kT kH) = stepN vT vH N0 (step x)
  last : ∀ x, codeA P C D F nt c (tmOf kT (vT x)) (hpOf kH (vH x)) N0 (lastK kE hE) = stepE oE eT eH eN (step x)
  ends : ∀ z, oE z ≠ .normal
  whole : ∀ x, wholeP f m x (step x)
def LoopLaw.pE {C : Oracle} {nt : Nat} {D : DrawA} {F : Cfg} {c : Code} {α β : Type} (L : LoopLaw P C nt D F c α β) (z : β) : Pt := ⟨L.kE, L.eT z, L.hE, L.eH z, L.eN z⟩

theorem LoopLaw.sound {C : Oracle} {nt : Nat} {D : DrawA} {F : Cfg} {c : Code} {α β : Type} (L : LoopLaw P C nt D F c α β) (hC : Snd P C) (hD : DSnd P nt D) (hH : LawsOK P nt F.laws c) (x : α) :
    L.N0 ≤ (L.pE (L.f x)).N ∧ CodeOK P nt (.loop c) (tmOf L.kT (L.vT x)) (hpOf L.kH (L.vH x)) L.N0 (L.oE (L.f x)) (L.pE (L.f x)).tm (L.pE (L.f x)).H (L.pE (L.f x)).N := by
  have key : ∀ (n : Nat) (x : α), L.m x < n → L.N0 ≤ (L.pE (L.f x)).N ∧ ∀ (ρ0 : Env) (H0 : Heap) (a0 : Act) (w0 : World) (ρ : Env) (a : Act) (w : World), FreshI ρ0 L.N0 → Step ρ0 H0 L.N0 w0 ρ (hpOf L.kH (L.vH x)) L.N0 w → Tms ρ nt (tmOf L.kT (L.vT x)) a → a.defers = a0.defers →
      Code.rounds P c (fun e a' w' => e = (L.oE (L.f x)).to ∧ CodePost ρ0 nt H0 L.N0 w0 (L.pE (L.f x)).tm (L.pE (L.f x)).H (L.pE (L.f x)).N a0 a' w') n a w := by
    intro n
    induction n with
    | zero => intro x hx; omega
    | succ n ih =>
      intro x hx
      have hrn := L.next x
      have hre := L.last x
      have hw := L.whole x
      cases hs : L.step x with
      | inl y =>
        rw [hs] at hrn hw
        have hr := hrn
        simp only [stepN, wholeP] at hr hw
        obtain ⟨hm, hf⟩ := hw
        obtain ⟨hN, hy⟩ := ih y (by omega)
        rw [hf]
        refine ⟨hN, fun ρ0 H0 a0 w0 ρ a w hfr hst ht hd => ?_⟩
        obtain ⟨o, tm1, H1, N1, hk, hN1, hc⟩ := codeA_sound hC hD c hH hr
        cases o with
        | exit i => simp [nextK] at hk
        | ret => simp [nextK] at hk
        | normal =>
          simp only [nextK] at hk
          obtain ⟨tm2, H2, N2, h2, hN2, hn⟩ := normA_sound (nt := nt) hk
          simp only [Option.some.injEq, Prod.mk.injEq] at h2
          obtain ⟨e1, e2, e3⟩ := h2
          subst e3
          rw [rounds_succ]
          have hfr' : FreshI ρ L.N0 := hfr.next hst (Nat.le_refl _)
          refine wp_mono (hc ρ a w ht hst.inv hfr') ?_
          rintro e a' w' ⟨rfl, ρ', hst', ht', hd'⟩
          simp only [Out.to, Exit.then]
          have hbig : Step ρ0 H0 L.N0 w0 ρ' H1 N1 w' := hst.trans hst' (Nat.le_refl _) hN1
          obtain ⟨ρ3, hst3, ht3⟩ := hn ρ0 H0 w0 ρ' N1 w' a' hbig ht'
          exact hy ρ0 H0 a0 w0 ρ3 a' w' hfr (hst3.weaken (hpOf_find e2)) (ht3.weaken (tmOf_get e1)) (hd'.trans hd)
      | inr z =>
        rw [hs] at hre hw
        have hr := hre
        simp only [stepE, wholeP] at hr hw
        subst hw
        obtain ⟨o, tm1, H1, N1, hk, hN1, hc⟩ := codeA_sound hC hD c hH hr
        have main : ∀ (ho : o ≠ .normal) (hk : some (o, obsT L.kE tm1, obsH L.hE H1, N1) = some (L.oE (L.f x), L.eT (L.f x), (L.eH (L.f x)).map some, L.eN (L.f x))), L.N0 ≤ (L.pE (L.f x)).N ∧ ∀ (ρ0 : Env) (H0 : Heap) (a0 : Act) (w0 : World) (ρ : Env) (a : Act) (w : World), FreshI ρ0 L.N0 → Step ρ0 H0 L.N0 w0 ρ (hpOf L.kH (L.vH x)) L.N0 w → Tms ρ nt (tmOf L.kT (L.vT x)) a → a.defers = a0.defers →
            Code.rounds P c (fun e a' w' => e = (L.oE (L.f x)).to ∧ CodePost ρ0 nt H0 L.N0 w0 (L.pE (L.f x)).tm (L.pE (L.f x)).H (L.pE (L.f x)).N a0 a' w') (n + 1) a w := by
          intro ho hk
          simp only [Option.some.injEq, Prod.mk.injEq] at hk
          obtain ⟨e0, e1, e2, e3⟩ := hk
          refine ⟨by rw [LoopLaw.pE]; simp only; omega, fun ρ0 H0 a0 w0 ρ a w hfr hst ht hd => ?_⟩
          rw [rounds_succ]
          have hfr' : FreshI ρ L.N0 := hfr.next hst (Nat.le_refl _)
          refine wp_mono (hc ρ a w ht hst.inv hfr') ?_
          rintro e a' w' ⟨rfl, ρ', hst', ht', hd'⟩
          have hbig : Step ρ0 H0 L.N0 w0 ρ' H1 N1 w' := hst.trans hst' (Nat.le_refl _) hN1
          have hp : o.to = (L.oE (L.f x)).to ∧ CodePost ρ0 nt H0 L.N0 w0 (L.pE (L.f x)).tm (L.pE (L.f x)).H (L.pE (L.f x)).N a0 a' w' := by
            refine ⟨by rw [e0], ρ', ?_, ht'.weaken (tmOf_get e1), hd'.trans hd⟩
            have hb2 : Step ρ0 H0 L.N0 w0 ρ' (L.pE (L.f x)).H N1 w' := hbig.weaken (hpOf_find e2)
            rw [show (L.pE (L.f x)).N = N1 from e3.symm]
            exact hb2
          cases o with
          | normal => exact absurd rfl ho
          | exit i => exact hp
          | ret => exact hp
        cases o with
        | normal => simp [lastK] at hk
        | exit i => exact main (by simp) hk
        | ret => exact main (by simp) hk
  obtain ⟨hN, hk⟩ := key (L.m x + 1) x (Nat.lt_succ_self _)
  refine ⟨hN, fun ρ a w ht hi hf => wp_loop_rounds (L.m x + 1) (hk ρ (hpOf L.kH (L.vH x)) a w ρ a w hf (Step.refl hi) ht rfl)⟩

/-- The law of a loop in its block, as a handler. -/
def LoopLaw.handler {C : Oracle} {nt : Nat} {D : DrawA} {F : Cfg} {c : Code} {α β : Type} (L : LoopLaw P C nt D F c α β) (id : Nat) (dec : List AV → List (Option Blk) → Option α) : Handler := fun R tm H N K =>
  bif Nat.beq N L.N0 then match dec (obsT L.kT tm) (obsH L.kH H) with
    | some x => (match L.oE (L.f x) with
      | .exit i => bif Nat.beq i id then K .normal (L.pE (L.f x)).tm (L.pE (L.f x)).H (L.pE (L.f x)).N else K (.exit i) (L.pE (L.f x)).tm (L.pE (L.f x)).H (L.pE (L.f x)).N
      | o => K o (L.pE (L.f x)).tm (L.pE (L.f x)).H (L.pE (L.f x)).N)
    | none => none
  else none
theorem LoopLaw.handler_snd {C : Oracle} {nt : Nat} {D : DrawA} {F : Cfg} {c : Code} {α β : Type} (L : LoopLaw P C nt D F c α β) (hC : Snd P C) (hD : DSnd P nt D) (hH : LawsOK P nt F.laws c) (id : Nat) (dec : List AV → List (Option Blk) → Option α)
    (hdec : ∀ vs bs x, dec vs bs = some x → vs = L.vT x ∧ bs = (L.vH x).map some) : HSnd P nt (.block id (.loop c)) (L.handler id dec) := by
  intro R r tm H N K h
  unfold LoopLaw.handler at h
  cases hn : Nat.beq N L.N0 with
  | false => rw [hn] at h; simp at h
  | true =>
    rw [hn] at h
    simp only [cond_true] at h
    rw [beq_true] at hn
    split at h
    · rename_i x hx
      obtain ⟨e1, e2⟩ := hdec _ _ _ hx
      obtain ⟨hN, hok⟩ := L.sound hC hD hH x
      have hok' := CodeOK.weaken (p := ⟨L.kT, L.vT x, L.kH, L.vH x, L.N0⟩) hok ⟨e1, e2, hn⟩
      subst hn
      split at h
      · rename_i i hi
        cases hb : Nat.beq i id with
        | true =>
          rw [hb] at h
          simp only [cond_true] at h
          rw [beq_true] at hb
          subst hb
          refine ⟨_, _, _, _, h, hN, fun ρ a w ht hinv hf => wp_block (wp_mono (hok' ρ a w ht hinv hf) ?_)⟩
          rintro e a' w' ⟨rfl, hp⟩
          rw [hi]
          simp only [Out.to, Exit.inBlock, if_true]
          exact ⟨trivial, hp⟩
        | false =>
          rw [hb] at h
          simp only [cond_false] at h
          rw [beq_false] at hb
          refine ⟨_, _, _, _, h, hN, fun ρ a w ht hinv hf => wp_block (wp_mono (hok' ρ a w ht hinv hf) ?_)⟩
          rintro e a' w' ⟨rfl, hp⟩
          rw [hi]
          simp only [Out.to, Exit.inBlock, if_neg hb]
          exact ⟨trivial, hp⟩
      · rename_i o ho
        refine ⟨_, _, _, _, h, hN, fun ρ a w ht hinv hf => wp_block (wp_mono (hok' ρ a w ht hinv hf) ?_)⟩
        rintro e a' w' ⟨rfl, hp⟩
        cases hq : L.oE (L.f x) with
        | normal => exact absurd hq (L.ends _)
        | exit i => exact absurd hq (ho i)
        | ret => exact ⟨rfl, hp⟩
    · simp at h

/-- A law of one block. -/
theorem laws_one {nt : Nat} {id : Nat} {h : Handler} {c : Code} {b : Code} (hs : subs id c = [b]) (hh : HSnd P nt b h) : LawsOK P nt [(id, h)] c := by
  intro i h' hl c' hc'
  unfold lawOf at hl
  cases hb : Nat.beq id i with
  | true =>
    rw [hb] at hl
    rw [beq_true] at hb
    subst hb
    simp only [cond_true, Option.some.injEq] at hl
    subst hl
    rw [hs] at hc'
    simp only [List.mem_singleton] at hc'
    subst hc'
    exact hh
  | false => rw [hb] at hl; simp [lawOf] at hl
theorem cond_app {α β : Type} (g : α → β) (c : Bool) {x y : β} {a b : α} (h1 : x = g a) (h2 : y = g b) : cond c x y = g (cond c a b) := by cases c <;> assumption
def bodyC (fn : Func) : Code := match fn.body with | some c => c | none => .skip
def loopIn (id : Nat) (fn : Func) : Code := match subs id (bodyC fn) with
  | [.block _ (.loop c)] => c
  | _ => .skip
theorem fok_one {fn : Func} {F : Cfg} {id : Nat} {h : Handler} {b : Code} (hl : F.laws = [(id, h)]) (hs : subs id (bodyC fn) = [b]) (hh : HSnd P fn.ntmps b h) : FOK P fn F := by
  intro c hc
  rw [hl]
  refine laws_one (b := b) ?_ hh
  rw [← hs]
  unfold bodyC
  rw [hc]
theorem laws_nil {nt : Nat} {c : Code} : LawsOK P nt [] c := by
  intro i h hl; simp [lawOf] at hl
end
end Go.Sx

/- Calls in memory of other names: what holds of the names from nought on holds of any names. -/
namespace Go.Sx
open Go

mutual
theorem VR_renM {ρ ρ' : Env} {f : Nat → Nat} (h : ∀ n l, ρ n = some l → ρ' (f n) = some l) : ∀ (v : AV) (x : Value), VR ρ v x → VR ρ' (v.ren f) x
  | .any, _, _ => by simp [AV.ren, VR]
  | .bool _, _, hv => by simpa [AV.ren, VR] using hv
  | .int _ _, _, hv => by simpa [AV.ren, VR] using hv
  | .ptr p, _, hv => by
    simp only [AV.ren, VR] at hv ⊢
    obtain ⟨l, hl, hx⟩ := hv
    exact ⟨l, h _ _ hl, hx⟩
  | .nilptr, _, hv => by simpa [AV.ren, VR] using hv
  | .slice p es n, _, hv => by
    simp only [AV.ren, VR] at hv ⊢
    obtain ⟨l, cap, hl, r⟩ := hv
    exact ⟨l, cap, h _ _ hl, r⟩
  | .nilslice, _, hv => by simpa [AV.ren, VR] using hv
  | .func _ a c, _, hv => by
    simp only [AV.ren, VR] at hv ⊢
    obtain ⟨a', c', hx, ha, hc⟩ := hv
    exact ⟨a', c', hx, VRs_renM h a _ ha, VRs_renM h c _ hc⟩
  | .nilfunc, _, hv => by simpa [AV.ren, VR] using hv
  | .iface _ v, _, hv => by
    simp only [AV.ren, VR] at hv ⊢
    obtain ⟨y, hx, hy⟩ := hv
    exact ⟨y, hx, VR_renM h v y hy⟩
  | .nilface, _, hv => by simpa [AV.ren, VR] using hv
  | .agg l, _, hv => by
    simp only [AV.ren, VR] at hv ⊢
    obtain ⟨a, hx, ha⟩ := hv
    exact ⟨a, hx, VRs_renM h l _ ha⟩
  | .tup l, _, hv => by
    simp only [AV.ren, VR] at hv ⊢
    obtain ⟨a, hx, ha⟩ := hv
    exact ⟨a, hx, VRs_renM h l _ ha⟩
  | .lit _, _, hv => by simpa [AV.ren, VR] using hv
theorem VRs_renM {ρ ρ' : Env} {f : Nat → Nat} (h : ∀ n l, ρ n = some l → ρ' (f n) = some l) : ∀ (l : List AV) (ys : List Value), VRs ρ l ys → VRs ρ' (AV.renL f l) ys
  | [], _, hl => by simpa [AV.renL] using hl
  | v :: l, _, hl => by
    obtain ⟨y, r, rfl, hv, hr⟩ := VRs_cons.1 hl
    simp only [AV.renL]
    exact VRs_cons' (VR_renM h v y hv) (VRs_renM h l r hr)
end
mutual
theorem VR_unren {ρ ρ' : Env} {f : Nat → Nat} : ∀ (v : AV) (x : Value), (∀ n ∈ v.names, ∀ l, ρ' (f n) = some l → ρ n = some l) → VR ρ' (v.ren f) x → VR ρ v x
  | .any, _, _, _ => by simp [VR]
  | .bool _, _, _, hv => by simpa [AV.ren, VR] using hv
  | .int _ _, _, _, hv => by simpa [AV.ren, VR] using hv
  | .ptr p, _, h, hv => by
    simp only [AV.ren, VR] at hv ⊢
    obtain ⟨l, hl, hx⟩ := hv
    exact ⟨l, h p.x (by simp [AV.names]) _ hl, hx⟩
  | .nilptr, _, _, hv => by simpa [AV.ren, VR] using hv
  | .slice p es n, _, h, hv => by
    simp only [AV.ren, VR] at hv ⊢
    obtain ⟨l, cap, hl, r⟩ := hv
    exact ⟨l, cap, h p.x (by simp [AV.names]) _ hl, r⟩
  | .nilslice, _, _, hv => by simpa [AV.ren, VR] using hv
  | .func _ a c, _, h, hv => by
    simp only [AV.ren, VR] at hv ⊢
    obtain ⟨a', c', hx, ha, hc⟩ := hv
    exact ⟨a', c', hx, VRs_unren a _ (fun n hn => h n (by simp [AV.names, hn])) ha, VRs_unren c _ (fun n hn => h n (by simp [AV.names, hn])) hc⟩
  | .nilfunc, _, _, hv => by simpa [AV.ren, VR] using hv
  | .iface _ v, _, h, hv => by
    simp only [AV.ren, VR] at hv ⊢
    obtain ⟨y, hx, hy⟩ := hv
    exact ⟨y, hx, VR_unren v y (fun n hn => h n (by simpa [AV.names] using hn)) hy⟩
  | .nilface, _, _, hv => by simpa [AV.ren, VR] using hv
  | .agg l, _, h, hv => by
    simp only [AV.ren, VR] at hv ⊢
    obtain ⟨a, hx, ha⟩ := hv
    exact ⟨a, hx, VRs_unren l _ (fun n hn => h n (by simpa [AV.names] using hn)) ha⟩
  | .tup l, _, h, hv => by
    simp only [AV.ren, VR] at hv ⊢
    obtain ⟨a, hx, ha⟩ := hv
    exact ⟨a, hx, VRs_unren l _ (fun n hn => h n (by simpa [AV.names] using hn)) ha⟩
  | .lit _, _, _, hv => by simpa [AV.ren, VR] using hv
theorem VRs_unren {ρ ρ' : Env} {f : Nat → Nat} : ∀ (l : List AV) (ys : List Value), (∀ n ∈ AV.namesL l, ∀ l', ρ' (f n) = some l' → ρ n = some l') → VRs ρ' (AV.renL f l) ys → VRs ρ l ys
  | [], _, _, hl => by simpa [AV.renL] using hl
  | v :: l, _, h, hl => by
    simp only [AV.renL] at hl
    obtain ⟨y, r, rfl, hv, hr⟩ := VRs_cons.1 hl
    exact VRs_cons' (VR_unren v y (fun n hn => h n (by simp [AV.namesL, hn])) hv) (VRs_unren l r (fun n hn => h n (by simp [AV.namesL, hn])) hr)
end
mutual
theorem ren_back {f g : Nat → Nat} : ∀ v : AV, (∀ n ∈ v.names, g (f n) = n) → (v.ren f).ren g = v
  | .any, _ => rfl
  | .bool _, _ => rfl
  | .int _ _, _ => rfl
  | .ptr p, h => by simp only [AV.ren]; rw [h p.x (by simp [AV.names])]
  | .nilptr, _ => rfl
  | .slice p es n, h => by simp only [AV.ren]; rw [h p.x (by simp [AV.names])]
  | .nilslice, _ => rfl
  | .func _ a c, h => by
    simp only [AV.ren]
    rw [renL_back a (fun n hn => h n (by simp [AV.names, hn])), renL_back c (fun n hn => h n (by simp [AV.names, hn]))]
  | .nilfunc, _ => rfl
  | .iface _ v, h => by simp only [AV.ren]; rw [ren_back v (fun n hn => h n (by simpa [AV.names] using hn))]
  | .nilface, _ => rfl
  | .agg l, h => by simp only [AV.ren]; rw [renL_back l (fun n hn => h n (by simpa [AV.names] using hn))]
  | .tup l, h => by simp only [AV.ren]; rw [renL_back l (fun n hn => h n (by simpa [AV.names] using hn))]
  | .lit _, _ => rfl
theorem renL_back {f g : Nat → Nat} : ∀ l : List AV, (∀ n ∈ AV.namesL l, g (f n) = n) → AV.renL g (AV.renL f l) = l
  | [], _ => rfl
  | v :: l, h => by
    simp only [AV.renL]
    rw [ren_back v (fun n hn => h n (by simp [AV.namesL, hn])), renL_back l (fun n hn => h n (by simp [AV.namesL, hn]))]
end
theorem segRen_back {f g : Nat → Nat} : ∀ s : List Seg, (∀ n ∈ segNames s, g (f n) = n) → segRen g (segRen f s) = s
  | [], _ => rfl
  | .cell v :: r, h => by
    simp only [segRen]
    rw [ren_back v (fun n hn => h n (by simp [segNames, hn])), segRen_back r (fun n hn => h n (by simp [segNames, hn]))]
  | .arr sh m d :: r, h => by
    simp only [segRen]
    rw [segRen_back r (fun n hn => h n (by simpa [segNames] using hn))]

def blkRen (f : Nat → Nat) (b : Blk) : Blk := { b with segs := segRen f b.segs }
def renH (f : Nat → Nat) : Heap → Heap
  | [] => []
  | (x, b) :: h => (f x, blkRen f b) :: renH f h
def renE (f : Nat → Nat) : Eff → Eff
  | [] => []
  | (x, some b) :: e => (f x, some (blkRen f b)) :: renE f e
  | (x, none) :: e => (f x, none) :: renE f e

/-- One memory is another's, by other names. -/
def Twin (f : Nat → Nat) (F H : Heap) : Prop := (∀ x, F.find (f x) = (H.find x).map (blkRen f)) ∧ ∀ y b, F.find y = some b → ∃ x, y = f x
section
variable {f : Nat → Nat} (hf : ∀ i j, f i = f j → i = j)
include hf
theorem twin_ren : ∀ H : Heap, Twin f (renH f H) H
  | [] => ⟨fun x => rfl, fun y b h => by simp [renH, Heap.find] at h⟩
  | (z, c) :: H => by
    obtain ⟨h1, h2⟩ := twin_ren H
    constructor
    · intro x
      simp only [renH]
      by_cases h : z = x
      · subst h; rw [find_cons_eq, find_cons_eq]; rfl
      · rw [find_cons_ne _ _ h, find_cons_ne _ _ (fun he => h (hf _ _ he)), h1]
    · intro y b hy
      simp only [renH] at hy
      by_cases h : f z = y
      · exact ⟨z, h.symm⟩
      · rw [find_cons_ne _ _ h] at hy; exact h2 y b hy
theorem twin_put {F H : Heap} (h : Twin f F H) (x : Nat) (b : Blk) : Twin f (F.put (f x) (blkRen f b)) (H.put x b) := by
  constructor
  · intro y
    rw [find_put, find_put]
    by_cases hy : y = x
    · subst hy; simp
    · rw [if_neg hy, if_neg (fun he => hy (hf _ _ he)), h.1]
  · intro y c hy
    rw [find_put] at hy
    split at hy
    · rename_i e; exact ⟨x, e⟩
    · exact h.2 y c hy
theorem twin_del {F H : Heap} (h : Twin f F H) (x : Nat) : Twin f (F.del (f x)) (H.del x) := by
  constructor
  · intro y
    rw [find_del, find_del]
    by_cases hy : y = x
    · subst hy; simp
    · rw [if_neg hy, if_neg (fun he => hy (hf _ _ he)), h.1]
  · intro y c hy
    rw [find_del] at hy
    split at hy
    · simp at hy
    · exact h.2 y c hy
theorem twin_upd : ∀ (e : Eff) {F H : Heap}, Twin f F H → Twin f (F.upd (renE f e)) (H.upd e)
  | [], F, H, h => h
  | (x, some b) :: e, F, H, h => by simp only [renE, Heap.upd]; exact twin_upd e (twin_put hf h x b)
  | (x, none) :: e, F, H, h => by simp only [renE, Heap.upd]; exact twin_upd e (twin_del hf h x)
end
theorem renE_names {f : Nat → Nat} : ∀ {e : Eff} {y : Nat}, y ∈ namesOf (renE f e) → ∃ x ∈ namesOf e, y = f x
  | [], y, h => by simp [renE, namesOf] at h
  | (x, some b) :: e, y, h => by
    simp only [renE, namesOf, List.mem_cons] at h
    rcases h with rfl | h
    · exact ⟨x, by simp [namesOf], rfl⟩
    · obtain ⟨z, hz, r⟩ := renE_names h; exact ⟨z, by simp [namesOf, hz], r⟩
  | (x, none) :: e, y, h => by
    simp only [renE, namesOf, List.mem_cons] at h
    rcases h with rfl | h
    · exact ⟨x, by simp [namesOf], rfl⟩
    · obtain ⟨z, hz, r⟩ := renE_names h; exact ⟨z, by simp [namesOf, hz], r⟩

/-- The names of memory from nought on are so many given names; those behind are new ones. -/
def mapN (xs : List Nat) (N i : Nat) : Nat := match xs[i]? with
  | some x => x
  | none => N + (i - xs.length)
theorem mapN_lt {xs : List Nat} {N i : Nat} (h : i < xs.length) : xs[i]? = some (mapN xs N i) := by
  unfold mapN; rw [List.getElem?_eq_getElem h]
theorem mapN_ge {xs : List Nat} {N i : Nat} (h : xs.length ≤ i) : mapN xs N i = N + (i - xs.length) := by
  unfold mapN; rw [List.getElem?_eq_none h]
theorem mapN_mem {xs : List Nat} {N i : Nat} (h : i < xs.length) : mapN xs N i ∈ xs := List.mem_of_getElem? (mapN_lt h)
theorem mapN_inj {xs : List Nat} {N : Nat} (hnd : nodupB xs = true) (hlt : ∀ x ∈ xs, x < N) (i j : Nat) (h : mapN xs N i = mapN xs N j) : i = j := by
  by_cases hi : i < xs.length <;> by_cases hj : j < xs.length
  · have h1 := nodupB_pos hnd i _ (mapN_lt (N := N) hi)
    have h2 := nodupB_pos hnd j _ (mapN_lt (N := N) hj)
    rw [← h1, ← h2, h]
  · have := hlt _ (mapN_mem (N := N) hi)
    rw [h, mapN_ge (by omega)] at this; omega
  · have := hlt _ (mapN_mem (N := N) hj)
    rw [← h, mapN_ge (by omega)] at this; omega
  · rw [mapN_ge (by omega), mapN_ge (by omega)] at h; omega

section
variable {P : Program}
theorem ans_ren {g : FuncId} {args : List AV} {Hc : Heap} {v : AV} {e : Eff} {k' : Nat} {xs : List Nat} {N : Nat} (h : Ans P g args Hc xs.length v e k') (hkk : xs.length ≤ k') (hnd : nodupB xs = true)
    (hlt : ∀ x ∈ xs, x < N) (hargs : ∀ n ∈ AV.namesL args, n < xs.length) (hH : ∀ x b, Hc.find x = some b → x < xs.length ∧ ∀ n ∈ segNames b.segs, n < xs.length) (he : ∀ x ∈ namesOf e, x < k' ∧ (x < xs.length → Hc.find x ≠ none))
    {H : Heap} (hsub : ∀ x b, (renH (mapN xs N) Hc).find x = some b → H.find x = some b) :
    Ans P g (AV.renL (mapN xs N) args) H N (v.ren (mapN xs N)) (renE (mapN xs N) e) (N + (k' - xs.length)) := by
  intro ρ w vs hvs hi hf
  have inj := mapN_inj (N := N) hnd hlt
  have tw := twin_ren inj Hc
  generalize hfe : mapN xs N = f at *
  have f1 : ∀ i, i < xs.length → xs[i]? = some (f i) := fun i hi => by rw [← hfe]; exact mapN_lt hi
  have f2 : ∀ i, i < xs.length → f i < N := fun i hi => by rw [← hfe]; exact hlt _ (mapN_mem hi)
  have f3 : ∀ i, xs.length ≤ i → f i = N + (i - xs.length) := fun i hi => by rw [← hfe]; exact mapN_ge hi
  let ρc : Env := fun i => if i < xs.length then ρ (f i) else none
  have c1 : ∀ i, i < xs.length → ρc i = ρ (f i) := fun i hi => by simp [ρc, hi]
  have c2 : ∀ i l, ρc i = some l → i < xs.length ∧ ρ (f i) = some l := fun i l hl => by
    simp only [ρc] at hl
    split at hl
    · exact ⟨by assumption, hl⟩
    · simp at hl
  have hargsc : VRs ρc args vs := VRs_unren args vs (fun n hn l hl => by rw [c1 n (hargs n hn)]; exact hl) hvs
  have big : ∀ x b, Hc.find x = some b → H.find (f x) = some (blkRen f b) := fun x b hx => hsub _ _ (by rw [tw.1, hx]; rfl)
  have hic : Inv ρc Hc w := by
    constructor
    · intro x b hx
      obtain ⟨hx1, hx2⟩ := hH x b hx
      obtain ⟨l, hl, c, e, fr, q1, q2, q3, q4⟩ := hi.blk _ _ (big x b hx)
      refine ⟨l, by rw [c1 x hx1]; exact hl, c, e, fr, q1, q2, q3, fun o u hu => ?_⟩
      obtain ⟨z, hz, hr⟩ := q4 o (u.ren f) (by simp only [blkRen, flat_ren, List.getElem?_map, hu]; rfl)
      exact ⟨z, hz, VR_unren u z (fun n hn l hl => by rw [c1 n (hx2 n (flat_names _ u (List.mem_of_getElem? hu) n hn))]; exact hl) hr⟩
    · intro x y bx b' lx ly hx hy hlx hly hrw hb
      exact inj _ _ (hi.inj _ _ _ _ lx ly (big x bx hx) (big y b' hy) (c2 x lx hlx).2 (c2 y ly hly).2 hrw hb)
  refine (h ρc w vs hargsc hic (fun x h1 h2 => by simp [ρc]; omega)).mono ?_
  rintro v' w' ⟨ρc', hst, hv⟩
  let ρ' : Env := fun y => if N ≤ y ∧ y < N + (k' - xs.length) then ρc' (xs.length + (y - N)) else ρ y
  have hren : ∀ n l, ρc' n = some l → ρ' (f n) = some l := by
    intro n l hl
    by_cases hn : n < xs.length
    · rw [hst.ext n (by omega), c1 n hn] at hl
      have := f2 n hn
      simp only [ρ']
      rw [if_neg (by omega)]; exact hl
    · by_cases hn2 : n < k'
      · simp only [ρ']
        rw [f3 n (by omega), if_pos (by omega), show xs.length + (N + (n - xs.length) - N) = n by omega]; exact hl
      · rw [hst.ext n (by omega)] at hl
        exact absurd (c2 n l hl).1 hn
  have tu := twin_upd inj e tw
  have back : ∀ y b, ((renH f Hc).upd (renE f e)).find y = some b → ∃ x b0 l, y = f x ∧ (Hc.upd e).find x = some b0 ∧ b = blkRen f b0 ∧ ρc' x = some l ∧ ρ' y = some l ∧ BlkRel ρc' w' l b0 := by
    intro y b hy
    obtain ⟨x, rfl⟩ := tu.2 y b hy
    rw [tu.1] at hy
    cases hq : (Hc.upd e).find x with
    | none => rw [hq] at hy; simp at hy
    | some b0 =>
      rw [hq] at hy; simp at hy
      obtain ⟨l, hl, hb⟩ := hst.inv.blk x b0 hq
      exact ⟨x, b0, l, rfl, hq, hy.symm, hl, hren x l hl, hb⟩
  have step : Step ρ (renH f Hc) N w ρ' ((renH f Hc).upd (renE f e)) (N + (k' - xs.length)) w' := by
    constructor
    · intro x hx; simp only [ρ']; rw [if_neg hx]
    · exact hst.os
    · exact hst.tape
    · exact hst.output
    · exact hst.size
    · intro b hb hno
      refine hst.block b hb (fun ⟨x, q, l, hx, hl, r⟩ => hno ⟨f x, blkRen f q, l, by rw [tw.1, hx]; rfl, (c2 x l hl).2, r⟩)
    · constructor
      · intro y b hy
        obtain ⟨x, b0, l, rfl, hx, rfl, hl, hl', c, e2, fr, q1, q2, q3, q4⟩ := back y b hy
        refine ⟨l, hl', c, e2, fr, q1, q2, q3, fun o u hu => ?_⟩
        simp only [blkRen, flat_ren, List.getElem?_map] at hu
        cases hq : (flat b0.segs)[o]? with
        | none => rw [hq] at hu; simp at hu
        | some u0 =>
          rw [hq] at hu; simp at hu; subst hu
          obtain ⟨z, hz, hr⟩ := q4 o u0 hq
          exact ⟨z, hz, VR_renM hren u0 z hr⟩
      · intro y z by' bz ly lz hy hz hly hlz hr hbb
        obtain ⟨x, b0, l, rfl, hx, rfl, hl, hl', _⟩ := back y by' hy
        obtain ⟨x2, b2, l2, rfl, hx2, rfl, hl2, hl2', _⟩ := back z bz hz
        rw [hly] at hl'; simp at hl'; subst hl'
        rw [hlz] at hl2'; simp at hl2'; subst hl2'
        rw [hst.inv.inj x x2 b0 b2 _ _ hx hx2 hl hl2 hr hbb]
    · intro y q l hy hl
      obtain ⟨x, b0, l2, rfl, hx, rfl, hl2, hl2', _⟩ := back y q hy
      rw [hl] at hl2'; simp at hl2'; subst hl2'
      rcases hst.prov x b0 _ hx hl2 with ⟨z, kz, lz, hz, hlz, r⟩ | h'
      · exact .inl ⟨f z, blkRen f kz, lz, by rw [tw.1, hz]; rfl, (c2 z lz hlz).2, r⟩
      · exact .inr h'
  refine ⟨ρ', Step.frame step hf hi hsub (fun y hy => ?_), VR_renM hren v v' hv⟩
  obtain ⟨x, hx, rfl⟩ := renE_names hy
  obtain ⟨h1, h2⟩ := he x hx
  by_cases hxk : x < xs.length
  · left
    rw [tw.1]
    cases hq : Hc.find x with
    | none => exact absurd hq (h2 hxk)
    | some b => simp
  · right
    rw [f3 x (by omega)]; omega
end
end Go.Sx

/- A function's answers by a law of values and of the memory that its arguments tell of (names from nought on). -/
namespace Go.Sx
open Go

mutual
theorem names_ren {f : Nat → Nat} : ∀ (v : AV) (n : Nat), n ∈ (v.ren f).names → ∃ m ∈ v.names, n = f m
  | .any, n, h => by simp [AV.ren, AV.names] at h
  | .bool _, n, h => by simp [AV.ren, AV.names] at h
  | .int _ _, n, h => by simp [AV.ren, AV.names] at h
  | .ptr p, n, h => by simp [AV.ren, AV.names] at h ⊢; exact h
  | .nilptr, n, h => by simp [AV.ren, AV.names] at h
  | .slice p _ _, n, h => by simp [AV.ren, AV.names] at h ⊢; exact h
  | .nilslice, n, h => by simp [AV.ren, AV.names] at h
  | .func _ a c, n, h => by
    simp only [AV.ren, AV.names, List.mem_append] at h ⊢
    rcases h with h | h
    · obtain ⟨m, hm, r⟩ := namesL_ren a n h; exact ⟨m, .inl hm, r⟩
    · obtain ⟨m, hm, r⟩ := namesL_ren c n h; exact ⟨m, .inr hm, r⟩
  | .nilfunc, n, h => by simp [AV.ren, AV.names] at h
  | .iface _ v, n, h => by simp only [AV.ren, AV.names] at h ⊢; exact names_ren v n h
  | .nilface, n, h => by simp [AV.ren, AV.names] at h
  | .agg l, n, h => by simp only [AV.ren, AV.names] at h ⊢; exact namesL_ren l n h
  | .tup l, n, h => by simp only [AV.ren, AV.names] at h ⊢; exact namesL_ren l n h
  | .lit _, n, h => by simp [AV.ren, AV.names] at h
theorem namesL_ren {f : Nat → Nat} : ∀ (l : List AV) (n : Nat), n ∈ AV.namesL (AV.renL f l) → ∃ m ∈ AV.namesL l, n = f m
  | [], n, h => by simp [AV.renL, AV.namesL] at h
  | v :: l, n, h => by
    simp only [AV.renL, AV.namesL, List.mem_append] at h ⊢
    rcases h with h | h
    · obtain ⟨m, hm, r⟩ := names_ren v n h; exact ⟨m, .inl hm, r⟩
    · obtain ⟨m, hm, r⟩ := namesL_ren l n h; exact ⟨m, .inr hm, r⟩
end
theorem segNames_ren {f : Nat → Nat} : ∀ (s : List Seg) (n : Nat), n ∈ segNames (segRen f s) → ∃ m ∈ segNames s, n = f m
  | [], n, h => by simp [segRen, segNames] at h
  | .cell v :: r, n, h => by
    simp only [segRen, segNames, List.mem_append] at h ⊢
    rcases h with h | h
    · obtain ⟨m, hm, q⟩ := names_ren v n h; exact ⟨m, .inl hm, q⟩
    · obtain ⟨m, hm, q⟩ := segNames_ren r n h; exact ⟨m, .inr hm, q⟩
  | .arr _ _ _ :: r, n, h => by simp only [segRen, segNames] at h ⊢; exact segNames_ren r n h

/-- The blocks of these names, named from i on. -/
def takeH (H : Heap) (xs : List Nat) : List Nat → Nat → Option Heap
  | [], _ => some []
  | x :: r, i => match H.find x with
    | some b => bif allIn xs (segNames b.segs) then match takeH H xs r (Nat.succ i) with
        | some t => some ((i, blkRen (fun n => posN n xs) b) :: t)
        | none => none
      else none
    | none => none
def belowB (N : Nat) : List Nat → Bool
  | [] => true
  | x :: l => Nat.blt x N && belowB N l
theorem belowB_iff {N : Nat} : ∀ {l : List Nat}, belowB N l = true → ∀ x ∈ l, x < N
  | [], _, x, h => by simp at h
  | y :: l, hh, x, h => by
    simp only [belowB, Bool.and_eq_true] at hh
    rcases List.mem_cons.1 h with rfl | h
    · exact blt_true.1 hh.1
    · exact belowB_iff hh.2 x h
theorem takeH_spec {H : Heap} {xs : List Nat} : ∀ {r : List Nat} {i : Nat} {Hc : Heap}, takeH H xs r i = some Hc → (∀ j, j < r.length → xs[i + j]? = r[j]?) →
    Hc.length = r.length ∧ (∀ j, j < r.length → Hc.find (i + j) ≠ none) ∧ ∀ j b, Hc.find j = some b → i ≤ j ∧ j < i + r.length ∧ ∃ x b0, xs[j]? = some x ∧ H.find x = some b0 ∧ b = blkRen (fun n => posN n xs) b0 ∧ ∀ n ∈ segNames b0.segs, n ∈ xs
  | [], i, Hc, h, _ => by
    simp only [takeH, Option.some.injEq] at h; subst h
    exact ⟨rfl, fun j hj => absurd hj (Nat.not_lt_zero _), fun j b h => by simp [Heap.find] at h⟩
  | x :: r, i, Hc, h, hx => by
    simp only [takeH] at h
    split at h
    · rename_i b hb
      cases ha : allIn xs (segNames b.segs) with
      | false => rw [ha] at h; simp at h
      | true =>
        rw [ha] at h
        simp only [cond_true] at h
        split at h
        · rename_i t ht
          simp only [Option.some.injEq] at h; subst h
          obtain ⟨h1, h2, h3⟩ := takeH_spec (i := Nat.succ i) ht (fun j hj => by
            have := hx (j + 1) (by simp; omega)
            simp only [List.getElem?_cons_succ] at this
            rw [← this, show i + (j + 1) = i.succ + j by omega])
          refine ⟨by simp [h1], fun j hj => ?_, fun j b' hj => ?_⟩
          · cases j with
            | zero => rw [show i + 0 = i from rfl, find_cons_eq]; simp
            | succ j =>
              rw [find_cons_ne _ _ (by omega), show i + (j + 1) = i.succ + j by omega]
              exact h2 j (by simp at hj; omega)
          · by_cases hij : i = j
            · subst hij
              rw [find_cons_eq] at hj
              simp only [Option.some.injEq] at hj; subst hj
              have := hx 0 (by simp)
              exact ⟨Nat.le_refl _, by simp, x, b, by simpa using this, hb, rfl, fun n hn => allIn_iff ha n hn⟩
            · rw [find_cons_ne _ _ hij] at hj
              obtain ⟨q1, q2, q3⟩ := h3 j b' hj
              exact ⟨by omega, by simp; omega, q3⟩
        · simp at h
    · simp at h

/-- One function's answers, by values and memory. -/
def stE (g : Nat) (s : List AV → Heap → Option (AV × Eff × Nat)) (C : Oracle) : Oracle := fun R g' args H N K =>
  bif Nat.beq g' g then
    let xs := liveGo 0 H 400 (AV.namesL args) []
    bif nodupB xs && allIn xs (AV.namesL args) && belowB N xs then
      match takeH H xs xs 0 with
      | some Hc => match s (AV.renL (fun n => posN n xs) args) Hc with
        | some (v, e, k') => bif Nat.ble xs.length k' && belowB k' (namesOf e) then K (v.ren (mapN xs N)) (renE (mapN xs N) e) (Nat.add N (Nat.sub k' xs.length)) else none
        | none => C R g' args H N K
      | none => C R g' args H N K
    else C R g' args H N K
  else C R g' args H N K

def StOK (P : Program) (g : FuncId) (s : List AV → Heap → Option (AV × Eff × Nat)) : Prop := ∀ args H v e k', s args H = some (v, e, k') → Ans P g args H H.length v e k'

theorem stE_snd {P : Program} {g : FuncId} {s : List AV → Heap → Option (AV × Eff × Nat)} {C : Oracle} (hs : StOK P g s) (hC : Snd P C) : Snd P (stE g s C) := by
  intro R g' args H N K r h
  unfold stE at h
  cases hg : Nat.beq g' g with
  | false => rw [hg] at h; exact hC R g' args H N K r h
  | true =>
    rw [hg] at h
    have hg' : g' = g := Nat.eq_of_beq_eq_true hg
    subst hg'
    simp only [cond_true] at h
    generalize liveGo 0 H 400 (AV.namesL args) [] = xs at h
    cases hc : (nodupB xs && allIn xs (AV.namesL args) && belowB N xs) with
    | false => rw [hc] at h; exact hC R g' args H N K r h
    | true =>
      rw [hc] at h
      simp only [cond_true] at h
      simp only [Bool.and_eq_true] at hc
      obtain ⟨⟨hnd, hal⟩, hbl⟩ := hc
      split at h
      · rename_i Hc ht
        split at h
        · rename_i v e k' hv
          cases hk : (Nat.ble xs.length k' && belowB k' (namesOf e)) with
          | false => rw [hk] at h; simp at h
          | true =>
            rw [hk] at h
            simp only [cond_true] at h
            simp only [Bool.and_eq_true] at hk
            obtain ⟨t1, t2, t3⟩ := takeH_spec ht (fun j hj => by simp)
            have hlt := belowB_iff hbl
            have hback : ∀ n ∈ xs, mapN xs N (posN n xs) = n := fun n hn => by
              have := mapN_lt (N := N) (posN_lt hn).1
              rw [(posN_lt hn).2] at this; simp at this; exact this.symm
            have hin := allIn_iff hal
            have hkk := ble_true.1 hk.1
            refine ⟨_, _, _, h, Nat.le_add_right _ _, ?_⟩
            have key := ans_ren (xs := xs) (N := N) (t1 ▸ hs _ _ _ _ _ hv) hkk hnd hlt
              (fun n hn => by obtain ⟨m, hm, rfl⟩ := namesL_ren args n hn; exact (posN_lt (hin m hm)).1)
              (fun x b hx => by
                obtain ⟨_, q2, x', b0, _, _, rfl, q6⟩ := t3 x b hx
                refine ⟨by omega, fun n hn => ?_⟩
                obtain ⟨m, hm, rfl⟩ := segNames_ren b0.segs n hn
                exact (posN_lt (q6 m hm)).1)
              (fun x hx => ⟨belowB_iff hk.2 x hx, fun hx2 => by have := t2 x hx2; rwa [Nat.zero_add] at this⟩)
              (H := H) (fun y b hy => by
                have inj := mapN_inj (N := N) hnd hlt
                have tw := twin_ren inj Hc
                obtain ⟨j, rfl⟩ := tw.2 y b hy
                rw [tw.1] at hy
                cases hq : Hc.find j with
                | none => rw [hq] at hy; simp at hy
                | some b1 =>
                  rw [hq] at hy; simp at hy; subst hy
                  obtain ⟨_, q2, x, b0, q3, q4, rfl, q6⟩ := t3 j b1 hq
                  have hjx : mapN xs N j = x := by
                    have := mapN_lt (N := N) (i := j) (xs := xs) (by omega)
                    rw [q3] at this; simp at this; exact this.symm
                  rw [hjx, q4]
                  simp only [blkRen]
                  rw [segRen_back b0.segs (fun n hn => hback n (q6 n hn))])
            rw [renL_back args (fun n hn => hback n (hin n hn))] at key
            exact key
        · exact hC R g' args H N K r h
      · exact hC R g' args H N K r h
/-- A function's run in memory of names from nought on. -/
def stRun (P : Program) (C : Oracle) (F : Cfg) (fn : Func) (args : List AV) (H : Heap) : Option (AV × Eff × Nat) := inlineA P C (drawA P) F fn args H H.length (fun v e k => some (v, e, k))
theorem stOK_of {P : Program} {C : Oracle} (hC : Snd P C) {F : Cfg} {g : FuncId} {fn : Func} (hfn : P.funcs[g]? = some fn) (hname : (fn.name == "runtime.NumGoroutine") = false) {s : List AV → Heap → Option (AV × Eff × Nat)}
    (h : ∀ args H r, s args H = some r → stRun P C F fn args H = some r) (hF : FOK P fn F := by first | exact fok_nil rfl | assumption) : StOK P g s := by
  intro args H v e k' hv
  obtain ⟨v2, e2, k2, h1, _, h3⟩ := inlineA_sound hC hfn hF hname (h args H _ hv)
  simp only [Option.some.injEq, Prod.mk.injEq] at h1
  obtain ⟨rfl, rfl, rfl⟩ := h1
  exact h3
theorem merQ {α β : Type} {c : Bool} (f : α → β) {T F : Option β} {x y : α} (hT : T = some (f x)) (hF : F = some (f y)) : cond c T F = some (f (cond c x y)) := by cases c <;> assumption
end Go.Sx


/- What the executor answers, the machine answers: code, a function's body. -/
import Derived.Test.YtaieimjeffedhaaSxL
import Derived.LoopN
import Derived.Scope
set_option linter.unusedSimpArgs false
set_option linter.unusedVariables false
set_option linter.unnecessarySimpa false
namespace Go.Sx
open Go

section
variable {P : Program} {w : World} {ρ : Env} {R : Type} {r : R}

def Tms (ρ : Env) (nt : Nat) (tm : TM) (a : Act) : Prop := a.tmps.size = nt ∧ ∀ t, VR ρ (tm.get t) (a.tmps.getD t undef)

theorem Tms.mono {ρ' : Env} {nt : Nat} {tm : TM} {a : Act} (h : Tms ρ nt tm a) (hl : ρ.le ρ') : Tms ρ' nt tm a := ⟨h.1, fun t => VR_mono hl _ _ (h.2 t)⟩
theorem Tms.ev {nt : Nat} {tm : TM} {a : Act} (h : Tms ρ nt tm a) (x : Operand) : VR ρ (evA tm x) (a.eval x) := by
  cases x with
  | tmp t => exact h.2 t
  | const v => exact VR_ofV v
  | global g => simp [evA, VR]
  | func f => simp only [evA, Act.eval, VR]; exact ⟨#[], #[], rfl, by simp, by simp⟩
theorem getD_put (tmps : Array Value) (d t : Nat) (x : Value) (hd : d < tmps.size) : (tmps.setIfInBounds d x).getD t undef = if t = d then x else tmps.getD t undef := by
  simp only [Array.getD_eq_getD_getElem?]
  by_cases h : t = d
  · subst h; simp [hd]
  · rw [Array.getElem?_setIfInBounds_ne (by omega)]; simp [h]
theorem Tms.set {nt : Nat} {tm : TM} {a : Act} (h : Tms ρ nt tm a) {d : Nat} (hd : d < nt) {v : AV} {x : Value} (hv : VR ρ v x) : Tms ρ nt (tm.set 12 d v) { a with tmps := a.tmps.setIfInBounds d x } := by
  refine ⟨by simp [h.1], fun t => ?_⟩
  rw [getD_put _ _ _ _ (by rw [h.1]; exact hd)]
  rcases TM_get_set 12 tm d v t with h1 | ⟨h1, h2⟩ | ⟨h1, h2⟩
  · rw [h1]; simp [VR]
  · subst h1; rw [h2]; simpa using hv
  · rw [h2, if_neg h1]; exact h.2 t
/-- What is known of a temporary's value. -/
theorem Tms.know {nt : Nat} {tm : TM} {a : Act} (h : Tms ρ nt tm a) {d : Nat} {v : AV} (hv : VR ρ v (a.tmps.getD d undef)) : Tms ρ nt (tm.set 12 d v) a := by
  refine ⟨h.1, fun t => ?_⟩
  rcases TM_get_set 12 tm d v t with h1 | ⟨h1, h2⟩ | ⟨h1, h2⟩
  · rw [h1]; simp [VR]
  · subst h1; rw [h2]; exact hv
  · rw [h2]; exact h.2 t

theorem putA_sound {nt : Nat} {tm : TM} {d : Option Tmp} {v : AV} {K : TM → Option R} (h : putA nt tm d v K = some r) :
    ∃ tm', K tm' = some r ∧ ∀ (ρ : Env) (a : Act) (x : Value), Tms ρ nt tm a → VR ρ v x → Tms ρ nt tm' (a.put d x) := by
  unfold putA at h
  split at h
  · exact ⟨tm, h, fun ρ a x ht _ => ht⟩
  · rename_i d
    cases hd : Nat.blt d nt with
    | false => rw [hd] at h; simp at h
    | true =>
      rw [hd] at h
      rw [blt_true] at hd
      exact ⟨_, h, fun ρ a x ht hx => ht.set hd hx⟩

theorem does_wp {o : Oper} {a : Act} {next : Act → World → Prop} {Q : Exit → Act → World → Prop} {D : Value → World → Prop} (h : Does P (execOp a.eval o) w D) (hn : ∀ v w', D v w' → next (a.put o.dst v) w') : o.wp P a w next Q := by
  unfold Does at h
  unfold Oper.wp
  generalize (execOp a.eval o).run P w = q at *
  cases q with
  | ok n w' =>
    cases n <;> simp only [Oper.upon] at h ⊢ <;> first
      | exact hn _ _ h
      | exact h.mono fun e w' ⟨v, hv, hh⟩ => by subst hv; exact hn _ _ hh
      | exact h.elim
  | halt x w' => exact h.elim

/-- What an operation of a row must come to. -/
def OpPost (P : Program) (ops : Array Oper) (o : Oper) (ρ : Env) (nt : Nat) (H : Heap) (N : Nat) (w : World) (tm' : TM) (H' : Heap) (N' : Nat) (a : Act) : Prop :=
  ∀ (next : Act → World → Prop) (Q : Exit → Act → World → Prop), (∀ a' w' ρ', Step ρ H N w ρ' H' N' w' → Tms ρ' nt tm' a' → a'.defers = a.defers → next a' w') →
    if Region.wanted o (yielded ops a.tmps) then o.wp P a w next Q else next (a.put o.dst undef) w

theorem put_defers (a : Act) (d : Option Tmp) (v : Value) : (a.put d v).defers = a.defers := by cases d <;> rfl

theorem yielded_some {ops : Array Oper} {a : Act} {j d : Nat} (h : (ops[j]?).bind (·.dst) = some d) {b : Bool} (hv : a.tmps.getD d undef = .bool b) : yielded ops a.tmps j = some b := by
  unfold yielded
  rw [h]
  simp only [Option.bind_some]
  rw [Array.getD_eq_getD_getElem?] at hv
  cases hq : a.tmps[d]? with
  | none => rw [hq] at hv; simp [undef] at hv
  | some x => rw [hq] at hv; simp at hv; subst hv; rfl
theorem yielded_none {ops : Array Oper} {a : Act} {j d : Nat} (h : (ops[j]?).bind (·.dst) = some d) (hv : a.tmps.getD d undef = undef) : yielded ops a.tmps j = none := by
  unfold yielded
  rw [h]
  simp only [Option.bind_some]
  rw [Array.getD_eq_getD_getElem?] at hv
  cases hq : a.tmps[d]? with
  | none => rfl
  | some x => rw [hq] at hv; simp at hv; subst hv; rfl

theorem operA_sound {C : Oracle} (hC : Snd P C) {fl : Fl} {nt : Nat} {ops : Array Oper} {o : Oper} {tm : TM} {H : Heap} {N : Nat} {K : TM → Heap → Nat → Option R} (h : operA P C fl nt ops o tm H N K = some r) :
    ∃ tm' H' N', K tm' H' N' = some r ∧ N ≤ N' ∧ ∀ (ρ : Env) (a : Act) (w : World), Tms ρ nt tm a → Inv ρ H w → Fresh ρ N N' → OpPost P ops o ρ nt H N w tm' H' N' a := by
  have run : ∀ tm0, (opA P C o.op tm0 H N fun v e N' => putA nt tm0 o.dst v fun tm => K tm (H.upd e) N') = some r →
      ∃ tm' H' N', K tm' H' N' = some r ∧ N ≤ N' ∧ ∀ (ρ : Env) (a : Act) (w : World), Tms ρ nt tm0 a → Inv ρ H w → Fresh ρ N N' → Region.wanted o (yielded ops a.tmps) = true → OpPost P ops o ρ nt H N w tm' H' N' a := by
    intro tm0 h
    obtain ⟨v, e, N', hp, hN, hall⟩ := opA_sound hC h
    obtain ⟨tm', hk, hput⟩ := putA_sound hp
    refine ⟨tm', _, _, hk, hN, fun ρ a w ht hi hf hw next Q hn => ?_⟩
    rw [if_pos hw]
    refine does_wp (hall ρ w a.eval o rfl (fun x => ht.ev x) hi hf) ?_
    rintro v' w' ⟨ρ', hst, hv⟩
    exact hn _ _ ρ' hst (hput ρ' a v' (ht.mono (hst.le hf)) hv) (put_defers _ _ _)
  have skip : ∀ tm0, (putA nt tm0 o.dst (.tup []) fun tm => K tm H N) = some r →
      ∃ tm' H' N', K tm' H' N' = some r ∧ N ≤ N' ∧ ∀ (ρ : Env) (a : Act) (w : World), Tms ρ nt tm0 a → Inv ρ H w → Fresh ρ N N' → Region.wanted o (yielded ops a.tmps) = false → OpPost P ops o ρ nt H N w tm' H' N' a := by
    intro tm0 h
    obtain ⟨tm', hk, hput⟩ := putA_sound h
    refine ⟨tm', _, _, hk, Nat.le_refl _, fun ρ a w ht hi hf hw next Q hn => ?_⟩
    rw [if_neg (by simp [hw])]
    exact hn _ _ ρ (Step.refl hi) (hput ρ a undef ht VR_undef) (put_defers _ _ _)
  unfold operA at h
  simp only [opF_eq] at h
  try dsimp only at h
  split at h
  · rename_i hg
    obtain ⟨tm', H', N', h1, h2, h3⟩ := run tm h
    exact ⟨tm', H', N', h1, h2, fun ρ a w ht hi hf => h3 ρ a w ht hi hf (by simp [Region.wanted, hg])⟩
  · rename_i j want hg
    split at h
    · simp at h
    · rename_i d hd
      cases hdn : Nat.blt d nt with
      | false => rw [hdn] at h; simp at h
      | true =>
        rw [hdn] at h
        simp only [cond_true] at h
        split at h
        · rename_i b hb
          have known : ∀ (ρ : Env) (a : Act), Tms ρ nt tm a → a.tmps.getD d undef = .bool b := by
            intro ρ a ht
            have := ht.2 d
            rw [hb] at this
            simpa only [VR] using this
          have tmk : ∀ (ρ : Env) (a : Act), Tms ρ nt tm a → Tms ρ nt (tm.set 12 d (.bool b)) a := fun ρ a ht => ht.know (by rw [known ρ a ht]; simp only [VR])
          have wt : ∀ (ρ : Env) (a : Act), Tms ρ nt tm a → Region.wanted o (yielded ops a.tmps) = (b == want) := by
            intro ρ a ht
            simp only [Region.wanted, hg, yielded_some hd (known ρ a ht)]
            cases b <;> cases want <;> rfl
          cases b <;> cases want <;> simp only [cond_true, cond_false] at h
          · obtain ⟨tm', H', N', h1, h2, h3⟩ := run _ h
            exact ⟨tm', H', N', h1, h2, fun ρ a w ht hi hf => h3 ρ a w (tmk ρ a ht) hi hf (by rw [wt ρ a ht]; rfl)⟩
          · obtain ⟨tm', H', N', h1, h2, h3⟩ := skip _ h
            exact ⟨tm', H', N', h1, h2, fun ρ a w ht hi hf => h3 ρ a w (tmk ρ a ht) hi hf (by rw [wt ρ a ht]; rfl)⟩
          · obtain ⟨tm', H', N', h1, h2, h3⟩ := skip _ h
            exact ⟨tm', H', N', h1, h2, fun ρ a w ht hi hf => h3 ρ a w (tmk ρ a ht) hi hf (by rw [wt ρ a ht]; rfl)⟩
          · obtain ⟨tm', H', N', h1, h2, h3⟩ := run _ h
            exact ⟨tm', H', N', h1, h2, fun ρ a w ht hi hf => h3 ρ a w (tmk ρ a ht) hi hf (by rw [wt ρ a ht]; rfl)⟩
        · rename_i hb
          obtain ⟨tm', H', N', h1, h2, h3⟩ := skip _ h
          refine ⟨tm', H', N', h1, h2, fun ρ a w ht hi hf => h3 ρ a w ht hi hf ?_⟩
          have : a.tmps.getD d undef = undef := by
            have := ht.2 d
            rw [hb] at this
            simp only [VR] at this
            obtain ⟨x, hx, hl⟩ := this
            simp at hl
            rw [hx, hl]; rfl
          simp [Region.wanted, hg, yielded_none hd this]
        · simp at h

/-- What a piece of code must come to. -/
def CodePost (ρ : Env) (nt : Nat) (H : Heap) (N : Nat) (w : World) (tm' : TM) (H' : Heap) (N' : Nat) (a a' : Act) (w' : World) : Prop :=
  ∃ ρ', Step ρ H N w ρ' H' N' w' ∧ Tms ρ' nt tm' a' ∧ a'.defers = a.defers

theorem opsA_sound {C : Oracle} (hC : Snd P C) {fl : Fl} {nt : Nat} {ops : Array Oper} : ∀ {l : List Oper} {i : Nat} {tm : TM} {H : Heap} {N : Nat} {K : TM → Heap → Nat → Option R}, ops.toList.drop i = l → opsA P C fl nt ops l tm H N K = some r →
    ∃ tm' H' N', K tm' H' N' = some r ∧ N ≤ N' ∧ ∀ (ρ : Env) (a : Act) (w : World) (Q : Exit → Act → World → Prop), Tms ρ nt tm a → Inv ρ H w → Fresh ρ N N' →
      (∀ a' w', CodePost ρ nt H N w tm' H' N' a a' w' → Q .normal a' w') → wpOps P ops Q (List.range' i (ops.size - i)) a w
  | [], i, tm, H, N, K, hl, h => by
    refine ⟨tm, H, N, h, Nat.le_refl _, fun ρ a w Q ht hi hf hq => ?_⟩
    have : ops.size - i = 0 := by
      have := congrArg List.length hl
      simpa using this
    rw [this]
    exact hq a w ⟨ρ, Step.refl hi, ht, rfl⟩
  | o :: l, i, tm, H, N, K, hl, h => by
    simp only [opsA, fT_eq, fH_eq] at h
    obtain ⟨tm1, H1, N1, h1, hN1, hop⟩ := operA_sound hC h
    have hlt : i < ops.size := by
      have := congrArg List.length hl
      simp at this; omega
    have hl' : ops.toList.drop (i + 1) = l := by
      rw [← List.drop_drop, hl]; rfl
    have hoi : ops[i]? = some o := by
      have : (ops.toList.drop i)[0]? = some o := by rw [hl]; rfl
      rw [List.getElem?_drop] at this
      simpa using this
    obtain ⟨tm2, H2, N2, h2, hN2, hrest⟩ := opsA_sound hC hl' h1
    refine ⟨tm2, H2, N2, h2, Nat.le_trans hN1 hN2, fun ρ a w Q ht hi hf hq => ?_⟩
    have e : List.range' i (ops.size - i) = i :: List.range' (i + 1) (ops.size - (i + 1)) := by
      rw [show ops.size - i = (ops.size - (i + 1)) + 1 by omega, List.range'_succ]
    rw [e]
    simp only [wpOps, hoi]
    have := hop ρ a w ht hi (hf.sub (Nat.le_refl _) hN2) (wpOps P ops Q (List.range' (i + 1) (ops.size - (i + 1)))) Q (fun a' w' ρ' hst ht' hd => by
      refine hrest ρ' a' w' Q ht' hst.inv (hf.next hst hN1) (fun a'' w'' ⟨ρ'', hst', ht'', hd'⟩ => hq a'' w'' ⟨ρ'', hst.trans hst' hN1 hN2, ht'', hd'.trans hd⟩))
    split at this
    · rename_i hw; rw [if_pos hw]; exact .inl this
    · rename_i hw; rw [if_neg hw]; exact this

def Out.to : Out → Exit
  | .normal => .normal
  | .exit id => .exit id
  | .ret => .ret

/-- The regions that draw their order. -/
def DSnd (P : Program) (nt : Nat) (D : DrawA) : Prop :=
  ∀ (R : Type) (ops : Array Oper) (tm : TM) (H : Heap) (N : Nat) (K : TM → Heap → Nat → Option R) (r : R), D R ops tm H N K = some r →
    ∃ tm' H' N', K tm' H' N' = some r ∧ N ≤ N' ∧ ∀ (ρ : Env) (a : Act) (w : World) (id : Nat), Tms ρ nt tm a → Inv ρ H w → Fresh ρ N N' →
      (Code.region id ops true).wp P (fun e a' w' => e = .normal ∧ CodePost ρ nt H N w tm' H' N' a a' w') a w

/-- No name from N on is given. -/
def FreshI (ρ : Env) (N : Nat) : Prop := ∀ x, N ≤ x → ρ x = none
theorem FreshI.to {ρ : Env} {N N' : Nat} (h : FreshI ρ N) : Fresh ρ N N' := fun x hx _ => h x hx
theorem FreshI.next {ρ ρ1 : Env} {H H1 : Heap} {N N1 : Nat} {w w1 : World} (h : FreshI ρ N) (hs : Step ρ H N w ρ1 H1 N1 w1) (hN : N ≤ N1) : FreshI ρ1 N1 := by
  intro x hx
  rw [hs.ext x (by omega)]
  exact h x (by omega)

/-- What code must come to. -/
def CodeOK (P : Program) (nt : Nat) (c : Code) (tm : TM) (H : Heap) (N : Nat) (o : Out) (tm' : TM) (H' : Heap) (N' : Nat) : Prop :=
  ∀ (ρ : Env) (a : Act) (w : World), Tms ρ nt tm a → Inv ρ H w → FreshI ρ N → c.wp P (fun e a' w' => e = o.to ∧ CodePost ρ nt H N w tm' H' N' a a' w') a w

/-! names in the normal form -/
theorem memB_iff {x : Nat} : ∀ {l : List Nat}, memB x l = true ↔ x ∈ l
  | [] => by simp [memB]
  | y :: l => by simp [memB, memB_iff (l := l), beq_true]
theorem allKept_iff {N : Nat} {live : List Nat} : ∀ {l : List Nat}, allKept N live l = true → ∀ x ∈ l, x < N ∨ x ∈ live
  | [], _, x, h => by simp at h
  | y :: l, hh, x, h => by
    simp only [allKept, Bool.and_eq_true, keptN, Bool.or_eq_true, blt_true, memB_iff] at hh
    rcases List.mem_cons.1 h with rfl | h
    · exact hh.1
    · exact allKept_iff hh.2 x h
theorem aboveB_iff {N : Nat} : ∀ {l : List Nat}, aboveB N l = true → ∀ x ∈ l, N ≤ x
  | [], _, x, h => by simp at h
  | y :: l, hh, x, h => by
    simp only [aboveB, Bool.and_eq_true, ble_true] at hh
    rcases List.mem_cons.1 h with rfl | h
    · exact hh.1
    · exact aboveB_iff hh.2 x h
theorem posN_lt {x : Nat} : ∀ {l : List Nat}, x ∈ l → posN x l < l.length ∧ l[posN x l]? = some x
  | [], h => by simp at h
  | y :: l, h => by
    simp only [posN]
    by_cases hxy : x = y
    · subst hxy; simp
    · rw [beq_false.2 hxy]
      have := posN_lt ((List.mem_cons.1 h).resolve_left hxy)
      simp only [cond_false, List.length_cons]
      exact ⟨by omega, by simpa using this.2⟩
theorem nodupB_pos : ∀ {l : List Nat}, nodupB l = true → ∀ (i : Nat) (x : Nat), l[i]? = some x → posN x l = i
  | [], _, i, x, h => by simp at h
  | y :: l, hh, i, x, h => by
    simp only [nodupB, Bool.and_eq_true, Bool.not_eq_true'] at hh
    simp only [posN]
    cases i with
    | zero => simp at h; subst h; simp
    | succ i =>
      simp at h
      have hxl : x ∈ l := List.mem_of_getElem? h
      by_cases hxy : x = y
      · subst hxy; rw [memB_iff.2 hxl] at hh; simp at hh
      · rw [beq_false.2 hxy]
        simp only [cond_false]
        rw [nodupB_pos hh.2 i x h]

mutual
theorem VR_ren {ρ ρ' : Env} {f : Nat → Nat} : ∀ (v : AV) (x : Value), (∀ n ∈ v.names, ρ' (f n) = ρ n) → VR ρ v x → VR ρ' (v.ren f) x
  | .any, _, _, _ => by simp [AV.ren, VR]
  | .bool _, _, _, hv => by simpa [AV.ren, VR] using hv
  | .int _ _, _, _, hv => by simpa [AV.ren, VR] using hv
  | .ptr p, _, h, hv => by
    simp only [AV.ren, VR] at hv ⊢
    obtain ⟨l, hl, hx⟩ := hv
    exact ⟨l, by rw [h p.x (by simp [AV.names])]; exact hl, hx⟩
  | .nilptr, _, _, hv => by simpa [AV.ren, VR] using hv
  | .slice p es n, _, h, hv => by
    simp only [AV.ren, VR] at hv ⊢
    obtain ⟨l, cap, hl, r⟩ := hv
    exact ⟨l, cap, by rw [h p.x (by simp [AV.names])]; exact hl, r⟩
  | .nilslice, _, _, hv => by simpa [AV.ren, VR] using hv
  | .func _ a c, _, h, hv => by
    simp only [AV.ren, VR] at hv ⊢
    obtain ⟨a', c', hx, ha, hc⟩ := hv
    exact ⟨a', c', hx, VRs_ren a _ (fun n hn => h n (by simp [AV.names, hn])) ha, VRs_ren c _ (fun n hn => h n (by simp [AV.names, hn])) hc⟩
  | .nilfunc, _, _, hv => by simpa [AV.ren, VR] using hv
  | .iface _ v, _, h, hv => by
    simp only [AV.ren, VR] at hv ⊢
    obtain ⟨y, hx, hy⟩ := hv
    exact ⟨y, hx, VR_ren v y (fun n hn => h n (by simpa [AV.names] using hn)) hy⟩
  | .nilface, _, _, hv => by simpa [AV.ren, VR] using hv
  | .agg l, _, h, hv => by
    simp only [AV.ren, VR] at hv ⊢
    obtain ⟨a, hx, ha⟩ := hv
    exact ⟨a, hx, VRs_ren l _ (fun n hn => h n (by simpa [AV.names] using hn)) ha⟩
  | .tup l, _, h, hv => by
    simp only [AV.ren, VR] at hv ⊢
    obtain ⟨a, hx, ha⟩ := hv
    exact ⟨a, hx, VRs_ren l _ (fun n hn => h n (by simpa [AV.names] using hn)) ha⟩
  | .lit _, _, _, hv => by simpa [AV.ren, VR] using hv
theorem VRs_ren {ρ ρ' : Env} {f : Nat → Nat} : ∀ (l : List AV) (ys : List Value), (∀ n ∈ AV.namesL l, ρ' (f n) = ρ n) → VRs ρ l ys → VRs ρ' (AV.renL f l) ys
  | [], _, _, hl => by simpa [AV.renL] using hl
  | v :: l, _, h, hl => by
    obtain ⟨y, r, rfl, hv, hr⟩ := VRs_cons.1 hl
    simp only [AV.renL]
    exact VRs_cons' (VR_ren v y (fun n hn => h n (by simp [AV.namesL, hn])) hv) (VRs_ren l r (fun n hn => h n (by simp [AV.namesL, hn])) hr)
end
theorem coerce_ren (f : Nat → Nat) (c : CK) (v : AV) : (coerce c v).ren f = coerce c v := by cases c <;> simp [coerce, AV.ren]
theorem rowCells_ren (f : Nat → Nat) : ∀ (sh : List CK) (r : List AV), (rowCells sh r).map (AV.ren f) = rowCells sh r
  | [], _ => rfl
  | c :: s, [] => by simp [rowCells, coerce_ren, rowCells_ren f s []]
  | c :: s, v :: r => by simp [rowCells, coerce_ren, rowCells_ren f s r]
theorem arrFlat_ren (f : Nat → Nat) (sh : List CK) : ∀ (n : Nat) (d : List (List AV)), (arrFlat sh n d).map (AV.ren f) = arrFlat sh n d
  | 0, _ => rfl
  | n + 1, [] => by simp [arrFlat, rowCells_ren, arrFlat_ren f sh n []]
  | n + 1, r :: d => by simp [arrFlat, rowCells_ren, arrFlat_ren f sh n d]
theorem flat_ren (f : Nat → Nat) : ∀ (s : List Seg), flat (segRen f s) = (flat s).map (AV.ren f)
  | [] => rfl
  | .cell v :: r => by simp [segRen, flat, flat_ren f r]
  | .arr sh n d :: r => by simp [segRen, flat, flat_ren f r, arrFlat_ren]
theorem coerce_names (c : CK) (v : AV) : (coerce c v).names = [] := by cases c <;> simp [coerce, AV.names]
theorem rowCells_names : ∀ (sh : List CK) (r : List AV), ∀ v ∈ rowCells sh r, v.names = []
  | [], _, v, h => by simp [rowCells] at h
  | c :: s, [], v, h => by
    simp only [rowCells, List.mem_cons] at h
    rcases h with rfl | h
    · exact coerce_names _ _
    · exact rowCells_names s [] v h
  | c :: s, u :: r, v, h => by
    simp only [rowCells, List.mem_cons] at h
    rcases h with rfl | h
    · exact coerce_names _ _
    · exact rowCells_names s r v h
theorem arrFlat_names (sh : List CK) : ∀ (n : Nat) (d : List (List AV)), ∀ v ∈ arrFlat sh n d, v.names = []
  | 0, _, v, h => by simp [arrFlat] at h
  | n + 1, [], v, h => by
    simp only [arrFlat, List.mem_append] at h
    rcases h with h | h
    · exact rowCells_names _ _ v h
    · exact arrFlat_names sh n [] v h
  | n + 1, r :: d, v, h => by
    simp only [arrFlat, List.mem_append] at h
    rcases h with h | h
    · exact rowCells_names _ _ v h
    · exact arrFlat_names sh n d v h
theorem flat_names : ∀ (s : List Seg) (v : AV), v ∈ flat s → ∀ n ∈ v.names, n ∈ segNames s
  | [], v, h, _, _ => by simp [flat] at h
  | .cell u :: r, v, h, n, hn => by
    simp only [flat, List.mem_cons] at h
    simp only [segNames, List.mem_append]
    rcases h with rfl | h
    · exact .inl hn
    · exact .inr (flat_names r v h n hn)
  | .arr sh m d :: r, v, h, n, hn => by
    simp only [flat, List.mem_append] at h
    simp only [segNames]
    rcases h with h | h
    · rw [arrFlat_names sh m d v h] at hn; simp at hn
    · exact flat_names r v h n hn

/-- Places of kept names. -/
def renEnv (ρ0 ρ1 : Env) (N : Nat) (live : List Nat) : Env := fun y => if y < N then ρ1 y else match live[y - N]? with | some x => ρ1 x | none => ρ0 y
theorem renEnv_kept {ρ0 ρ1 : Env} {N : Nat} {live : List Nat} {x : Nat} (h : x < N ∨ x ∈ live) : renEnv ρ0 ρ1 N live (renN N live x) = ρ1 x := by
  unfold renEnv renN
  by_cases hx : x < N
  · rw [blt_true.2 hx]; simp [hx]
  · rw [show Nat.blt x N = false by rw [← Bool.not_eq_true, blt_true]; exact hx]
    simp only [cond_false]
    rw [if_neg (by omega), show N + posN x live - N = posN x live by omega, (posN_lt (h.resolve_left hx)).2]
theorem renN_inj {N : Nat} {live : List Nat} (habove : ∀ x ∈ live, N ≤ x) {x y : Nat} (hx : x < N ∨ x ∈ live) (hy : y < N ∨ y ∈ live) (h : renN N live x = renN N live y) : x = y := by
  unfold renN at h
  have nb : ∀ z, ¬ z < N → Nat.blt z N = false := fun z hz => by rw [← Bool.not_eq_true, blt_true]; exact hz
  by_cases h1 : x < N <;> by_cases h2 : y < N
  · rw [blt_true.2 h1, blt_true.2 h2] at h; exact h
  · rw [blt_true.2 h1, nb y h2] at h; simp at h; omega
  · rw [nb x h1, blt_true.2 h2] at h; simp at h; omega
  · rw [nb x h1, nb y h2] at h
    simp at h
    have p1 := (posN_lt (hx.resolve_left h1)).2
    have p2 := (posN_lt (hy.resolve_left h2)).2
    rw [h, p2] at p1; simpa using p1.symm
theorem keptN_iff {N : Nat} {live : List Nat} {x : Nat} : keptN N live x = true ↔ (x < N ∨ x ∈ live) := by simp [keptN, blt_true, memB_iff]
theorem keptH_find {N : Nat} {live : List Nat} : ∀ {H : Heap} {y : Nat} {b : Blk}, (keptH N live H).find y = some b → ∃ x b0, (x < N ∨ x ∈ live) ∧ renN N live x = y ∧ H.find x = some b0 ∧ b.rw = b0.rw ∧
    (b.segs = [] ∨ b.segs = segRen (renN N live) b0.segs ∧ ∀ n ∈ segNames b0.segs, n < N ∨ n ∈ live)
  | [], y, b, h => by simp [keptH, Heap.find] at h
  | (x, c) :: H, y, b, h => by
    simp only [keptH] at h
    cases hk : keptN N live x with
    | true =>
      rw [hk] at h
      simp only [cond_true, Heap.find] at h
      by_cases hxy : renN N live x = y
      · rw [beq_true.2 hxy] at h
        simp at h; subst h
        refine ⟨x, c, keptN_iff.1 hk, hxy, by simp [Heap.find], rfl, ?_⟩
        cases ha : allKept N live (segNames c.segs) with
        | true => right; simp [ha]; exact allKept_iff ha
        | false => left; simp [ha]
      · rw [beq_false.2 hxy] at h
        obtain ⟨x', b0, h1, h2, h3, h4⟩ := keptH_find h
        refine ⟨x', b0, h1, h2, ?_, h4⟩
        simp only [Heap.find]
        rw [beq_false.2 (by rintro rfl; exact hxy h2)]
        exact h3
    | false =>
      rw [hk] at h
      obtain ⟨x', b0, h1, h2, h3, h4⟩ := keptH_find h
      refine ⟨x', b0, h1, h2, ?_, h4⟩
      simp only [Heap.find]
      rw [beq_false.2 (by
        rintro rfl
        rw [keptN_iff.2 h1] at hk; simp at hk)]
      exact h3

/-- Names brought to the normal form: the same memory. -/
theorem step_norm' {ρs ρ0 ρ1 : Env} {H0 H1 : Heap} {N0 N1 : Nat} {w0 w1 : World} {live : List Nat} (h : Step ρs H0 N0 w0 ρ1 H1 N1 w1) (hs : ∀ x, x < N0 → ρs x = ρ0 x) (hs2 : ρs.le ρ0) :
    Step ρ0 H0 N0 w0 (renEnv ρ0 ρ1 N0 live) (keptH N0 live H1) (N0 + live.length) w1 where
  ext y hy := by
    unfold renEnv
    split
    · rename_i hlt
      rw [h.ext y (by omega)]; exact hs y hlt
    · rw [List.getElem?_eq_none (by omega)]
  os := h.os
  tape := h.tape
  output := h.output
  size := h.size
  block b hb hn := h.block b hb (fun ⟨x, k, l, hx, hl, r⟩ => hn ⟨x, k, l, hx, hs2 _ _ hl, r⟩)
  inv := by
    have blk : ∀ (x : Nat) (b0 b : Blk) (l : Loc), (x < N0 ∨ x ∈ live) → b.rw = b0.rw → (b.segs = [] ∨ b.segs = segRen (renN N0 live) b0.segs ∧ ∀ n ∈ segNames b0.segs, n < N0 ∨ n ∈ live) → BlkRel ρ1 w1 l b0 → BlkRel (renEnv ρ0 ρ1 N0 live) w1 l b := by
      rintro x b0 b l hx hrw hs ⟨c, e, fr, h1, h2, h3, h4⟩
      refine ⟨c, e, fr, h1, by rw [h2, hrw], fun hb => h3 (by rw [← hrw]; exact hb), fun o v hv => ?_⟩
      rcases hs with hs | ⟨hs, hn⟩
      · rw [hs] at hv; simp [flat] at hv
      · rw [hs, flat_ren, List.getElem?_map] at hv
        cases hq : (flat b0.segs)[o]? with
        | none => rw [hq] at hv; simp at hv
        | some u =>
          rw [hq] at hv; simp at hv; subst hv
          obtain ⟨x', hx', hr⟩ := h4 o u hq
          refine ⟨x', hx', VR_ren u x' (fun n hn' => renEnv_kept (hn n (flat_names _ u (List.mem_of_getElem? hq) n hn'))) hr⟩
    constructor
    · intro y b hy
      obtain ⟨x, b0, hx, rfl, hf, hrw, hs⟩ := keptH_find hy
      obtain ⟨l, hl, hb⟩ := h.inv.blk x b0 hf
      exact ⟨l, by rw [renEnv_kept hx]; exact hl, blk x b0 b l hx hrw hs hb⟩
    · intro y z by' bz ly lz hy hz hly hlz hr hb
      obtain ⟨x, b0, hx, rfl, hf, _, _⟩ := keptH_find hy
      obtain ⟨x', b0', hx', rfl, hf', _, _⟩ := keptH_find hz
      rw [renEnv_kept hx] at hly
      rw [renEnv_kept hx'] at hlz
      rw [h.inv.inj x x' b0 b0' ly lz hf hf' hly hlz hr hb]
  prov y k l hy hl := by
    obtain ⟨x, b0, hx, rfl, hf, _, _⟩ := keptH_find hy
    rw [renEnv_kept hx] at hl
    rcases h.prov x b0 l hf hl with ⟨z, kz, lz, hz, hlz, r⟩ | h'
    · exact .inl ⟨z, kz, lz, hz, hs2 _ _ hlz, r⟩
    · exact .inr h'
theorem step_norm {ρ0 ρ1 : Env} {H0 H1 : Heap} {N0 N1 : Nat} {w0 w1 : World} {live : List Nat} (h : Step ρ0 H0 N0 w0 ρ1 H1 N1 w1) :
    Step ρ0 H0 N0 w0 (renEnv ρ0 ρ1 N0 live) (keptH N0 live H1) (N0 + live.length) w1 := step_norm' h (fun _ _ => rfl) (fun _ _ h => h)

theorem keptT_get {N : Nat} {live : List Nat} : ∀ (tm : TM) (t : Nat), (keptT N live tm).get t = keptV N live (tm.get t)
  | .nil, t => by simp [keptT, TM.get, keptV, AV.names, allKept, AV.ren]
  | .node v l r, t => by
    simp only [keptT, TM.get]
    cases Nat.beq t 0 with
    | true => rfl
    | false =>
      cases Nat.beq (Nat.mod t 2) 1 with
      | true => exact keptT_get l _
      | false => exact keptT_get r _
theorem keptV_rel {ρ0 ρ1 : Env} {N : Nat} {live : List Nat} {v : AV} {x : Value} (h : VR ρ1 v x) : VR (renEnv ρ0 ρ1 N live) (keptV N live v) x := by
  unfold keptV
  cases ha : allKept N live v.names with
  | true => exact VR_ren v x (fun n hn => renEnv_kept (allKept_iff ha n hn)) h
  | false => simp [VR]

theorem normA_sound {N0 nt : Nat} {roots : List Nat} {tm : TM} {H : Heap} {K : TM → Heap → Nat → Option R} (h : normA N0 roots tm H K = some r) :
    ∃ tm2 H2 N2, K tm2 H2 N2 = some r ∧ N0 ≤ N2 ∧ ∀ (ρ0 : Env) (H0 : Heap) (w0 : World) (ρ1 : Env) (N1 : Nat) (w1 : World) (a : Act), Step ρ0 H0 N0 w0 ρ1 H N1 w1 → Tms ρ1 nt tm a → ∃ ρ2, Step ρ0 H0 N0 w0 ρ2 H2 N2 w1 ∧ Tms ρ2 nt tm2 a := by
  unfold normA at h
  dsimp only at h
  generalize liveOf N0 H (rootNames tm roots) = live at h
  cases hc : (nodupB live && aboveB N0 live) with
  | false => rw [hc] at h; simp at h
  | true =>
    rw [hc] at h
    simp only [cond_true] at h
    simp only [Bool.and_eq_true] at hc
    refine ⟨_, _, _, h, by omega, fun ρ0 H0 w0 ρ1 N1 w1 a hst ht => ⟨_, step_norm hst, ht.1, fun t => ?_⟩⟩
    rw [keptT_get]
    exact keptV_rel (ht.2 t)

theorem knowA_sound {nt : Nat} {c : Operand} {b : Bool} {tm : TM} {a : Act} (ht : Tms ρ nt tm a) (h : evA tm c = .bool b) : Tms ρ nt (knowA nt c b tm) a := by
  unfold knowA
  split
  · rename_i t
    cases hb : Nat.blt t nt with
    | false => simpa using ht
    | true =>
      simp only [cond_true]
      refine ht.know ?_
      have := ht.2 t
      simp only [evA] at h
      rw [h] at this
      exact this
  · exact ht

/-- What a law of a block must come to. -/
def HSnd (P : Program) (nt : Nat) (c : Code) (h : Handler) : Prop :=
  ∀ (R : Type) (r : R) (tm : TM) (H : Heap) (N : Nat) (K : Out → TM → Heap → Nat → Option R), h R tm H N K = some r → ∃ o tm' H' N', K o tm' H' N' = some r ∧ N ≤ N' ∧ CodeOK P nt c tm H N o tm' H' N'
/-- The blocks, the regions of a name. -/
def subs (id : Nat) : Code → List Code
  | .seq a b => subs id a ++ subs id b
  | .cond _ a b => subs id a ++ subs id b
  | .block i c => bif Nat.beq i id then .block i c :: subs id c else subs id c
  | .region i ops d => bif Nat.beq (Nat.add 1000000 i) id then [.region i ops d] else []
  | .loop c => subs id c
  | .scope c => subs id c
  | _ => []
def LawsOK (P : Program) (nt : Nat) (laws : List (Nat × Handler)) (c : Code) : Prop := ∀ id h, lawOf laws id = some h → ∀ c' ∈ subs id c, HSnd P nt c' h
theorem loopA_sound {C : Oracle} {nt : Nat} {D : DrawA} {F : Cfg} {c : Code}
    (ih : ∀ {R : Type} {r : R} {tm : TM} {H : Heap} {N : Nat} {K : Out → TM → Heap → Nat → Option R}, codeA P C D F nt c tm H N K = some r → ∃ o tm' H' N', K o tm' H' N' = some r ∧ N ≤ N' ∧ CodeOK P nt c tm H N o tm' H' N')
    {R : Type} {r : R} {n0 : Nat} {tm : TM} {H : Heap} {N : Nat} {K : Out → TM → Heap → Nat → Option R} (h : loopA F.fl N F.roots (fun tm H N K => codeA P C D F nt c tm H N K) n0 tm H N K = some r) :
    ∃ o tm' H' N', K o tm' H' N' = some r ∧ N ≤ N' ∧ CodeOK P nt (.loop c) tm H N o tm' H' N' := by
  have key : ∀ (n : Nat) (tm1 : TM) (H1 : Heap) (N1 : Nat), N ≤ N1 → loopA F.fl N F.roots (fun tm H N K => codeA P C D F nt c tm H N K) n tm1 H1 N1 K = some r →
      ∃ o tm' H' N', K o tm' H' N' = some r ∧ N ≤ N' ∧ ∀ (ρ0 : Env) (a0 : Act) (w0 : World) (ρ : Env) (a : Act) (w : World), FreshI ρ0 N → Step ρ0 H N w0 ρ H1 N1 w → Tms ρ nt tm1 a → a.defers = a0.defers →
        Code.rounds P c (fun e a' w' => e = o.to ∧ CodePost ρ0 nt H N w0 tm' H' N' a0 a' w') n a w := by
    intro n
    induction n with
    | zero => intro tm1 H1 N1 hN1 h; simp [loopA] at h
    | succ n ihn =>
      intro tm1 H1 N1 hN1 h
      simp only [loopA, normF_eq] at h
      obtain ⟨o, tm2, H2, N2, h2, hN2, hc2⟩ := ih h
      have other : ∀ (hk : K o tm2 H2 N2 = some r) (ho : o.to ≠ .normal), ∃ o tm' H' N', K o tm' H' N' = some r ∧ N ≤ N' ∧ ∀ (ρ0 : Env) (a0 : Act) (w0 : World) (ρ : Env) (a : Act) (w : World), FreshI ρ0 N → Step ρ0 H N w0 ρ H1 N1 w → Tms ρ nt tm1 a → a.defers = a0.defers →
          Code.rounds P c (fun e a' w' => e = o.to ∧ CodePost ρ0 nt H N w0 tm' H' N' a0 a' w') (n + 1) a w := by
        intro hk ho
        refine ⟨o, tm2, H2, N2, hk, by omega, fun ρ0 a0 w0 ρ a w hf hst ht hd => ?_⟩
        rw [rounds_succ]
        refine wp_mono (hc2 ρ a w ht hst.inv (hf.next hst hN1)) ?_
        rintro e a' w' ⟨rfl, ρ', hst', ht', hd'⟩
        have hp : o.to = o.to ∧ CodePost ρ0 nt H N w0 tm2 H2 N2 a0 a' w' := ⟨rfl, ρ', hst.trans hst' hN1 hN2, ht', hd'.trans hd⟩
        cases o with
        | normal => exact absurd rfl ho
        | exit i => exact hp
        | ret => exact hp
      cases o with
      | normal =>
        obtain ⟨tm3, H3, N3, h3, hN3, hn⟩ := normA_sound (nt := nt) h2
        obtain ⟨o4, tm4, H4, N4, h4, hN4, hr⟩ := ihn tm3 H3 N3 hN3 h3
        refine ⟨o4, tm4, H4, N4, h4, hN4, fun ρ0 a0 w0 ρ a w hf hst ht hd => ?_⟩
        rw [rounds_succ]
        refine wp_mono (hc2 ρ a w ht hst.inv (hf.next hst hN1)) ?_
        rintro e a' w' ⟨rfl, ρ', hst', ht', hd'⟩
        simp only [Out.to, Exit.then]
        obtain ⟨ρ3, hst3, ht3⟩ := hn ρ0 H w0 ρ' N2 w' a' (hst.trans hst' hN1 hN2) ht'
        exact hr ρ0 a0 w0 ρ3 a' w' hf hst3 ht3 (hd'.trans hd)
      | exit i => exact other h2 (by simp [Out.to])
      | ret => exact other h2 (by simp [Out.to])
  obtain ⟨o, tm', H', N', h1, h2, h3⟩ := key n0 tm H N (Nat.le_refl _) h
  exact ⟨o, tm', H', N', h1, h2, fun ρ a w ht hi hf => wp_loop_rounds n0 (h3 ρ a w ρ a w hf (Step.refl hi) ht rfl)⟩
theorem codeA_sound {C : Oracle} (hC : Snd P C) {nt : Nat} {D : DrawA} (hD : DSnd P nt D) {F : Cfg} : ∀ (c : Code) (hH : LawsOK P nt F.laws c) {R : Type} {r : R} {tm : TM} {H : Heap} {N : Nat} {K : Out → TM → Heap → Nat → Option R}, codeA P C D F nt c tm H N K = some r →
    ∃ o tm' H' N', K o tm' H' N' = some r ∧ N ≤ N' ∧ CodeOK P nt c tm H N o tm' H' N' := by
  intro c
  induction c with
  | skip =>
    intro hH R r tm H N K h
    exact ⟨.normal, tm, H, N, h, Nat.le_refl _, fun ρ a w ht hi hf => wp_skip ⟨rfl, ρ, Step.refl hi, ht, rfl⟩⟩
  | label l =>
    intro hH R r tm H N K h
    exact ⟨.normal, tm, H, N, h, Nat.le_refl _, fun ρ a w ht hi hf => wp_label ⟨rfl, ρ, Step.refl hi, ht, rfl⟩⟩
  | exit id =>
    intro hH R r tm H N K h
    exact ⟨.exit id, tm, H, N, h, Nat.le_refl _, fun ρ a w ht hi hf => wp_exit ⟨rfl, ρ, Step.refl hi, ht, rfl⟩⟩
  | ret =>
    intro hH R r tm H N K h
    exact ⟨.ret, tm, H, N, h, Nat.le_refl _, fun ρ a w ht hi hf => wp_ret ⟨rfl, ρ, Step.refl hi, ht, rfl⟩⟩
  | region id ops draw =>
    intro hH R r tm H N K h
    unfold codeA at h
    split at h
    · rename_i hd hlaw
      exact hH _ hd hlaw _ (by simp [subs]) R r tm H N K h
    rename_i hlaw
    clear hlaw
    cases draw with
    | true =>
      simp only [cond_true] at h
      obtain ⟨tm', H', N', h1, h2, h3⟩ := hD R ops tm H N _ r h
      exact ⟨.normal, tm', H', N', h1, h2, fun ρ a w ht hi hf => h3 ρ a w id ht hi hf.to⟩
    | false =>
      simp only [cond_false] at h
      obtain ⟨tm', H', N', h1, h2, h3⟩ := opsA_sound hC (i := 0) rfl h
      refine ⟨.normal, tm', H', N', h1, h2, fun ρ a w ht hi hf => wp_region ?_⟩
      have := h3 ρ a w (fun e a' w' => e = .normal ∧ CodePost ρ nt H N w tm' H' N' a a' w') ht hi hf.to (fun a' w' hp => ⟨rfl, hp⟩)
      simpa [List.range_eq_range', Out.to] using this
  | seq a b iha ihb =>
    intro hH R r tm H N K h
    simp only [codeA] at h
    obtain ⟨o, tm1, H1, N1, h1, hN1, hc1⟩ := iha (fun id h hl c' hc => hH id h hl c' (by simp [subs, hc])) h
    cases o with
    | normal =>
      obtain ⟨o2, tm2, H2, N2, h2, hN2, hc2⟩ := ihb (fun id h hl c' hc => hH id h hl c' (by simp [subs, hc])) h1
      refine ⟨o2, tm2, H2, N2, h2, Nat.le_trans hN1 hN2, fun ρ a w ht hi hf => wp_seq ?_⟩
      refine wp_mono (hc1 ρ a w ht hi hf) ?_
      rintro e a' w' ⟨rfl, ρ', hst, ht', hd⟩
      refine wp_mono (hc2 ρ' a' w' ht' hst.inv (hf.next hst hN1)) ?_
      rintro e a'' w'' ⟨rfl, ρ'', hst', ht'', hd'⟩
      exact ⟨rfl, ρ'', hst.trans hst' hN1 hN2, ht'', hd'.trans hd⟩
    | exit i =>
      refine ⟨_, tm1, H1, N1, h1, hN1, fun ρ a w ht hi hf => wp_seq (wp_mono (hc1 ρ a w ht hi hf) ?_)⟩
      rintro e a' w' ⟨rfl, hp⟩
      exact ⟨rfl, hp⟩
    | ret =>
      refine ⟨_, tm1, H1, N1, h1, hN1, fun ρ a w ht hi hf => wp_seq (wp_mono (hc1 ρ a w ht hi hf) ?_)⟩
      rintro e a' w' ⟨rfl, hp⟩
      exact ⟨rfl, hp⟩
  | cond c x y ihx ihy =>
    intro hH R r tm H N K h
    simp only [codeA] at h
    split at h
    · rename_i v hv
      have hev : ∀ (ρ : Env) (a : Act), Tms ρ nt tm a → a.eval c = .bool v := by
        intro ρ a ht
        have := ht.ev c
        rw [hv] at this
        simpa only [VR] using this
      cases v with
      | true =>
        simp only [cond_true] at h
        obtain ⟨o, tm', H', N', h1, h2, h3⟩ := ihx (fun id h hl c' hc => hH id h hl c' (by simp [subs, hc])) h
        exact ⟨o, tm', H', N', h1, h2, fun ρ a w ht hi hf => wp_cond_true (hev ρ a ht) (h3 ρ a w (knowA_sound ht hv) hi hf)⟩
      | false =>
        simp only [cond_false] at h
        obtain ⟨o, tm', H', N', h1, h2, h3⟩ := ihy (fun id h hl c' hc => hH id h hl c' (by simp [subs, hc])) h
        exact ⟨o, tm', H', N', h1, h2, fun ρ a w ht hi hf => wp_cond_false (hev ρ a ht) (h3 ρ a w (knowA_sound ht hv) hi hf)⟩
    · simp at h
  | block id c ih =>
    intro hH R r tm H N K h
    unfold codeA at h
    split at h
    · rename_i hd hlaw
      exact hH id hd hlaw _ (by simp [subs]) R r tm H N K h
    · rename_i hlaw
      obtain ⟨o, tm1, H1, N1, h1, hN1, hc1⟩ := ih (fun i h hl c' hc => hH i h hl c' (by
          simp only [subs]
          cases Nat.beq id i <;> simp [hc])) h
      cases o with
      | normal =>
        refine ⟨_, tm1, H1, N1, h1, hN1, fun ρ a w ht hi hf => wp_block (wp_mono (hc1 ρ a w ht hi hf) ?_)⟩
        rintro e a' w' ⟨rfl, hp⟩
        exact ⟨rfl, hp⟩
      | ret =>
        refine ⟨_, tm1, H1, N1, h1, hN1, fun ρ a w ht hi hf => wp_block (wp_mono (hc1 ρ a w ht hi hf) ?_)⟩
        rintro e a' w' ⟨rfl, hp⟩
        exact ⟨rfl, hp⟩
      | exit i =>
        by_cases hid : i = id
        · subst hid
          simp only [Nat.beq_refl, cond_true] at h1
          refine ⟨_, tm1, H1, N1, h1, hN1, fun ρ a w ht hi hf => wp_block (wp_mono (hc1 ρ a w ht hi hf) ?_)⟩
          rintro e a' w' ⟨rfl, hp⟩
          simp only [Out.to, Exit.inBlock, if_true]
          exact ⟨trivial, hp⟩
        · have h1' : (bif Nat.beq i id then K Out.normal tm1 H1 N1 else K (Out.exit i) tm1 H1 N1) = some r := h1
          clear h1
          rw [beq_false.2 hid] at h1'
          simp only [cond_false] at h1'
          refine ⟨_, tm1, H1, N1, h1', hN1, fun ρ a w ht hi hf => wp_block (wp_mono (hc1 ρ a w ht hi hf) ?_)⟩
          rintro e a' w' ⟨rfl, hp⟩
          simp only [Out.to, Exit.inBlock, if_neg hid]
          exact ⟨trivial, hp⟩
  | loop c ih =>
    intro hH R r tm H N K h
    simp only [codeA] at h
    exact loopA_sound (ih hH) h
  | scope c ih =>
    intro hH R r tm H N K h
    simp only [codeA] at h
    obtain ⟨o, tm1, H1, N1, h1, hN1, hc1⟩ := ih hH h
    refine ⟨o, tm1, H1, N1, h1, hN1, fun ρ a w ht hi hf => wp_scope_straight (wp_mono (hc1 ρ a w ht hi hf) ?_)⟩
    rintro e a' w' ⟨rfl, hp⟩
    cases o <;> exact ⟨rfl, hp⟩
  | rangeFunc f ps x y ih1 ih2 => intro hH R r tm H N K h; simp [codeA] at h
  | goto l => intro hH R r tm H N K h; simp [codeA] at h
  | refuse y => intro hH R r tm H N K h; simp [codeA] at h
end
end Go.Sx

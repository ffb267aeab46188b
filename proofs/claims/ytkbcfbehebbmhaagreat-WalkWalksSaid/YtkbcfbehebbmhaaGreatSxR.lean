/- Several texts in one. -/
import Derived.Test.YtkbcfbehebbmhaaGreatSxN
set_option linter.unusedSimpArgs false
set_option linter.unusedVariables false
set_option linter.unnecessarySimpa false
/- Regions that draw their order: whatever order is drawn, the machine comes to what the executor tells. -/
namespace Go.Sx
open Go

section
variable {P : Program} {w : World} {ρ : Env} {R : Type} {r : R}

/-- What one operation comes to, whether it is wanted or not. -/
def OpDo (P : Program) (ops : Array Oper) (o : Oper) (ρ : Env) (H : Heap) (N : Nat) (w : World) (v : AV) (e : Eff) (N' : Nat) (a : Act) : Prop :=
  (Region.wanted o (yielded ops a.tmps) = true → Does P (execOp a.eval o) w (fun v' w' => Post ρ H N w e N' v v' w')) ∧
  (Region.wanted o (yielded ops a.tmps) = false → v = .tup [] ∧ e = [] ∧ N' = N)

theorem opE_sound {C : Oracle} (hC : Snd P C) {fl : Fl} {nt : Nat} {ops : Array Oper} {o : Oper} {tm : TM} {H : Heap} {N : Nat} {K : Option (Nat × Bool) → AV → Eff → Nat → Option R} (h : opE P C fl nt ops o tm H N K = some r) :
    ∃ g v e N', K g v e N' = some r ∧ N ≤ N' ∧ (∀ d b, g = some (d, b) → d < nt ∧ tm.get d = .bool b) ∧
      ∀ (ρ : Env) (a : Act) (w : World), Tms ρ nt tm a → Inv ρ H w → Fresh ρ N N' → OpDo P ops o ρ H N w v e N' a := by
  unfold opE at h
  simp only [opF_eq] at h
  split at h
  · rename_i hg
    obtain ⟨v, e, N', hk, hN, hall⟩ := opA_sound hC h
    exact ⟨none, v, e, N', hk, hN, by simp, fun ρ a w ht hi hf => ⟨fun _ => hall ρ w a.eval o rfl (fun x => ht.ev x) hi hf, fun hw => by simp [Region.wanted, hg] at hw⟩⟩
  · rename_i j want hg
    split at h
    · simp at h
    · rename_i d hd
      cases hdn : Nat.blt d nt with
      | false => rw [hdn] at h; simp at h
      | true =>
        rw [hdn] at h
        simp only [cond_true] at h
        rw [blt_true] at hdn
        split at h
        · rename_i b hb
          have known : ∀ (ρ : Env) (a : Act), Tms ρ nt tm a → a.tmps.getD d undef = .bool b := by
            intro ρ a ht
            have := ht.2 d
            rw [hb] at this
            simpa only [VR] using this
          have tmk : ∀ (ρ : Env) (a : Act), Tms ρ nt tm a → Tms ρ nt (tm.set 12 d (.bool b)) a := fun ρ a ht => ht.know (by rw [known ρ a ht]; simp only [VR])
          have wt : ∀ (ρ : Env) (a : Act), Tms ρ nt tm a → Region.wanted o (yielded ops a.tmps) = (b == want) := by
            intro ρ a ht
            simp only [Region.wanted, hg, yielded_some hd (known ρ a ht)]
            cases b <;> cases want <;> rfl
          have run : ∀ b', b' = b → (b == want) = true → opA P C o.op (tm.set 12 d (.bool b')) H N (K (some (d, b'))) = some r → ∃ g v e N', K g v e N' = some r ∧ N ≤ N' ∧ (∀ d b, g = some (d, b) → d < nt ∧ tm.get d = .bool b) ∧
              ∀ (ρ : Env) (a : Act) (w : World), Tms ρ nt tm a → Inv ρ H w → Fresh ρ N N' → OpDo P ops o ρ H N w v e N' a := by
            rintro b' rfl hw h
            obtain ⟨v, e, N', hk, hN, hall⟩ := opA_sound hC h
            refine ⟨_, v, e, N', hk, hN, fun d' b'' hg' => ?_, fun ρ a w ht hi hf => ⟨fun _ => hall ρ w a.eval o rfl (fun x => (tmk ρ a ht).ev x) hi hf, fun hw' => ?_⟩⟩
            · simp at hg'; obtain ⟨rfl, rfl⟩ := hg'; exact ⟨hdn, hb⟩
            · rw [wt ρ a ht, hw] at hw'; simp at hw'
          have skip : ∀ b', b' = b → (b == want) = false → K (some (d, b')) (.tup []) [] N = some r → ∃ g v e N', K g v e N' = some r ∧ N ≤ N' ∧ (∀ d b, g = some (d, b) → d < nt ∧ tm.get d = .bool b) ∧
              ∀ (ρ : Env) (a : Act) (w : World), Tms ρ nt tm a → Inv ρ H w → Fresh ρ N N' → OpDo P ops o ρ H N w v e N' a := by
            rintro b' rfl hw h
            refine ⟨_, _, _, _, h, Nat.le_refl _, fun d' b'' hg' => ?_, fun ρ a w ht hi hf => ⟨fun hw' => ?_, fun _ => ⟨rfl, rfl, rfl⟩⟩⟩
            · simp at hg'; obtain ⟨rfl, rfl⟩ := hg'; exact ⟨hdn, hb⟩
            · rw [wt ρ a ht, hw] at hw'; simp at hw'
          cases b <;> cases want <;> simp only [cond_true, cond_false] at h
          · exact run false rfl rfl h
          · exact skip false rfl rfl h
          · exact skip true rfl rfl h
          · exact run true rfl rfl h
        · rename_i hb
          refine ⟨_, _, _, _, h, Nat.le_refl _, by simp, fun ρ a w ht hi hf => ⟨fun hw => ?_, fun _ => ⟨rfl, rfl, rfl⟩⟩⟩
          have : a.tmps.getD d undef = undef := by
            have := ht.2 d
            rw [hb] at this
            simp only [VR] at this
            obtain ⟨x, hx, hl⟩ := this
            simp at hl
            rw [hx, hl]; rfl
          simp [Region.wanted, hg, yielded_none hd this] at hw
        · simp at h

/-- One operation of the executor's way through a region. -/
structure DR where
  o : Oper
  tmF : TM
  F : Heap
  v : AV
  e : Eff
  N : Nat
  N' : Nat
  tm : TM
  H : Heap
  tm' : TM

def Chain : List DR → TM → Heap → Nat → TM → Heap → Nat → Prop
  | [], tm, H, N, tm', H', N' => tm' = tm ∧ H' = H ∧ N' = N
  | d :: L, tm, H, N, tmN, HN, NN => d.tm = tm ∧ d.H = H ∧ d.N = N ∧ Chain L d.tm' (H.upd d.e) d.N' tmN HN NN

structure DR.Ok (P : Program) (nt : Nat) (ops : Array Oper) (an : List Nat) (j : Nat) (d : DR) : Prop where
  ho : ops.toList[j]? = some d.o
  edge : edgesOk j d.o.after.toList = true
  dst : okD nt d.o.dst = true
  dsts : ∀ (k : Nat) (o' : Oper) (t : Tmp), ops.toList[k]? = some o' → unord an k j = true → d.o.dst = some t → o'.dst ≠ some t
  sound : ∀ (ρ : Env) (a : Act) (w : World), Tms ρ nt d.tmF a → Inv ρ d.F w → Fresh ρ d.N d.N' → OpDo P ops d.o ρ d.F d.N w d.v d.e d.N' a
  tmf : ∀ t, d.tmF.get t = .any ∨ ((∀ (k : Nat) (o' : Oper), ops.toList[k]? = some o' → unord an k j = true → o'.dst ≠ some t) ∧ d.tmF.get t = d.tm.get t)
  fH : ∀ x b, d.F.find x = some b → d.H.find x = some b
  nm : ∀ x ∈ namesOf d.e, d.F.find x ≠ none ∨ (d.N ≤ x ∧ x < d.N')
  NN : d.N ≤ d.N'
  tms : ∀ t, d.tm'.get t = .any ∨ (d.o.dst = some t ∧ d.tm'.get t = d.v) ∨ (d.o.dst ≠ some t ∧ d.tm'.get t = d.tm.get t)

theorem learn_get {nt : Nat} {tm tmF : TM} {g : Option (Nat × Bool)} (hg : ∀ d b, g = some (d, b) → d < nt ∧ tmF.get d = .bool b) (hF : ∀ t, tmF.get t = .any ∨ tmF.get t = tm.get t) (t : Nat) : (learn g tm).get t = .any ∨ (learn g tm).get t = tm.get t := by
  cases g with
  | none => exact .inr rfl
  | some p =>
    obtain ⟨d, b⟩ := p
    simp only [learn]
    rcases TM_get_set 12 tm d (.bool b) t with h | ⟨h, h'⟩ | ⟨h, h'⟩
    · exact .inl h
    · subst h
      right
      obtain ⟨_, h2⟩ := hg t b rfl
      rcases hF t with h3 | h3
      · rw [h2] at h3; simp at h3
      · rw [h', ← h3, h2]
    · exact .inr h'
theorem putT_get (d : Option Tmp) (v : AV) (tm : TM) (t : Nat) : (putT d v tm).get t = .any ∨ (d = some t ∧ (putT d v tm).get t = v) ∨ (d ≠ some t ∧ (putT d v tm).get t = tm.get t) := by
  cases d with
  | none => exact .inr (.inr ⟨by simp, rfl⟩)
  | some d =>
    simp only [putT]
    rcases TM_get_set 12 tm d v t with h | ⟨h, h'⟩ | ⟨h, h'⟩
    · exact .inl h
    · exact .inr (.inl ⟨by rw [h], h'⟩)
    · exact .inr (.inr ⟨by simp; exact fun e => h e.symm, h'⟩)

theorem drawGo_trace {C : Oracle} (hC : Snd P C) {fl : Fl} {nt : Nat} {ops : Array Oper} {an : List Nat} : ∀ {rest : List Oper} {j : Nat} {tm : TM} {H : Heap} {N : Nat} {recs : Recs} {K : TM → Heap → Nat → Option R}, ops.toList.drop j = rest → drawGo P C fl nt ops an rest j tm H N recs K = some r →
    ∃ (L : List DR) (tmN : TM) (HN : Heap) (NN : Nat), K tmN HN NN = some r ∧ L.length = rest.length ∧ Chain L tm H N tmN HN NN ∧ (∀ (k : Nat) (d : DR), L[k]? = some d → d.Ok P nt ops an (j + k)) ∧
      (∀ (k : Nat) (d : DR) (i : Nat) (ns dom : List Nat), L[k]? = some d → (i, ns, dom) ∈ recs → unord an i (j + k) = true → (∀ x b, d.F.find x = some b → x ∉ ns) ∧ (∀ x ∈ namesOf d.e, x ∉ dom)) ∧
      (∀ (k k' : Nat) (d d' : DR), L[k]? = some d → L[k']? = some d' → k' < k → unord an (j + k') (j + k) = true → (∀ x b, d.F.find x = some b → x ∉ namesOf d'.e) ∧ (∀ x ∈ namesOf d.e, d'.F.find x = none))
  | [], j, tm, H, N, recs, K, hl, h => ⟨[], tm, H, N, h, rfl, ⟨rfl, rfl, rfl⟩, by simp, by simp, by simp⟩
  | o :: rest, j, tm, H, N, recs, K, hl, h => by
    simp only [drawGo, fT_eq, fH_eq] at h
    cases hc : (edgesOk j o.after.toList && okD nt o.dst && dstsOk an j o.dst ops.toList 0) with
    | false => rw [hc] at h; simp at h
    | true =>
      rw [hc] at h
      simp only [cond_true] at h
      simp only [Bool.and_eq_true] at hc
      obtain ⟨⟨hedge, hdst⟩, hdsts⟩ := hc
      obtain ⟨g, v, e, N', h1, hN, hg, hsound⟩ := opE_sound hC h
      generalize hT : maskT an j ops.toList 0 tm = tmF at *
      generalize hFF : seenH an j (viewA o.op tmF) recs H = F at *
      cases hc2 : (namesOk F N N' (namesOf e) && freeOf an j (namesOf e) recs) with
      | false => rw [hc2] at h1; simp at h1
      | true =>
        rw [hc2] at h1
        simp only [cond_true] at h1
        simp only [Bool.and_eq_true] at hc2
        have hl' : ops.toList.drop (j + 1) = rest := by rw [← List.drop_drop, hl]; rfl
        have hoj : ops.toList[j]? = some o := by
          have : (ops.toList.drop j)[0]? = some o := by rw [hl]; rfl
          rw [List.getElem?_drop] at this
          simpa using this
        obtain ⟨L, tmN, HN, NN, hk, hlen, hch, hok, hrec, hcross⟩ := drawGo_trace hC hl' h1
        have hmask : ∀ t, tmF.get t = .any ∨ ((∀ (k : Nat) (o' : Oper), ops.toList[k]? = some o' → unord an k j = true → o'.dst ≠ some t) ∧ tmF.get t = tm.get t) := by
          intro t
          rw [← hT]
          rcases maskT_get (an := an) (j := j) (l := ops.toList) (i := 0) (tm := tm) t with h | ⟨h, h'⟩
          · exact .inl h
          · exact .inr ⟨fun k o' hk hu => h k o' hk (by simpa using hu), h'⟩
        let d : DR := ⟨o, tmF, F, v, e, N, N', tm, H, putT o.dst v (learn g tm)⟩
        have hd : d.Ok P nt ops an j := by
          refine ⟨hoj, hedge, hdst, ?_, hsound, hmask, fun x b hx => ?_, namesOk_iff hc2.1, hN, fun t => ?_⟩
          · intro k o' t hk hu ht
            have ht' : o.dst = some t := ht
            rw [ht'] at hdsts
            exact dstsOk_iff hdsts k o' hk (by simpa using hu)
          · have hx' : (seenH an j (viewA o.op tmF) recs H).find x = some b := by rw [hFF]; exact hx
            exact (seenH_find hx').1
          · rcases putT_get o.dst v (learn g tm) t with h | h | ⟨h, h'⟩
            · exact .inl h
            · exact .inr (.inl h)
            · rcases learn_get hg (fun t => (hmask t).imp id And.right) t with h2 | h2
              · left; show (putT o.dst v (learn g tm)).get t = .any; rw [h', h2]
              · exact .inr (.inr ⟨h, h'.trans h2⟩)
        refine ⟨d :: L, tmN, HN, NN, hk, by simp [hlen], ⟨rfl, rfl, rfl, hch⟩, ?_, ?_, ?_⟩
        · intro k d' hk'
          cases k with
          | zero => simp at hk'; subst hk'; exact hd
          | succ k => rw [show j + (k + 1) = j + 1 + k by omega]; exact hok k d' (by simpa using hk')
        · intro k d' i ns dom hk' hm hu
          cases k with
          | zero =>
            simp at hk'; subst hk'
            refine ⟨fun x b hx => ?_, fun x hx => freeOf_iff hc2.2 i ns dom hm (by simpa using hu) x hx⟩
            have hx' : (seenH an j (viewA o.op tmF) recs H).find x = some b := by rw [hFF]; exact hx
            exact hidden_false (seenH_find hx').2 i ns dom hm (by simpa using hu)
          | succ k => exact hrec k d' i ns dom (by simpa using hk') (by simp [hm]) (by rw [show j + 1 + k = j + (k + 1) by omega]; exact hu)
        · intro k k' d1 d2 h1 h2 hlt hu
          cases k with
          | zero => omega
          | succ k =>
            cases k' with
            | zero =>
              simp at h2; subst h2
              obtain ⟨q1, q2⟩ := hrec k d1 j (namesOf e) (domH F) (by simpa using h1) (by simp) (by rw [show j + 1 + k = j + (k + 1) by omega]; simpa using hu)
              exact ⟨q1, fun x hx => domH_find (q2 x hx)⟩
            | succ k' => exact hcross k k' d1 d2 (by simpa using h1) (by simpa using h2) (by omega) (by rw [show j + 1 + k' = j + (k' + 1) by omega, show j + 1 + k = j + (k + 1) by omega]; exact hu)

/-! the frame -/
theorem Step.widen {H H' : Heap} {N N' M M' : Nat} {ρ' : Env} {w' : World} (h : Step ρ H N w ρ' H' N' w') (h1 : M ≤ N) (h2 : N' ≤ M') : Step ρ H M w ρ' H' M' w' :=
  { h with ext := fun x hx => h.ext x (by omega) }
theorem Step.trans' {H H1 H2 : Heap} {N N' : Nat} {ρ1 ρ2 : Env} {w1 w2 : World} (h : Step ρ H N w ρ1 H1 N' w1) (k : Step ρ1 H1 N w1 ρ2 H2 N' w2) : Step ρ H N w ρ2 H2 N' w2 where
  ext x hx := by rw [k.ext x hx, h.ext x hx]
  os := k.os.trans h.os
  tape := k.tape.trans h.tape
  output := k.output.trans h.output
  size := Nat.le_trans h.size k.size
  block b hb hn := by
    rw [k.block b (Nat.lt_of_lt_of_le hb h.size) ?_, h.block b hb hn]
    intro ho
    rcases h.own b ho with h' | h'
    · exact hn h'
    · omega
  inv := k.inv
  prov y q l hy hl := by
    rcases k.prov y q l hy hl with ⟨z, kz, lz, hz, hlz, hb, hrw⟩ | h'
    · rcases h.prov z kz lz hz hlz with ⟨u, ku, lu, hu, hlu, hb2, hrw2⟩ | h2
      · exact .inl ⟨u, ku, lu, hu, hlu, hb2.trans hb, fun hh => hrw2 (hrw hh)⟩
      · exact .inr (by rw [← hb]; exact h2)
    · exact .inr (Nat.le_trans h.size h')
theorem Inv.congr {H H' : Heap} (h : Inv ρ H w) (he : ∀ x, H'.find x = H.find x) : Inv ρ H' w :=
  ⟨fun x b hx => h.blk x b (by rw [← he]; exact hx), fun x y bx b' lx ly hx hy => h.inj x y bx b' lx ly (by rw [← he]; exact hx) (by rw [← he]; exact hy)⟩
theorem Step.congr {H H1 H2 : Heap} {N N' : Nat} {ρ' : Env} {w' : World} (h : Step ρ H N w ρ' H1 N' w') (he : ∀ x, H2.find x = H1.find x) : Step ρ H N w ρ' H2 N' w' :=
  { h with
    inv := h.inv.congr he
    prov := fun y k l hy hl => h.prov y k l (by rw [← he]; exact hy) hl }
theorem Inv.sub {F H : Heap} (h : Inv ρ H w) (hs : ∀ x b, F.find x = some b → H.find x = some b) : Inv ρ F w :=
  ⟨fun x b hx => h.blk x b (hs x b hx), fun x y bx b' lx ly hx hy => h.inj x y bx b' lx ly (hs x bx hx) (hs y b' hy)⟩

/-- What holds of a part of memory holds of all of it. -/
theorem Step.frame {F H : Heap} {e : Eff} {N N' : Nat} {ρ' : Env} {w' : World} (h : Step ρ F N w ρ' (F.upd e) N' w') (hf : Fresh ρ N N') (hi : Inv ρ H w) (hs : ∀ x b, F.find x = some b → H.find x = some b)
    (hn : ∀ x ∈ namesOf e, F.find x ≠ none ∨ (N ≤ x ∧ x < N')) : Step ρ H N w ρ' (H.upd e) N' w' := by
  have hle := h.le hf
  have hown : ∀ b, Owned ρ F b → Owned ρ H b := fun b ⟨x, k, l, hx, r⟩ => ⟨x, k, l, hs x k hx, r⟩
  -- a name of H that e does not name stands where it stood
  have old : ∀ x b, x ∉ namesOf e → H.find x = some b → ∃ l, ρ x = some l ∧ ρ' x = some l ∧ BlkRel ρ w l b := by
    intro x b hx hb
    obtain ⟨l, hl, hbr⟩ := hi.blk x b hb
    exact ⟨l, hl, hle _ _ hl, hbr⟩
  -- what F holds of it too, or its block is none that F's step touches
  have keep : ∀ x b, x ∉ namesOf e → H.find x = some b → ∃ l, ρ' x = some l ∧ BlkRel ρ' w' l b := by
    intro x b hx hb
    obtain ⟨l, hl, hl', hbr⟩ := old x b hx hb
    cases hfx : F.find x with
    | some b' =>
      have := hs x b' hfx
      rw [hb] at this; simp at this; subst this
      obtain ⟨l2, hl2, hbr2⟩ := h.inv.blk x b (by rw [upd_find_other hx]; exact hfx)
      exact ⟨l2, hl2, hbr2⟩
    | none =>
      refine ⟨l, hl', hbr.mono hle (h.block l.b hbr.lt ?_)⟩
      rintro ⟨y, k, ly, hy, hly, hrw, hb'⟩
      have := hi.inj y x k b ly l (hs y k hy) hb hly hl hrw hb'
      subst this
      rw [hfx] at hy; simp at hy
  constructor
  · exact h.ext
  · exact h.os
  · exact h.tape
  · exact h.output
  · exact h.size
  · exact fun b hb hno => h.block b hb (fun ho => hno (hown b ho))
  · constructor
    · intro x b hx
      by_cases hxe : x ∈ namesOf e
      · exact h.inv.blk x b (by rw [← hx]; exact upd_find_mem hxe)
      · rw [upd_find_other hxe] at hx
        exact keep x b hxe hx
    · intro x y bx b' lx ly hx hy hlx hly hrw hb
      by_cases hxe : x ∈ namesOf e <;> by_cases hye : y ∈ namesOf e
      · exact h.inv.inj x y bx b' lx ly (by rw [← hx]; exact upd_find_mem hxe) (by rw [← hy]; exact upd_find_mem hye) hlx hly hrw hb
      · -- x is e's, y is not
        rw [upd_find_other hye] at hy
        obtain ⟨l, hl, hl', hbr⟩ := old y b' hye hy
        rw [hly] at hl'; simp at hl'; subst hl'
        have hxF : (F.upd e).find x = some bx := by rw [← hx]; exact upd_find_mem hxe
        cases hfy : F.find y with
        | some b2 => exact h.inv.inj x y bx b2 lx ly hxF (by rw [upd_find_other hye]; exact hfy) hlx hly hrw hb
        | none =>
          exfalso
          rcases h.prov x bx lx hxF hlx with ⟨z, k, lz, hz, hlz, hbz, hrz⟩ | hge
          · have := hi.inj z y k b' lz ly (hs z k hz) hy hlz hl (hrz hrw) (by rw [hbz, hb])
            subst this
            rw [hfy] at hz; simp at hz
          · have := hbr.lt
            rw [← hb] at this; omega
      · rw [upd_find_other hxe] at hx
        obtain ⟨l, hl, hl', hbr⟩ := old x bx hxe hx
        rw [hlx] at hl'; simp at hl'; subst hl'
        have hyF : (F.upd e).find y = some b' := by rw [← hy]; exact upd_find_mem hye
        cases hfx : F.find x with
        | some b2 => exact h.inv.inj x y b2 b' lx ly (by rw [upd_find_other hxe]; exact hfx) hyF hlx hly hrw hb
        | none =>
          exfalso
          rcases h.prov y b' ly hyF hly with ⟨z, k, lz, hz, hlz, hbz, _⟩ | hge
          · have := hi.inj x z bx k lx lz hx (hs z k hz) hl hlz hrw (by rw [hbz, hb])
            subst this
            rw [hfx] at hz; simp at hz
          · have := hbr.lt
            rw [hb] at this; omega
      · rw [upd_find_other hxe] at hx
        rw [upd_find_other hye] at hy
        obtain ⟨l, hl, hl', hbr⟩ := old x bx hxe hx
        obtain ⟨m, hm, hm', hbm⟩ := old y b' hye hy
        rw [hlx] at hl'; simp at hl'; subst hl'
        rw [hly] at hm'; simp at hm'; subst hm'
        exact hi.inj x y bx b' lx ly hx hy hl hm hrw hb
  · intro x k l hx hl
    by_cases hxe : x ∈ namesOf e
    · rcases h.prov x k l (by rw [← hx]; exact upd_find_mem hxe) hl with ⟨z, kz, lz, hz, r⟩ | h1
      · exact .inl ⟨z, kz, lz, hs z kz hz, r⟩
      · exact .inr h1
    · rw [upd_find_other hxe] at hx
      obtain ⟨l', hl1, hl2, _⟩ := old x k hxe hx
      rw [hl] at hl2; simp at hl2; subst hl2
      exact .inl ⟨x, k, l, hx, hl1, rfl, id⟩
end
end Go.Sx

/- Regions that draw their order: the theorem. -/
namespace Go.Sx
open Go

section
variable {P : Program} {w : World} {ρ : Env} {R : Type} {r : R}

def tmAt (L : List DR) (tmN : TM) (j : Nat) : TM := match L[j]? with | some d => d.tm | none => tmN
def hAt (L : List DR) (HN : Heap) (j : Nat) : Heap := match L[j]? with | some d => d.H | none => HN

theorem chain_zero : ∀ {L : List DR} {tm : TM} {H : Heap} {N : Nat} {tmN : TM} {HN : Heap} {NN : Nat}, Chain L tm H N tmN HN NN → tmAt L tmN 0 = tm ∧ hAt L HN 0 = H
  | [], _, _, _, _, _, _, ⟨h1, h2, _⟩ => ⟨h1, h2⟩
  | d :: L, _, _, _, _, _, _, ⟨h1, h2, _⟩ => ⟨h1, h2⟩
theorem chain_next : ∀ {L : List DR} {tm : TM} {H : Heap} {N : Nat} {tmN : TM} {HN : Heap} {NN : Nat}, Chain L tm H N tmN HN NN → ∀ (j : Nat) (d : DR), L[j]? = some d → tmAt L tmN j = d.tm ∧ hAt L HN j = d.H ∧ tmAt L tmN (j + 1) = d.tm' ∧ hAt L HN (j + 1) = d.H.upd d.e
  | [], _, _, _, _, _, _, _, j, d, h => by simp at h
  | d0 :: L, tm, H, N, tmN, HN, NN, ⟨h1, h2, h3, h4⟩, 0, d, h => by
    simp at h; subst h
    obtain ⟨q1, q2⟩ := chain_zero h4
    refine ⟨rfl, rfl, ?_, ?_⟩
    · have : tmAt (d0 :: L) tmN 1 = tmAt L tmN 0 := rfl
      rw [this, q1]
    · have : hAt (d0 :: L) HN 1 = hAt L HN 0 := rfl
      rw [this, q2, h2]
  | d0 :: L, tm, H, N, tmN, HN, NN, ⟨h1, h2, h3, h4⟩, j + 1, d, h => chain_next h4 j d (by simpa using h)
theorem chain_N : ∀ {L : List DR} {tm : TM} {H : Heap} {N : Nat} {tmN : TM} {HN : Heap} {NN : Nat}, Chain L tm H N tmN HN NN → (∀ (j : Nat) (d : DR), L[j]? = some d → d.N ≤ d.N') → N ≤ NN ∧ ∀ (j : Nat) (d : DR), L[j]? = some d → N ≤ d.N ∧ d.N' ≤ NN
  | [], _, _, _, _, _, _, ⟨_, _, h⟩, _ => ⟨by omega, by simp⟩
  | d0 :: L, tm, H, N, tmN, HN, NN, ⟨h1, h2, h3, h4⟩, hN => by
    obtain ⟨q1, q2⟩ := chain_N h4 (fun j d h => hN (j + 1) d (by simpa using h))
    have := hN 0 d0 rfl
    refine ⟨by omega, fun j d h => ?_⟩
    cases j with
    | zero => simp at h; subst h; omega
    | succ j => have := q2 j d (by simpa using h); omega
theorem chain_order : ∀ {L : List DR} {tm : TM} {H : Heap} {N : Nat} {tmN : TM} {HN : Heap} {NN : Nat}, Chain L tm H N tmN HN NN → (∀ (j : Nat) (d : DR), L[j]? = some d → d.N ≤ d.N') → ∀ (i j : Nat) (di dj : DR), L[i]? = some di → L[j]? = some dj → i < j → di.N' ≤ dj.N
  | [], _, _, _, _, _, _, _, _, i, j, di, dj, h, _, _ => by simp at h
  | d0 :: L, tm, H, N, tmN, HN, NN, ⟨h1, h2, h3, h4⟩, hN, i, j, di, dj, hi, hj, hlt => by
    obtain ⟨j, rfl⟩ : ∃ k, j = k + 1 := ⟨j - 1, by omega⟩
    cases i with
    | zero =>
      simp at hi; subst hi
      exact (((chain_N h4 (fun j d h => hN (j + 1) d (by simpa using h))).2 j dj (by simpa using hj)).1)
    | succ i => exact chain_order h4 (fun j d h => hN (j + 1) d (by simpa using h)) i j di dj (by simpa using hi) (by simpa using hj) (by omega)

/-- What is said of the machine when the operations of D are done. -/
structure DInv (ops : Array Oper) (nt : Nat) (L : List DR) (tmN : TM) (HN : Heap) (ρ0 : Env) (H0 : Heap) (N0 NN : Nat) (w0 : World) (a0 : Act) (D : Nat → Prop) (ρ : Env) (HD : Heap) (a : Act) (w : World) : Prop where
  size : a.tmps.size = nt
  defers : a.defers = a0.defers
  T : ∀ (j t : Nat), j ≤ L.length → (∀ (i : Nat) (d : DR), L[i]? = some d → d.o.dst = some t → (D i ↔ i < j)) → VR ρ ((tmAt L tmN j).get t) (a.tmps.getD t undef)
  M : ∀ (j x : Nat), j ≤ L.length → (∀ (i : Nat) (d : DR), L[i]? = some d → x ∈ namesOf d.e → (D i ↔ i < j)) → HD.find x = (hAt L HN j).find x
  st : Step ρ0 H0 N0 w0 ρ HD NN w
  fr : ∀ (i : Nat) (d : DR), L[i]? = some d → ¬ D i → Fresh ρ d.N d.N'

/-- All that is known of the executor's way. -/
structure Way (P : Program) (nt : Nat) (ops : Array Oper) (an : List Nat) (L : List DR) (tm : TM) (H : Heap) (N : Nat) (tmN : TM) (HN : Heap) (NN : Nat) : Prop where
  len : L.length = ops.size
  anc : an = ancsOf ops.toList []
  chain : Chain L tm H N tmN HN NN
  ok : ∀ (k : Nat) (d : DR), L[k]? = some d → d.Ok P nt ops an k
  cross : ∀ (k k' : Nat) (d d' : DR), L[k]? = some d → L[k']? = some d' → k' < k → unord an k' k = true → (∀ x b, d.F.find x = some b → x ∉ namesOf d'.e) ∧ (∀ x ∈ namesOf d.e, d'.F.find x = none)

variable {nt : Nat} {ops : Array Oper} {an : List Nat} {L : List DR} {tm : TM} {H : Heap} {N : Nat} {tmN : TM} {HN : Heap} {NN : Nat}

theorem Way.oper (W : Way P nt ops an L tm H N tmN HN NN) {j : Nat} (hj : j < ops.size) : ∃ d, L[j]? = some d ∧ ops.toList[j]? = some d.o := by
  have hl : j < L.length := by rw [W.len]; exact hj
  exact ⟨L[j], List.getElem?_eq_getElem hl, (W.ok j _ (List.getElem?_eq_getElem hl)).ho⟩
theorem Way.edges (W : Way P nt ops an L tm H N tmN HN NN) (j : Nat) (o : Oper) (h : ops.toList[j]? = some o) : edgesOk j o.after.toList = true := by
  have hlt := (List.getElem?_eq_some_iff.1 h).1
  obtain ⟨d, hd, ho⟩ := W.oper (j := j) (by simpa using hlt)
  rw [h] at ho; simp at ho; subst ho
  exact (W.ok j d hd).edge

/-- D holds with each operation all that its edges lead to. -/
def Shut (ops : Array Oper) (D : Nat → Prop) : Prop := ∀ (j : Nat) (o : Oper), ops.toList[j]? = some o → D j → ∀ e ∈ o.after.toList, Region.binds .any e = true → D e.on

theorem unord_of (W : Way P nt ops an L tm H N tmN HN NN) {D : Nat → Prop} (hD : Shut ops D) {m i : Nat} (hm : m < ops.size) (hi : i < ops.size) (hready : ∀ o, ops.toList[m]? = some o → ∀ e ∈ o.after.toList, Region.binds .any e = true → D e.on) (hmD : ¬ D m) :
    -- who stands ahead of m is done
    (Nat.testBit (an.getD m 0) i = true → D i ∧ i < m) ∧ (D i → Nat.testBit (an.getD i 0) m = false) := by
  obtain ⟨d, hd, ho⟩ := W.oper hm
  obtain ⟨di, hdi, hoi⟩ := W.oper hi
  have he := W.anc
  constructor
  · intro h
    rw [he] at h
    obtain ⟨e, hme, hb, hlt, hh⟩ := anc_step ho (W.edges m _ ho) h
    have hde := hready _ ho e hme hb
    refine ⟨?_, anc_lt W.edges m i _ ho h⟩
    rcases hh with rfl | hh
    · exact hde
    · have : e.on < ops.toList.length := by have := (List.getElem?_eq_some_iff.1 ho).1; omega
      exact anc_in W.edges hD e.on i _ (List.getElem?_eq_getElem this) hde hh
  · intro hDi
    cases hq : Nat.testBit (an.getD i 0) m with
    | false => rfl
    | true =>
      rw [he] at hq
      exact absurd (anc_in W.edges hD i m _ hoi hDi hq) hmD

/-- What an operation looks at is there. -/
theorem DInv.seen (W : Way P nt ops an L tm H N tmN HN NN) {ρ0 : Env} {w0 : World} {a0 : Act} {D : Nat → Prop} {HD : Heap} {a : Act} (I : DInv ops nt L tmN HN ρ0 H N NN w0 a0 D ρ HD a w) (hD : Shut ops D)
    {m : Nat} {d : DR} (hm : L[m]? = some d) (hmD : ¬ D m) (hready : ∀ e ∈ d.o.after.toList, Region.binds .any e = true → D e.on) : ∀ x b, d.F.find x = some b → HD.find x = some b := by
  have K := W.ok m d hm
  have hml : m < ops.size := by rw [← W.len]; exact (List.getElem?_eq_some_iff.1 hm).1
  have hNs : ∀ (j : Nat) (d : DR), L[j]? = some d → d.N ≤ d.N' := fun j d h => (W.ok j d h).NN
  obtain ⟨hc1, hc2, hc3, hc4⟩ := chain_next W.chain m d hm
  have hrange := (chain_N W.chain hNs).2 m d hm
  have ready' : ∀ o, ops.toList[m]? = some o → ∀ e ∈ o.after.toList, Region.binds .any e = true → D e.on := by
    intro o ho; rw [K.ho] at ho; simp at ho; subst ho; exact hready
  have hlt : ∀ (i : Nat) (di : DR), L[i]? = some di → i < ops.size := fun i di h => by rw [← W.len]; exact (List.getElem?_eq_some_iff.1 h).1
  -- an operation that is done and no edge orders against m, or one that is not
  have done_of : ∀ (i : Nat) (di : DR), L[i]? = some di → (unord an i m = false ∨ i = m) → (D i ↔ i < m) := by
    intro i di hdi hu
    obtain ⟨h1, h2⟩ := unord_of W hD hml (hlt i di hdi) ready' hmD
    rcases hu with hu | rfl
    · simp only [unord, Bool.and_eq_false_iff, Bool.not_eq_false'] at hu
      constructor
      · intro hDi
        rcases hu with (hu | hu) | hu
        · rw [beq_true] at hu; subst hu; exact absurd hDi hmD
        · exact (h1 hu).2
        · rw [h2 hDi] at hu; simp at hu
      · intro him
        rcases hu with (hu | hu) | hu
        · rw [beq_true] at hu; omega
        · exact (h1 hu).1
        · have := anc_lt W.edges i m _ (W.ok i di hdi).ho (by rw [← W.anc]; exact hu)
          omega
    · constructor
      · intro h; exact absurd h hmD
      · intro h; omega
  have unsym : ∀ i j, unord an i j = unord an j i := by
    intro i j
    simp only [unord]
    rw [show Nat.beq i j = Nat.beq j i by
      by_cases h : i = j
      · subst h; rfl
      · rw [beq_false.2 h, beq_false.2 (Ne.symm h)]]
    cases Nat.beq j i <;> cases Nat.testBit (an.getD j 0) i <;> cases Nat.testBit (an.getD i 0) j <;> rfl
  -- the temporaries
  have hT : Tms ρ nt d.tmF a := by
    refine ⟨I.size, fun t => ?_⟩
    rcases K.tmf t with h | ⟨h1, h2⟩
    · rw [h]; simp [VR]
    · rw [h2, ← hc1]
      refine I.T m t (by rw [W.len]; omega) fun i di hdi hdst => done_of i di hdi ?_
      cases hu : unord an i m with
      | false => exact .inl rfl
      | true => exact absurd hdst (h1 i di.o (W.ok i di hdi).ho hu)
  -- memory
  have seen : ∀ x b, d.F.find x = some b → HD.find x = some b := by
    intro x b hx
    rw [← K.fH x b hx, ← hc2]
    refine I.M m x (by rw [W.len]; omega) fun i di hdi hxi => ?_
    by_cases hu : unord an i m = false ∨ i = m
    · exact done_of i di hdi hu
    · exfalso
      simp only [not_or, Bool.not_eq_false] at hu
      rcases Nat.lt_or_ge i m with him | him
      · exact (W.cross m i d di hm hdi him hu.1).1 x b hx hxi
      · have := (W.cross i m di d hdi hm (by omega) (by rw [unsym]; exact hu.1)).2 x hxi
        rw [hx] at this; simp at this
  exact seen

/-- One operation more. -/
theorem DInv.step (W : Way P nt ops an L tm H N tmN HN NN) {ρ0 : Env} {w0 : World} {a0 : Act} {D : Nat → Prop} {HD : Heap} {a : Act} (I : DInv ops nt L tmN HN ρ0 H N NN w0 a0 D ρ HD a w) (hD : Shut ops D)
    {m : Nat} {d : DR} (hm : L[m]? = some d) (hmD : ¬ D m) (hready : ∀ e ∈ d.o.after.toList, Region.binds .any e = true → D e.on) :
    OpDo P ops d.o ρ d.F d.N w d.v d.e d.N' a ∧
    ∀ (ρ' : Env) (w' : World) (v' : Value), Step ρ d.F d.N w ρ' (d.F.upd d.e) d.N' w' → VR ρ' d.v v' →
      DInv ops nt L tmN HN ρ0 H N NN w0 a0 (fun i => D i ∨ i = m) ρ' (HD.upd d.e) (a.put d.o.dst v') w' := by
  have K := W.ok m d hm
  have hml : m < ops.size := by rw [← W.len]; exact (List.getElem?_eq_some_iff.1 hm).1
  have hNs : ∀ (j : Nat) (d : DR), L[j]? = some d → d.N ≤ d.N' := fun j d h => (W.ok j d h).NN
  obtain ⟨hc1, hc2, hc3, hc4⟩ := chain_next W.chain m d hm
  have hrange := (chain_N W.chain hNs).2 m d hm
  have ready' : ∀ o, ops.toList[m]? = some o → ∀ e ∈ o.after.toList, Region.binds .any e = true → D e.on := by
    intro o ho; rw [K.ho] at ho; simp at ho; subst ho; exact hready
  have hlt : ∀ (i : Nat) (di : DR), L[i]? = some di → i < ops.size := fun i di h => by rw [← W.len]; exact (List.getElem?_eq_some_iff.1 h).1
  -- an operation that is done and no edge orders against m, or one that is not
  have done_of : ∀ (i : Nat) (di : DR), L[i]? = some di → (unord an i m = false ∨ i = m) → (D i ↔ i < m) := by
    intro i di hdi hu
    obtain ⟨h1, h2⟩ := unord_of W hD hml (hlt i di hdi) ready' hmD
    rcases hu with hu | rfl
    · simp only [unord, Bool.and_eq_false_iff, Bool.not_eq_false'] at hu
      constructor
      · intro hDi
        rcases hu with (hu | hu) | hu
        · rw [beq_true] at hu; subst hu; exact absurd hDi hmD
        · exact (h1 hu).2
        · rw [h2 hDi] at hu; simp at hu
      · intro him
        rcases hu with (hu | hu) | hu
        · rw [beq_true] at hu; omega
        · exact (h1 hu).1
        · have := anc_lt W.edges i m _ (W.ok i di hdi).ho (by rw [← W.anc]; exact hu)
          omega
    · constructor
      · intro h; exact absurd h hmD
      · intro h; omega
  have unsym : ∀ i j, unord an i j = unord an j i := by
    intro i j
    simp only [unord]
    rw [show Nat.beq i j = Nat.beq j i by
      by_cases h : i = j
      · subst h; rfl
      · rw [beq_false.2 h, beq_false.2 (Ne.symm h)]]
    cases Nat.beq j i <;> cases Nat.testBit (an.getD j 0) i <;> cases Nat.testBit (an.getD i 0) j <;> rfl
  -- the temporaries
  have hT : Tms ρ nt d.tmF a := by
    refine ⟨I.size, fun t => ?_⟩
    rcases K.tmf t with h | ⟨h1, h2⟩
    · rw [h]; simp [VR]
    · rw [h2, ← hc1]
      refine I.T m t (by rw [W.len]; omega) fun i di hdi hdst => done_of i di hdi ?_
      cases hu : unord an i m with
      | false => exact .inl rfl
      | true => exact absurd hdst (h1 i di.o (W.ok i di hdi).ho hu)
  -- memory
  have seen : ∀ x b, d.F.find x = some b → HD.find x = some b := by
    intro x b hx
    rw [← K.fH x b hx, ← hc2]
    refine I.M m x (by rw [W.len]; omega) fun i di hdi hxi => ?_
    by_cases hu : unord an i m = false ∨ i = m
    · exact done_of i di hdi hu
    · exfalso
      simp only [not_or, Bool.not_eq_false] at hu
      rcases Nat.lt_or_ge i m with him | him
      · exact (W.cross m i d di hm hdi him hu.1).1 x b hx hxi
      · have := (W.cross i m di d hdi hm (by omega) (by rw [unsym]; exact hu.1)).2 x hxi
        rw [hx] at this; simp at this
  have hinv : Inv ρ d.F w := I.st.inv.sub seen
  have hfr : Fresh ρ d.N d.N' := I.fr m d hm hmD
  refine ⟨K.sound ρ a w hT hinv hfr, fun ρ' w' v' hst hv => ?_⟩
  have hle := hst.le hfr
  have hfull : Step ρ HD d.N w ρ' (HD.upd d.e) d.N' w' := hst.frame hfr I.st.inv seen K.nm
  have hput : ∀ t, (a.put d.o.dst v').tmps.getD t undef = if d.o.dst = some t then v' else a.tmps.getD t undef := by
    intro t
    cases hd : d.o.dst with
    | none => simp [Act.put]
    | some q =>
      have := K.dst
      rw [hd] at this
      simp only [okD, blt_true] at this
      simp only [Act.put]
      rw [getD_put _ _ _ _ (by rw [I.size]; exact this)]
      by_cases h : t = q
      · subst h; simp
      · simp [h, Ne.symm h]
  constructor
  · cases hd : d.o.dst <;> simp [Act.put, I.size]
  · rw [put_defers]; exact I.defers
  · intro j t hj hw
    rw [hput]
    by_cases hdt : d.o.dst = some t
    · rw [if_pos hdt]
      have hmj : m < j := (hw m d hm hdt).1 (.inr rfl)
      -- no later one that is done writes it
      have none_later : ∀ (i : Nat) (di : DR), L[i]? = some di → m < i → i < j → di.o.dst ≠ some t := by
        intro i di hdi h1 h2 hdi'
        have hDi : D i := ((hw i di hdi hdi').2 h2).resolve_right (by omega)
        cases hu : unord an i m with
        | true => exact K.dsts i di.o t (W.ok i di hdi).ho hu hdt hdi'
        | false =>
          have := (done_of i di hdi (.inl hu)).1 hDi
          omega
      have key : ∀ k, m + 1 + k ≤ j → (tmAt L tmN (m + 1 + k)).get t = .any ∨ (tmAt L tmN (m + 1 + k)).get t = d.v := by
        intro k
        induction k with
        | zero =>
          intro _
          rw [Nat.add_zero, hc3]
          rcases K.tms t with h | ⟨_, h⟩ | ⟨h, _⟩
          · exact .inl h
          · exact .inr h
          · exact absurd hdt h
        | succ k ih =>
          intro hk
          have hlen : m + 1 + k < L.length := by omega
          obtain ⟨q1, q2, q3, q4⟩ := chain_next W.chain (m + 1 + k) _ (List.getElem?_eq_getElem hlen)
          have ih := ih (by omega)
          rw [q1] at ih
          rw [show m + 1 + (k + 1) = m + 1 + k + 1 by omega, q3]
          rcases (W.ok _ _ (List.getElem?_eq_getElem hlen)).tms t with h | ⟨h, _⟩ | ⟨_, h⟩
          · exact .inl h
          · exact absurd h (none_later _ _ (List.getElem?_eq_getElem hlen) (by omega) (by omega))
          · rw [h]; exact ih
      have := key (j - (m + 1)) (by omega)
      rw [show m + 1 + (j - (m + 1)) = j by omega] at this
      rcases this with h | h
      · rw [h]; simp [VR]
      · rw [h]; exact hv
    · rw [if_neg hdt]
      refine VR_mono hle _ _ (I.T j t hj fun i di hdi hdi' => ?_)
      have := hw i di hdi hdi'
      constructor
      · intro h; exact this.1 (.inl h)
      · intro h
        rcases this.2 h with h' | h'
        · exact h'
        · subst h'; rw [hm] at hdi; simp at hdi; subst hdi; exact absurd hdi' hdt
  · intro j x hj hw
    by_cases hxe : x ∈ namesOf d.e
    · have hmj : m < j := (hw m d hm hxe).1 (.inr rfl)
      have none_later : ∀ (i : Nat) (di : DR), L[i]? = some di → m < i → i < j → x ∉ namesOf di.e := by
        intro i di hdi h1 h2 hxi
        have hDi : D i := ((hw i di hdi hxi).2 h2).resolve_right (by omega)
        cases hu : unord an i m with
        | false => have := (done_of i di hdi (.inl hu)).1 hDi; omega
        | true =>
          obtain ⟨c1, c2⟩ := W.cross i m di d hdi hm h1 (by rw [unsym]; exact hu)
          rcases K.nm x hxe with h3 | ⟨h3, h4⟩
          · exact h3 (c2 x hxi)
          · rcases (W.ok i di hdi).nm x hxi with h5 | ⟨h5, h6⟩
            · cases hf : di.F.find x with
              | none => exact h5 hf
              | some b => exact c1 x b hf hxe
            · have := chain_order W.chain hNs m i d di hm hdi h1
              omega
      have key : ∀ k, m + 1 + k ≤ j → (hAt L HN (m + 1 + k)).find x = (d.H.upd d.e).find x := by
        intro k
        induction k with
        | zero => intro _; rw [Nat.add_zero, hc4]
        | succ k ih =>
          intro hk
          have hlen : m + 1 + k < L.length := by omega
          obtain ⟨q1, q2, q3, q4⟩ := chain_next W.chain (m + 1 + k) _ (List.getElem?_eq_getElem hlen)
          have ih := ih (by omega)
          rw [q2] at ih
          rw [show m + 1 + (k + 1) = m + 1 + k + 1 by omega, q4, upd_find_other (none_later _ _ (List.getElem?_eq_getElem hlen) (by omega) (by omega))]
          exact ih
      have := key (j - (m + 1)) (by omega)
      rw [show m + 1 + (j - (m + 1)) = j by omega] at this
      rw [this]
      exact upd_find_mem hxe
    · rw [upd_find_other hxe]
      refine I.M j x hj fun i di hdi hdi' => ?_
      have := hw i di hdi hdi'
      constructor
      · intro h; exact this.1 (.inl h)
      · intro h
        rcases this.2 h with h' | h'
        · exact h'
        · subst h'; rw [hm] at hdi; simp at hdi; subst hdi; exact absurd hdi' hxe
  · exact I.st.trans' (hfull.widen hrange.1 hrange.2)
  · intro i di hdi hDi x hx hx'
    simp only [not_or] at hDi
    rw [hst.ext x ?_]
    · exact I.fr i di hdi hDi.1 x hx hx'
    · intro ⟨h1, h2⟩
      rcases Nat.lt_or_ge i m with h | h
      · have := chain_order W.chain hNs i m di d hdi hm h; omega
      · have := chain_order W.chain hNs m i d di hm hdi (by omega); omega

/-! all orders -/
def doneB (listed : Array Bool) (i : Nat) : Prop := listed.getD i false = true
theorem ready_mem {listed : Array Bool} {i : Nat} : i ∈ Region.ready .any ops listed ↔ i < ops.size ∧ listed.getD i true = false ∧ ∃ o, ops[i]? = some o ∧ ∀ e ∈ o.after.toList, Region.binds .any e = true → listed.getD e.on false = true := by
  unfold Region.ready
  simp only [List.mem_filter, List.mem_range, Bool.and_eq_true, Bool.not_eq_true']
  constructor
  · rintro ⟨h1, h2, h3⟩
    cases ho : ops[i]? with
    | none => simp [ho] at h3
    | some o =>
      refine ⟨h1, h2, o, rfl, fun e he hb => ?_⟩
      simp only [ho, Option.map_some, Option.getD_some] at h3
      rw [← Array.all_toList, List.all_eq_true] at h3
      have := h3 e he
      simpa [hb] using this
  · rintro ⟨h1, h2, o, ho, h3⟩
    refine ⟨h1, h2, ?_⟩
    simp only [ho, Option.map_some, Option.getD_some]
    rw [← Array.all_toList, List.all_eq_true]
    intro e he
    cases hb : Region.binds .any e with
    | false => simp
    | true => simp [h3 e he hb]

theorem way_any (W : Way P nt ops an L tm H N tmN HN NN) {ρ0 : Env} {w0 : World} {a0 : Act} {Q : Exit → Act → World → Prop} (hQ : ∀ a w, CodePost ρ0 nt H N w0 tmN HN NN a0 a w → Q .normal a w) :
    ∀ (fuel : Nat) (listed : Array Bool) (ρ : Env) (HD : Heap) (a : Act) (w : World), listed.size = ops.size → ((List.range ops.size).filter fun i => !listed.getD i true).length = fuel → Shut ops (doneB listed) → DInv ops nt L tmN HN ρ0 H N NN w0 a0 (doneB listed) ρ HD a w →
      wpAny P .any ops Q fuel listed a w := by
  intro fuel
  have finish : ∀ (listed : Array Bool) (ρ : Env) (HD : Heap) (a : Act) (w : World), listed.size = ops.size → Shut ops (doneB listed) → DInv ops nt L tmN HN ρ0 H N NN w0 a0 (doneB listed) ρ HD a w → Region.ready .any ops listed = [] → Q .normal a w := by
    intro listed ρ HD a w hs hD I hr
    -- all are done
    have all : ∀ i, i < ops.size → doneB listed i := by
      intro i
      induction i using Nat.strongRecOn with
      | _ i ih =>
        intro hi
        cases hq : listed.getD i false with
        | true => exact hq
        | false =>
          exfalso
          obtain ⟨d, hd, ho⟩ := W.oper hi
          have : i ∈ Region.ready .any ops listed := by
            rw [ready_mem]
            refine ⟨hi, ?_, d.o, by simpa using ho, fun e he hb => ?_⟩
            · rw [Array.getD_eq_getD_getElem?] at hq ⊢
              rw [Array.getElem?_eq_getElem (by omega)] at hq ⊢
              simpa using hq
            · have := edgesOk_iff (W.edges i _ ho) e he hb
              exact ih e.on this (by omega)
          rw [hr] at this; simp at this
    have hall : ∀ (i : Nat) (d : DR), L[i]? = some d → (doneB listed i ↔ i < L.length) := by
      intro i d h
      have hlt := (List.getElem?_eq_some_iff.1 h).1
      exact ⟨fun _ => hlt, fun _ => all i (by rw [← W.len]; exact hlt)⟩
    have e1 : tmAt L tmN L.length = tmN := by simp [tmAt]
    have e2 : hAt L HN L.length = HN := by simp [hAt]
    refine hQ a w ⟨ρ, I.st.congr (fun x => ?_), ⟨I.size, fun t => ?_⟩, I.defers⟩
    · rw [I.M L.length x (Nat.le_refl _) (fun i d h _ => hall i d h), e2]
    · have := I.T L.length t (Nat.le_refl _) (fun i d h _ => hall i d h)
      rw [e1] at this; exact this
  induction fuel with
  | zero =>
    intro listed ρ HD a w hs hf hD I
    have hr : Region.ready .any ops listed = [] := by
      have h0 : ((List.range ops.size).filter fun i => !listed.getD i true) = [] := List.length_eq_zero_iff.1 hf
      apply List.eq_nil_iff_forall_not_mem.2
      intro i hi
      rw [ready_mem] at hi
      have : i ∈ ((List.range ops.size).filter fun i => !listed.getD i true) := List.mem_filter.2 ⟨List.mem_range.2 hi.1, by rw [hi.2.1]; rfl⟩
      rw [h0] at this; simp at this
    exact ⟨hr, finish listed ρ HD a w hs hD I hr⟩
  | succ fuel ih =>
    intro listed ρ HD a w hs hf hD I
    refine ⟨finish listed ρ HD a w hs hD I, fun m hm => ?_⟩
    rw [ready_mem] at hm
    obtain ⟨hlt, hml, o, ho, hedge⟩ := hm
    obtain ⟨d, hd, ho2⟩ := W.oper hlt
    have hoe : o = d.o := by
      have : ops.toList[m]? = some o := by simpa using ho
      rw [this] at ho2; simpa using ho2
    subst hoe
    have hnD : ¬ doneB listed m := by
      unfold doneB
      rw [Array.getD_eq_getD_getElem?] at hml ⊢
      rw [Array.getElem?_eq_getElem (by omega)] at hml ⊢
      simp at hml ⊢; exact hml
    obtain ⟨hdo, hnext⟩ := I.step W hD hd hnD hedge
    have hset : ∀ i, doneB (listed.setIfInBounds m true) i ↔ (doneB listed i ∨ i = m) := by
      intro i
      unfold doneB
      simp only [Array.getD_eq_getD_getElem?]
      by_cases h : i = m
      · subst h; simp [hs, hlt]
      · rw [Array.getElem?_setIfInBounds_ne (by omega)]; simp [h]
    have hcount : ((List.range ops.size).filter fun i => !(listed.setIfInBounds m true).getD i true).length = fuel := by
      have key : ∀ (n : Nat), n ≤ ops.size → ((List.range n).filter fun i => !listed.getD i true).length = ((List.range n).filter fun i => !(listed.setIfInBounds m true).getD i true).length + (if m < n then 1 else 0) := by
        intro n
        induction n with
        | zero => intro _; simp
        | succ n ihn =>
          intro hn
          have ihn := ihn (by omega)
          simp only [List.range_succ, List.filter_append, List.length_append, ihn]
          by_cases hmn : n = m
          · subst hmn
            have e1 : (!listed.getD n true) = true := by rw [hml]; rfl
            have e2 : (!(listed.setIfInBounds n true).getD n true) = false := by
              simp [Array.getD_eq_getD_getElem?, hs, hlt]
            simp only [List.filter_cons, e1, e2, if_true, List.filter_nil, List.length_cons, List.length_nil, Bool.false_eq_true, if_false]
            simp
          · have e : (listed.setIfInBounds m true).getD n true = listed.getD n true := by
              simp only [Array.getD_eq_getD_getElem?]
              rw [Array.getElem?_setIfInBounds_ne (by omega)]
            have : (m < n + 1) ↔ (m < n) := by omega
            simp only [List.filter_cons, e, List.filter_nil, this]
            split <;> split <;> simp <;> omega
      have := key ops.size (Nat.le_refl _)
      rw [hf, if_pos hlt] at this
      omega
    have hshut : Shut ops (doneB (listed.setIfInBounds m true)) := by
      intro j o hj hdj e he hb
      rw [hset] at hdj ⊢
      rcases hdj with h | rfl
      · exact .inl (hD j o hj h e he hb)
      · left
        rw [hj] at ho2; simp at ho2; subst ho2
        exact hedge e he hb
    have goOn : ∀ (ρ' : Env) (HD' : Heap) (a' : Act) (w' : World), DInv ops nt L tmN HN ρ0 H N NN w0 a0 (fun i => doneB listed i ∨ i = m) ρ' HD' a' w' → wpAny P .any ops Q fuel (listed.setIfInBounds m true) a' w' := by
      intro ρ' HD' a' w' I'
      refine ih _ ρ' HD' a' w' (by simp [hs]) hcount hshut ?_
      have : doneB (listed.setIfInBounds m true) = (fun i => doneB listed i ∨ i = m) := by funext i; exact propext (hset i)
      rw [this]; exact I'
    have hmo : ops[m]? = some d.o := ho
    unfold wpOp
    rw [hmo]
    simp only
    cases hw : Region.wanted d.o (yielded ops a.tmps) with
    | true =>
      rw [if_pos rfl]
      left
      refine does_wp (hdo.1 hw) ?_
      rintro v' w' ⟨ρ', hst, hv⟩
      exact goOn ρ' _ _ _ (hnext ρ' w' v' hst hv)
    | false =>
      rw [if_neg (by simp)]
      obtain ⟨h1, h2, h3⟩ := hdo.2 hw
      refine goOn ρ _ _ _ (hnext ρ w undef ?_ ?_)
      · rw [h2, h3]
        have hi : Inv ρ d.F w := by
          have K := W.ok m d hd
          exact I.st.inv.sub (fun x b hx => I.seen W hD hd hnD hedge x b hx)
        exact Step.refl hi
      · rw [h1]; exact VR_undef

theorem drawA_sound {C : Oracle} (hC : Snd P C) {fl : Fl} : DSnd P nt (drawA P fl nt C) := by
  intro R ops tm H N K r h
  unfold drawA at h
  cases hm : P.follows .mixedOrders with
  | false => rw [hm] at h; simp at h
  | true =>
    rw [hm] at h
    simp only [cond_true] at h
    obtain ⟨L, tmN, HN, NN, hk, hlen, hch, hok, hrec, hcross⟩ := drawGo_trace hC (j := 0) rfl h
    have W : Way P nt ops (ancsOf ops.toList []) L tm H N tmN HN NN := by
      refine ⟨by simpa using hlen, rfl, hch, fun k d hd => by simpa using hok k d hd, fun k k' d d' h1 h2 h3 h4 => hcross k k' d d' h1 h2 h3 (by simpa using h4)⟩
    have hNs : ∀ (j : Nat) (d : DR), L[j]? = some d → d.N ≤ d.N' := fun j d h => (W.ok j d h).NN
    have hNN := chain_N W.chain hNs
    refine ⟨tmN, HN, NN, hk, hNN.1, fun ρ a w id ht hi hf => wp_region_any hm ?_⟩
    refine way_any W (ρ0 := ρ) (w0 := w) (a0 := a) (fun a' w' hp => ⟨rfl, hp⟩) ops.size _ ρ H a w.drew (by simp) ?_ ?_ ?_
    · rw [List.filter_eq_self.2]
      · simp
      · intro i hi
        simp at hi
        simp [Array.getD_eq_getD_getElem?, hi]
    · intro j o hj hd
      exfalso
      unfold doneB at hd
      rw [Array.getD_eq_getD_getElem?] at hd
      cases hq : (Array.replicate ops.size false)[j]? with
      | none => rw [hq] at hd; simp at hd
      | some b =>
        rw [hq] at hd
        rw [Array.getElem?_replicate] at hq
        split at hq <;> simp_all
    · have nd : ∀ i, ¬ doneB (Array.replicate ops.size false) i := by
        intro i hd
        unfold doneB at hd
        rw [Array.getD_eq_getD_getElem?] at hd
        cases hq : (Array.replicate ops.size false)[i]? with
        | none => rw [hq] at hd; simp at hd
        | some b =>
          rw [hq] at hd
          rw [Array.getElem?_replicate] at hq
          split at hq <;> simp_all
      obtain ⟨z1, z2⟩ := chain_zero W.chain
      constructor
      · exact ht.1
      · rfl
      · intro j t hj hw
        -- no writer stands ahead
        have key : ∀ k, k ≤ j → VR ρ ((tmAt L tmN k).get t) (a.tmps.getD t undef) := by
          intro k
          induction k with
          | zero => intro _; rw [z1]; exact ht.2 t
          | succ k ih =>
            intro hk
            have hlen : k < L.length := by omega
            obtain ⟨q1, q2, q3, q4⟩ := chain_next W.chain k _ (List.getElem?_eq_getElem hlen)
            have ih := ih (by omega)
            rw [q1] at ih
            rw [q3]
            rcases (W.ok _ _ (List.getElem?_eq_getElem hlen)).tms t with h | ⟨h, _⟩ | ⟨_, h⟩
            · rw [h]; simp [VR]
            · exact absurd ((hw k _ (List.getElem?_eq_getElem hlen) h).2 (by omega)) (nd k)
            · rw [h]; exact ih
        exact key j (Nat.le_refl _)
      · intro j x hj hw
        have key : ∀ k, k ≤ j → (hAt L HN k).find x = H.find x := by
          intro k
          induction k with
          | zero => intro _; rw [z2]
          | succ k ih =>
            intro hk
            have hlen : k < L.length := by omega
            obtain ⟨q1, q2, q3, q4⟩ := chain_next W.chain k _ (List.getElem?_eq_getElem hlen)
            have ih := ih (by omega)
            rw [q2] at ih
            rw [q4, upd_find_other]
            · exact ih
            · intro hx
              exact absurd ((hw k _ (List.getElem?_eq_getElem hlen) hx).2 (by omega)) (nd k)
        exact (key j (Nat.le_refl _)).symm
      · exact (Step.drew hi).widen (Nat.le_refl _) hNN.1
      · intro i d hd _
        exact hf.sub (hNN.2 i d hd).1 (hNN.2 i d hd).2
end
end Go.Sx

/- What the executor answers, the machine answers: a function's body; calls by their bodies. -/
namespace Go.Sx
open Go

section
variable {P : Program} {w : World} {ρ : Env} {R : Type} {r : R}

def resOne (tmps : Array Value) : ResultVar → Sem Value
  | .tmp t => pure (tmps.getD t undef)
  | .cell q t => do loadVar t (← asAddr (tmps.getD q undef))
theorem resultsA_sound {tm : TM} {H : Heap} : ∀ {rs : List ResultVar} {K : List AV → Option R}, resultsA P tm H rs K = some r → ∃ l, K l = some r ∧ ∀ (ρ : Env) (nt : Nat) (a : Act) (w : World), Tms ρ nt tm a → Inv ρ H w →
    ∃ ys : List Value, (rs.mapM (resOne a.tmps)).run P w = .ok ys w ∧ VRs ρ l ys
  | [], K, h => ⟨[], h, fun ρ nt a w ht hi => ⟨[], by simp, by simp⟩⟩
  | .tmp t :: rs, K, h => by
    simp only [resultsA] at h
    obtain ⟨l, hk, hall⟩ := resultsA_sound h
    refine ⟨_, hk, fun ρ nt a w ht hi => ?_⟩
    obtain ⟨ys, hy, hv⟩ := hall ρ nt a w ht hi
    exact ⟨a.tmps.getD t undef :: ys, by simp only [List.mapM_cons, Sem.run_bind, resOne, Sem.run_pure, Result.andThen_ok, hy], VRs_cons' (ht.2 t) hv⟩
  | .cell q t :: rs, K, h => by
    simp only [resultsA] at h
    split at h
    · rename_i p n hp hn
      obtain ⟨cs, hk, hcs, b, hb, hsl⟩ := loadA_spec h
      have key : ∀ v, (∀ (ρ : Env) (w : World) (l : Loc) (ys : List Value), VRs ρ cs ys → (∀ j y, ys[j]? = some y → w.cell? (l.addr (p.pos + j)) = some y) → ∃ y, (loadVar t (l.addr p.pos)).run P w = .ok y w ∧ VR ρ v y) →
          resultsA P tm H rs (fun l => K (v :: l)) = some r → ∃ l, K l = some r ∧ ∀ (ρ : Env) (nt : Nat) (a : Act) (w : World), Tms ρ nt tm a → Inv ρ H w →
            ∃ ys : List Value, ((ResultVar.cell q t :: rs).mapM (resOne a.tmps)).run P w = .ok ys w ∧ VRs ρ l ys := by
        intro v hv h
        obtain ⟨l, hk, hall⟩ := resultsA_sound h
        refine ⟨_, hk, fun ρ nt a w ht hi => ?_⟩
        obtain ⟨ys, hy, hvs⟩ := hall ρ nt a w ht hi
        obtain ⟨lc, zs, hl, hzs, hc⟩ := hi.cells hb hsl hcs
        obtain ⟨y, hyr, hyv⟩ := hv ρ w lc zs hzs hc
        have hq := ht.2 q
        rw [hp] at hq
        simp only [VR] at hq
        obtain ⟨l', hl', hqv⟩ := hq
        rw [hl] at hl'; simp at hl'; subst hl'
        refine ⟨y :: ys, ?_, VRs_cons' hyv hvs⟩
        simp only [List.mapM_cons, Sem.run_bind, resOne, hqv]
        simp only [asAddr, Sem.run_pure, Result.andThen_ok, hyr, hy]
      unfold aggOr at hk
      split at hk
      · rename_i ha
        refine key _ (fun ρ w l ys hv hc => ?_) hk
        obtain ⟨v, hv1, y, hy, hr⟩ := run_loadVar (P := P) (K := fun v => if True then some v else none) (r := .agg cs) hn hcs hv hc (by unfold aggOr; rw [ha]; simp)
        simp at hv1; subst hv1
        exact ⟨y, hy, hr⟩
      · rename_i ha
        split at hk
        · rename_i v0
          refine key _ (fun ρ w l ys hv hc => ?_) hk
          obtain ⟨v, hv1, y, hy, hr⟩ := run_loadVar (P := P) (K := fun v => if True then some v else none) (r := v0) hn hcs hv hc (by unfold aggOr; rw [ha]; simp)
          simp at hv1; subst hv1
          exact ⟨y, hy, hr⟩
        · simp at hk
      · simp at hk
    · simp at h

theorem oneOf_rel {l : List AV} {ys : List Value} (h : VRs ρ l ys) : VR ρ (oneOf l) (if h : ys.toArray.size = 1 then ys.toArray[0] else .tuple ys.toArray) := by
  match l, h with
  | [], h => simp at h; subst h; simp only [oneOf, VR]; exact ⟨#[], by simp, by simp⟩
  | [v], h => obtain ⟨y, rfl, hy⟩ := VRs_one_iff.1 h; simpa [oneOf] using hy
  | u :: v :: l, h =>
    have hl := VRs_length h
    rw [dif_neg (by simp at hl ⊢; omega)]
    simp only [oneOf, VR]
    exact ⟨_, rfl, by simpa using h⟩

theorem ofArgs_tms {nt : Nat} : ∀ (args : List AV) (vs : List Value) (i : Nat) (tm : TM) (a : Act), VRs ρ args vs → i + args.length ≤ nt → Tms ρ nt tm a → (∀ j v, vs[j]? = some v → a.tmps.getD (i + j) undef = v) → Tms ρ nt (TM.ofArgs tm i args) a
  | [], vs, i, tm, a, hv, hl, ht, hj => by simpa [TM.ofArgs] using ht
  | u :: l, vs, i, tm, a, hv, hl, ht, hj => by
    obtain ⟨y, zs, rfl, hy, hzs⟩ := VRs_cons.1 hv
    simp only [TM.ofArgs]
    simp at hl
    refine ofArgs_tms l zs (i + 1) _ a hzs (by omega) (ht.know ?_) (fun j v h => ?_)
    · have := hj 0 y rfl
      simp at this ⊢
      rw [this]; exact hy
    · have := hj (j + 1) v (by simpa using h)
      rw [← this]; congr 1; omega

/-- The laws of blocks that a function's reckoning leans on. -/
def FOK (P : Program) (fn : Func) (F : Cfg) : Prop := ∀ c, fn.body = some c → LawsOK P fn.ntmps F.laws c
theorem fok_nil {fn : Func} {F : Cfg} (h : F.laws = []) : FOK P fn F := by
  intro c _ id hd hl
  rw [h] at hl
  simp [lawOf] at hl
theorem bodyA_sound {C : Oracle} (hC : Snd P C) {F : Cfg} {f : FuncId} {fn : Func} (hfn : P.funcs[f]? = some fn) (hF : FOK P fn F) {args : List AV} {H : Heap} {N : Nat} {K : AV → Heap → Nat → Option R} (h : bodyA P C (drawA P) F fn args H N K = some r) :
    ∃ v H' N', K v H' N' = some r ∧ N ≤ N' ∧ ∀ (ρ : Env) (w : World) (vs : List Value), VRs ρ args vs → Inv ρ H w → FreshI ρ N →
      Calls P f vs.toArray w (fun e w' => ∃ v', e = .returned v' ∧ ∃ ρ', Step ρ H N w ρ' H' N' w' ∧ VR ρ' v v') := by
  unfold bodyA at h
  split at h
  · simp at h
  · rename_i c hb
    cases hle : Nat.ble args.length fn.ntmps with
    | false => rw [hle] at h; simp at h
    | true =>
      rw [hle] at h
      simp only [cond_true] at h
      rw [ble_true] at hle
      obtain ⟨o, tm', H', N', hk, hN, hc⟩ := codeA_sound hC (drawA_sound (nt := fn.ntmps) hC) c (hF c hb) h
      have fin : ∀ (hk : resultsA P tm' H' fn.results.toList (fun l => K (oneOf l) H' N') = some r) (ho : o = .normal ∨ o = .ret), ∃ v H' N', K v H' N' = some r ∧ N ≤ N' ∧ ∀ (ρ : Env) (w : World) (vs : List Value), VRs ρ args vs → Inv ρ H w → FreshI ρ N →
          Calls P f vs.toArray w (fun e w' => ∃ v', e = .returned v' ∧ ∃ ρ', Step ρ H N w ρ' H' N' w' ∧ VR ρ' v v') := by
        intro hk ho
        obtain ⟨l, hk2, hres⟩ := resultsA_sound hk
        refine ⟨_, H', N', hk2, hN, fun ρ w vs hvs hi hf => ?_⟩
        have hlen := VRs_length hvs
        have ht : Tms ρ fn.ntmps (TM.ofArgs .nil 0 args) { tmps := vs.toArray ++ Array.replicate (fn.ntmps - vs.toArray.size) undef, defers := [] } := by
          refine ofArgs_tms args vs 0 .nil _ hvs (by omega) ⟨by simp; omega, fun t => by simp [TM.get, VR]⟩ ?_
          intro j v hj
          have hlt := (List.getElem?_eq_some_iff.1 hj).1
          rw [Array.getD_eq_getD_getElem?, Array.getElem?_append_left (by simpa using hlt)]
          simp [hj]
        refine calls_of_wp hfn hb (wp_mono (hc ρ _ w ht hi hf) ?_)
        rintro e a' w' ⟨rfl, ρ', hst, ht', hd⟩
        obtain ⟨ys, hy, hv⟩ := hres ρ' fn.ntmps a' w' ht' hst.inv
        have hrun : (results fn a'.tmps).run P w' = .ok (if h : ys.toArray.size = 1 then ys.toArray[0] else .tuple ys.toArray) w' := by
          unfold results
          have e1 : fn.results.mapM (resOne a'.tmps) = List.toArray <$> (fn.results.toList.mapM (resOne a'.tmps)) := by
            rw [← List.mapM_toArray]
          have e2 : (fn.results.mapM (resOne a'.tmps)).run P w' = .ok ys.toArray w' := by
            rw [e1, Sem.run_map, hy]; rfl
          simp only [Sem.run_bind]
          refine (congrArg (fun q => Result.andThen q _) e2).trans ?_
          simp only [Result.andThen_ok, Sem.run_pure]
        have hd' : a'.defers = [] := hd
        rcases ho with rfl | rfl
        · exact ⟨hd', _, hrun, _, rfl, ρ', hst, oneOf_rel hv⟩
        · exact ⟨hd', _, hrun, _, rfl, ρ', hst, oneOf_rel hv⟩
      cases o with
      | normal => exact fin hk (.inl rfl)
      | ret => exact fin hk (.inr rfl)
      | exit i => simp at hk

mutual
theorem ren_id : ∀ v : AV, v.ren id = v
  | .any => rfl
  | .bool _ => rfl
  | .int _ _ => rfl
  | .ptr p => rfl
  | .nilptr => rfl
  | .slice _ _ _ => rfl
  | .nilslice => rfl
  | .func g a c => by simp only [AV.ren, renL_id a, renL_id c]
  | .nilfunc => rfl
  | .iface t v => by simp only [AV.ren, ren_id v]
  | .nilface => rfl
  | .agg l => by simp only [AV.ren, renL_id l]
  | .tup l => by simp only [AV.ren, renL_id l]
  | .lit _ => rfl
theorem renL_id : ∀ l : List AV, AV.renL id l = l
  | [] => rfl
  | v :: l => by simp only [AV.renL, ren_id v, renL_id l]
end
theorem VR_congr {ρ' : Env} {v : AV} {x : Value} (h : ∀ n ∈ v.names, ρ' n = ρ n) (hv : VR ρ v x) : VR ρ' v x := by
  have := VR_ren (f := id) v x h hv
  rwa [ren_id] at this
theorem VRs_congr {ρ' : Env} {l : List AV} {ys : List Value} (h : ∀ n ∈ AV.namesL l, ρ' n = ρ n) (hv : VRs ρ l ys) : VRs ρ' l ys := by
  have := VRs_ren (f := id) l ys h hv
  rwa [renL_id] at this
theorem heapBelow_find {N : Nat} : ∀ {H : Heap}, heapBelow N H = true → ∀ x b, H.find x = some b → x < N ∧ ∀ n ∈ segNames b.segs, n < N
  | [], _, x, b, h => by simp [Heap.find] at h
  | (y, c) :: H, hh, x, b, h => by
    simp only [heapBelow, Bool.and_eq_true, blt_true] at hh
    simp only [Heap.find] at h
    by_cases hy : y = x
    · subst hy
      rw [Nat.beq_refl] at h
      simp at h; subst h
      refine ⟨hh.1, fun n hn => ?_⟩
      have := allKept_iff hh.2.1 n hn
      simpa using this
    · rw [beq_false.2 hy] at h
      exact heapBelow_find hh.2.2 x b h

/-- What is told of names below N alone. -/
def cutEnv (ρ : Env) (N : Nat) : Env := fun x => if x < N then ρ x else none
theorem cutEnv_le {N : Nat} : (cutEnv ρ N).le ρ := by
  intro x l h
  unfold cutEnv at h
  split at h
  · exact h
  · simp at h
theorem Inv.cut {H : Heap} {N : Nat} (hi : Inv ρ H w) (hb : heapBelow N H = true) : Inv (cutEnv ρ N) H w := by
  constructor
  · intro x b hx
    obtain ⟨h1, h2⟩ := heapBelow_find hb x b hx
    obtain ⟨l, hl, c, e, fr, q1, q2, q3, q4⟩ := hi.blk x b hx
    refine ⟨l, by simp [cutEnv, h1, hl], c, e, fr, q1, q2, q3, fun o v hv => ?_⟩
    obtain ⟨y, hy, hr⟩ := q4 o v hv
    refine ⟨y, hy, VR_congr (fun n hn => ?_) hr⟩
    have := h2 n (flat_names _ v (List.mem_of_getElem? hv) n hn)
    simp [cutEnv, this]
  · intro x y bx b' lx ly hx hy hlx hly
    exact hi.inj x y bx b' lx ly hx hy (cutEnv_le _ _ hlx) (cutEnv_le _ _ hly)
theorem cutEnv_fresh {N : Nat} : FreshI (cutEnv ρ N) N := by
  intro x hx
  simp [cutEnv]; omega

theorem upd_append : ∀ (e1 e2 : Eff) (H : Heap), H.upd (e1 ++ e2) = (H.upd e1).upd e2
  | [], e2, H => rfl
  | (x, some b) :: e1, e2, H => by simp only [List.cons_append, Heap.upd]; exact upd_append e1 e2 _
  | (x, none) :: e1, e2, H => by simp only [List.cons_append, Heap.upd]; exact upd_append e1 e2 _
theorem upd_pairs : ∀ (H' H : Heap) (x : Nat), (H.upd (pairs H')).find x = match H'.find x with | some b => some b | none => H.find x
  | [], H, x => rfl
  | (y, c) :: H', H, x => by
    simp only [pairs, upd_append, Heap.upd, find_put, Heap.find]
    by_cases h : x = y
    · subst h; simp
    · rw [if_neg h, beq_false.2 (Ne.symm h)]
      exact upd_pairs H' H x
theorem find_cons_eq (y : Nat) (c : Blk) (G : Heap) : Heap.find ((y, c) :: G) y = some c := by
  simp [Heap.find]
theorem find_cons_ne {x y : Nat} (c : Blk) (G : Heap) (h : y ≠ x) : Heap.find ((y, c) :: G) x = Heap.find G x := by
  simp only [Heap.find]
  rw [beq_false.2 h]
  rfl
def gone (H' G : Heap) (x : Nat) : Bool := (G.find x).isSome && (H'.find x).isNone
theorem upd_gone (H' : Heap) : ∀ (G H : Heap) (x : Nat), (H.upd (goneE H' G)).find x = cond (gone H' G x) none (H.find x)
  | [], H, x => rfl
  | (y, c) :: G, H, x => by
    unfold goneE
    cases hy : H'.find y with
    | some b =>
      dsimp only
      rw [upd_gone H' G H x]
      by_cases h : y = x
      · subst h
        have h1 : gone H' G y = false := by simp [gone, hy]
        have h2 : gone H' ((y, c) :: G) y = false := by simp [gone, hy]
        rw [h1, h2]
      · have : gone H' ((y, c) :: G) x = gone H' G x := by simp only [gone]; rw [find_cons_ne c G h]
        rw [this]
    | none =>
      dsimp only [Heap.upd]
      rw [upd_gone H' G _ x, find_del]
      by_cases h : y = x
      · subst h
        have h2 : gone H' ((y, c) :: G) y = true := by simp [gone, hy, find_cons_eq]
        rw [h2, if_pos rfl]
        cases gone H' G y <;> rfl
      · have : gone H' ((y, c) :: G) x = gone H' G x := by simp only [gone]; rw [find_cons_ne c G h]
        rw [this, if_neg (Ne.symm h)]
theorem upd_whole (H H' : Heap) (x : Nat) : (H.upd (goneE H' H ++ pairs H')).find x = H'.find x := by
  rw [upd_append, upd_pairs, upd_gone]
  cases hf : H'.find x with
  | some b => rfl
  | none =>
    cases hH : H.find x with
    | none => simp
    | some b => simp [gone, hf, hH]

theorem callFunc_enter {g : FuncId} {fn : Func} (hfn : P.funcs[g]? = some fn) (hname : (fn.name == "runtime.NumGoroutine") = false) (hbody : fn.body.isNone = false) (args : Array Value) : (callFunc g args).run P w = .ok (.enter g args) w := by
  have h1 : ¬ fn.name = "runtime.NumGoroutine" := fun h => by rw [h] at hname; simp at hname
  have h2 : ¬ fn.body = none := fun h => by rw [h] at hbody; simp at hbody
  simp [callFunc, hfn, h1, h2]

/-- What an oracle's answer must stand for. -/
def Ans (P : Program) (g : FuncId) (args : List AV) (H : Heap) (N : Nat) (v : AV) (e : Eff) (N' : Nat) : Prop :=
  ∀ (ρ : Env) (w : World) (vs : List Value), VRs ρ args vs → Inv ρ H w → Fresh ρ N N' → Does P (callFunc g vs.toArray) w (fun v' w' => Post ρ H N w e N' v v' w')

theorem inlineA_sound {C : Oracle} (hC : Snd P C) {F : Cfg} {g : FuncId} {fn : Func} (hfn : P.funcs[g]? = some fn) (hF : FOK P fn F) (hname : (fn.name == "runtime.NumGoroutine") = false) {args : List AV} {H : Heap} {N : Nat} {K : AV → Eff → Nat → Option R}
    (h : inlineA P C (drawA P) F fn args H N K = some r) : ∃ v e N', K v e N' = some r ∧ N ≤ N' ∧ Ans P g args H N v e N' := by
  unfold inlineA at h
  cases hc : (heapBelow N H && allKept N [] (AV.namesL args)) with
  | false => rw [hc] at h; simp at h
  | true =>
    rw [hc] at h
    simp only [cond_true] at h
    simp only [Bool.and_eq_true] at hc
    have hbody : fn.body.isNone = false := by
      cases hb : fn.body with
      | none => simp [bodyA, hb] at h
      | some c => rfl
    obtain ⟨v, H', N', hk, hN, hcall⟩ := bodyA_sound hC hfn hF h
    try dsimp only at hk
    generalize liveOf N H' v.names = live at hk
    cases hc2 : (nodupB live && aboveB N live && allKept N live v.names) with
    | false => rw [hc2] at hk; simp at hk
    | true =>
      rw [hc2] at hk
      simp only [cond_true] at hk
      simp only [Bool.and_eq_true] at hc2
      refine ⟨_, _, _, hk, by omega, fun ρ w vs hvs hi hf => ?_⟩
      unfold Does
      rw [callFunc_enter hfn hname hbody]
      simp only
      have hargs : VRs (cutEnv ρ N) args vs := VRs_congr (fun n hn => by
        have := allKept_iff hc.2 n hn
        simp at this
        simp [cutEnv, this]) hvs
      refine (hcall (cutEnv ρ N) w vs hargs (hi.cut hc.1) cutEnv_fresh).mono ?_
      rintro e w' ⟨v', rfl, ρ', hst, hv⟩
      refine ⟨v', rfl, renEnv ρ ρ' N live, ?_, VR_ren v v' (fun n hn => renEnv_kept (allKept_iff hc2.2 n hn)) hv⟩
      exact (step_norm' hst (fun x hx => by simp [cutEnv, hx]) cutEnv_le).congr (fun x => upd_whole H _ x)

/-! calls that write nothing that was there -/
mutual
theorem VR_ro {ρ' : Env} : ∀ (v : AV) (x : Value), (∀ n ∈ v.names, ∀ l, ρ n = some l → ρ' n = some { l with rw := false }) → VR ρ v x → VR ρ' v x
  | .any, _, _, _ => by simp [VR]
  | .bool _, _, _, hv => by simpa [VR] using hv
  | .int _ _, _, _, hv => by simpa [VR] using hv
  | .ptr p, _, h, hv => by
    simp only [VR] at hv ⊢
    obtain ⟨l, hl, hx⟩ := hv
    exact ⟨_, h p.x (by simp [AV.names]) l hl, hx⟩
  | .nilptr, _, _, hv => by simpa [VR] using hv
  | .slice p es n, _, h, hv => by
    simp only [VR] at hv ⊢
    obtain ⟨l, cap, hl, h1, h2, _, h4⟩ := hv
    exact ⟨_, cap, h p.x (by simp [AV.names]) l hl, h1, h2, by simp, h4⟩
  | .nilslice, _, _, hv => by simpa [VR] using hv
  | .func _ a c, _, h, hv => by
    simp only [VR] at hv ⊢
    obtain ⟨a', c', hx, ha, hc⟩ := hv
    exact ⟨a', c', hx, VRs_ro a _ (fun n hn => h n (by simp [AV.names, hn])) ha, VRs_ro c _ (fun n hn => h n (by simp [AV.names, hn])) hc⟩
  | .nilfunc, _, _, hv => by simpa [VR] using hv
  | .iface _ v, _, h, hv => by
    simp only [VR] at hv ⊢
    obtain ⟨y, hx, hy⟩ := hv
    exact ⟨y, hx, VR_ro v y (fun n hn => h n (by simpa [AV.names] using hn)) hy⟩
  | .nilface, _, _, hv => by simpa [VR] using hv
  | .agg l, _, h, hv => by
    simp only [VR] at hv ⊢
    obtain ⟨a, hx, ha⟩ := hv
    exact ⟨a, hx, VRs_ro l _ (fun n hn => h n (by simpa [AV.names] using hn)) ha⟩
  | .tup l, _, h, hv => by
    simp only [VR] at hv ⊢
    obtain ⟨a, hx, ha⟩ := hv
    exact ⟨a, hx, VRs_ro l _ (fun n hn => h n (by simpa [AV.names] using hn)) ha⟩
  | .lit _, _, _, hv => by simpa [VR] using hv
theorem VRs_ro {ρ' : Env} : ∀ (l : List AV) (ys : List Value), (∀ n ∈ AV.namesL l, ∀ l, ρ n = some l → ρ' n = some { l with rw := false }) → VRs ρ l ys → VRs ρ' l ys
  | [], _, _, hl => by simpa using hl
  | v :: l, _, h, hl => by
    obtain ⟨y, r, rfl, hv, hr⟩ := VRs_cons.1 hl
    exact VRs_cons' (VR_ro v y (fun n hn => h n (by simp [AV.namesL, hn])) hv) (VRs_ro l r (fun n hn => h n (by simp [AV.namesL, hn])) hr)
end
def roEnv (ρ : Env) (N : Nat) : Env := fun x => if x < N then (ρ x).map (fun l => { l with rw := false }) else none
theorem roEnv_some {N x : Nat} {l : Loc} (hx : x < N) (h : ρ x = some l) : roEnv ρ N x = some { l with rw := false } := by simp [roEnv, hx, h]
theorem roEnv_inv {N x : Nat} {l : Loc} (h : roEnv ρ N x = some l) : x < N ∧ l.rw = false ∧ ∃ l', ρ x = some l' ∧ l'.b = l.b := by
  unfold roEnv at h
  split at h
  · rename_i hx
    cases hr : ρ x with
    | none => rw [hr] at h; simp at h
    | some l' => rw [hr] at h; simp at h; subst h; exact ⟨hx, rfl, l', rfl, rfl⟩
  · simp at h
theorem readH_find : ∀ {H : Heap} {x : Nat} {b : Blk}, (readH H).find x = some b → ∃ b0, H.find x = some b0 ∧ b = { b0 with rw := false }
  | [], x, b, h => by simp [readH, Heap.find] at h
  | (y, c) :: H, x, b, h => by
    simp only [readH, Heap.find] at h ⊢
    by_cases hy : y = x
    · subst hy; rw [Nat.beq_refl] at h ⊢; simp at h ⊢; exact h.symm
    · rw [beq_false.2 hy] at h ⊢; exact readH_find h
theorem Inv.ro {H : Heap} {N : Nat} (hi : Inv ρ H w) (hb : heapBelow N H = true) : Inv (roEnv ρ N) (readH H) w := by
  constructor
  · intro x b hx
    obtain ⟨b0, hx0, rfl⟩ := readH_find hx
    obtain ⟨h1, h2⟩ := heapBelow_find hb x b0 hx0
    obtain ⟨l, hl, c, e, fr, q1, q2, q3, q4⟩ := hi.blk x b0 hx0
    refine ⟨_, roEnv_some h1 hl, c, e, fr, q1, rfl, by simp, fun o v hv => ?_⟩
    obtain ⟨y, hy, hr⟩ := q4 o v hv
    refine ⟨y, hy, VR_ro v y (fun n hn l hl => ?_) hr⟩
    exact roEnv_some (h2 n (flat_names _ v (List.mem_of_getElem? hv) n hn)) hl
  · intro x y bx b' lx ly hx hy hlx hly hrw
    rw [(roEnv_inv hlx).2.1] at hrw; simp at hrw
theorem allIn_iff {live : List Nat} : ∀ {l : List Nat}, allIn live l = true → ∀ x ∈ l, x ∈ live
  | [], _, x, h => by simp at h
  | y :: l, hh, x, h => by
    simp only [allIn, Bool.and_eq_true, memB_iff] at hh
    rcases List.mem_cons.1 h with rfl | h
    · exact hh.1
    · exact allIn_iff hh.2 x h
def newEnv (ρ ρ' : Env) (N : Nat) (live : List Nat) : Env := fun y => if y < N then ρ y else match live[y - N]? with | some x => ρ' x | none => ρ y
theorem newEnv_live {ρ' : Env} {N : Nat} {live : List Nat} (hab : ∀ x ∈ live, N ≤ x) {x : Nat} (h : x ∈ live) : newEnv ρ ρ' N live (renN N live x) = ρ' x := by
  unfold newEnv renN
  have hx : ¬ x < N := by have := hab x h; omega
  rw [show Nat.blt x N = false by rw [← Bool.not_eq_true, blt_true]; exact hx]
  simp only [cond_false]
  rw [if_neg (by omega), show N + posN x live - N = posN x live by omega, (posN_lt h).2]
theorem newE_names {N : Nat} {live : List Nat} {H' : Heap} : ∀ {l : List Nat} {y : Nat} {ob : Option Blk}, (y, ob) ∈ newE N live H' l → ∃ x b, x ∈ l ∧ y = renN N live x ∧ H'.find x = some b ∧ b.rw = true ∧ (∀ n ∈ segNames b.segs, n ∈ live) ∧ ob = some { b with segs := segRen (renN N live) b.segs }
  | [], y, ob, h => by simp [newE] at h
  | x :: l, y, ob, h => by
    simp only [newE] at h
    split at h
    · rename_i b hb
      cases hc : (b.rw && allIn live (segNames b.segs)) with
      | true =>
        rw [hc] at h
        simp only [cond_true, List.mem_cons, Prod.mk.injEq] at h
        simp only [Bool.and_eq_true] at hc
        rcases h with ⟨rfl, rfl⟩ | h
        · exact ⟨x, b, by simp, rfl, hb, hc.1, allIn_iff hc.2, rfl⟩
        · obtain ⟨x', b', h1, r⟩ := newE_names h
          exact ⟨x', b', by simp [h1], r⟩
      | false =>
        rw [hc] at h
        obtain ⟨x', b', h1, r⟩ := newE_names h
        exact ⟨x', b', by simp [h1], r⟩
    · obtain ⟨x', b', h1, r⟩ := newE_names h
      exact ⟨x', b', by simp [h1], r⟩
theorem upd_find_in : ∀ {e : Eff} {H : Heap} {y : Nat} {b : Blk}, (H.upd e).find y = some b → (y, some b) ∈ e ∨ (y ∉ namesOf e ∧ H.find y = some b)
  | [], H, y, b, h => .inr ⟨by simp [namesOf], h⟩
  | (x, some c) :: e, H, y, b, h => by
    simp only [Heap.upd] at h
    rcases upd_find_in h with h | ⟨h1, h2⟩
    · exact .inl (by simp [h])
    · rw [find_put] at h2
      split at h2
      · rename_i hy; subst hy; simp at h2; subst h2; exact .inl (by simp)
      · rename_i hy; exact .inr ⟨by simp [namesOf, hy, h1], h2⟩
  | (x, none) :: e, H, y, b, h => by
    simp only [Heap.upd] at h
    rcases upd_find_in h with h | ⟨h1, h2⟩
    · exact .inl (by simp [h])
    · rw [find_del] at h2
      split at h2
      · simp at h2
      · rename_i hy; exact .inr ⟨by simp [namesOf, hy, h1], h2⟩

/-- Behind a step that may write nothing old. -/
theorem step_quiet {ρ' : Env} {H H' : Heap} {N N' : Nat} {w' : World} {live : List Nat} (hi : Inv ρ H w) (hb : heapBelow N H = true) (h : Step (roEnv ρ N) (readH H) N w ρ' H' N' w') (hab : ∀ x ∈ live, N ≤ x) :
    Step ρ H N w (newEnv ρ ρ' N live) (H.upd (newE N live H' live)) (N + live.length) w' := by
  have noOwn : ∀ b, ¬ Owned (roEnv ρ N) (readH H) b := by
    rintro b ⟨x, k, l, hx, hl, hr, _⟩
    rw [(roEnv_inv hl).2.1] at hr; simp at hr
  have find : ∀ y b, (H.upd (newE N live H' live)).find y = some b → (∃ x b0, x ∈ live ∧ y = renN N live x ∧ H'.find x = some b0 ∧ b0.rw = true ∧ (∀ n ∈ segNames b0.segs, n ∈ live) ∧ b = { b0 with segs := segRen (renN N live) b0.segs }) ∨ (H.find y = some b ∧ y < N) := by
    intro y b hy
    rcases upd_find_in hy with h1 | ⟨_, h1⟩
    · obtain ⟨x, b0, q1, q2, q3, q4, q5, q6⟩ := newE_names h1
      simp at q6
      exact .inl ⟨x, b0, q1, q2, q3, q4, q5, q6⟩
    · exact .inr ⟨h1, (heapBelow_find hb y b h1).1⟩
  have envOld : ∀ y, y < N → newEnv ρ ρ' N live y = ρ y := fun y hy => by simp [newEnv, hy]
  have newLoc : ∀ x b0 l, x ∈ live → H'.find x = some b0 → b0.rw = true → ρ' x = some l → w.heap.size ≤ l.b := by
    intro x b0 l hx hf hr hl
    obtain ⟨l', hl', _, _, _, _, q2, _⟩ := h.inv.blk x b0 hf
    rw [hl] at hl'; simp at hl'; subst hl'
    rcases h.prov x b0 l hf hl with ⟨z, kz, lz, hz, hlz, hbz, hrz⟩ | h'
    · have := hrz (by rw [q2, hr])
      rw [(roEnv_inv hlz).2.1] at this; simp at this
    · exact h'
  constructor
  · intro y hy
    unfold newEnv
    split
    · rfl
    · rw [List.getElem?_eq_none (by omega)]
  · exact h.os
  · exact h.tape
  · exact h.output
  · exact h.size
  · exact fun b hb2 _ => h.block b hb2 (noOwn b)
  · constructor
    · intro y b hy
      rcases find y b hy with ⟨x, b0, hx, rfl, hf, hr, hn, rfl⟩ | ⟨hf, hlt⟩
      · obtain ⟨l, hl, c, e, fr, q1, q2, q3, q4⟩ := h.inv.blk x b0 hf
        refine ⟨l, by rw [newEnv_live hab hx]; exact hl, c, e, fr, q1, q2, q3, fun o v hv => ?_⟩
        simp only [flat_ren, List.getElem?_map] at hv
        cases hq : (flat b0.segs)[o]? with
        | none => rw [hq] at hv; simp at hv
        | some u =>
          rw [hq] at hv; simp at hv; subst hv
          obtain ⟨x', hx', hr'⟩ := q4 o u hq
          exact ⟨x', hx', VR_ren u x' (fun n hn' => newEnv_live hab (hn n (flat_names _ u (List.mem_of_getElem? hq) n hn'))) hr'⟩
      · obtain ⟨l, hl, hbr⟩ := hi.blk y b hf
        refine ⟨l, by rw [envOld y hlt]; exact hl, ?_⟩
        obtain ⟨c, e, fr, q1, q2, q3, q4⟩ := hbr
        refine ⟨c, e, fr, by rw [h.block l.b (lt_size q1) (noOwn _)]; exact q1, q2, q3, fun o v hv => ?_⟩
        obtain ⟨z, hz, hr⟩ := q4 o v hv
        refine ⟨z, hz, VR_congr (fun n hn => envOld n ?_) hr⟩
        exact (heapBelow_find hb y b hf).2 n (flat_names _ v (List.mem_of_getElem? hv) n hn)
    · intro y z by' bz ly lz hy hz hly hlz hr hbb
      rcases find y by' hy with ⟨x, b0, hx, rfl, hf, hrw, _, _⟩ | ⟨hf, hlt⟩ <;> rcases find z bz hz with ⟨x', b0', hx', rfl, hf', hrw', _, _⟩ | ⟨hf', hlt'⟩
      · rw [newEnv_live hab hx] at hly
        rw [newEnv_live hab hx'] at hlz
        rw [h.inv.inj x x' b0 b0' ly lz hf hf' hly hlz hr hbb]
      · rw [newEnv_live hab hx] at hly
        rw [envOld z hlt'] at hlz
        have h1 := newLoc x b0 ly hx hf hrw hly
        obtain ⟨l2, hl2, hb2⟩ := hi.blk z bz hf'
        rw [hlz] at hl2; simp at hl2; subst hl2
        have := hb2.lt
        omega
      · rw [envOld y hlt] at hly
        rw [newEnv_live hab hx'] at hlz
        have h1 := newLoc x' b0' lz hx' hf' hrw' hlz
        obtain ⟨l2, hl2, hb2⟩ := hi.blk y by' hf
        rw [hly] at hl2; simp at hl2; subst hl2
        have := hb2.lt
        omega
      · rw [envOld y hlt] at hly
        rw [envOld z hlt'] at hlz
        exact hi.inj y z by' bz ly lz hf hf' hly hlz hr hbb
  · intro y k l hy hl
    rcases find y k hy with ⟨x, b0, hx, rfl, hf, hrw, _, _⟩ | ⟨hf, hlt⟩
    · rw [newEnv_live hab hx] at hl
      exact .inr (newLoc x b0 l hx hf hrw hl)
    · rw [envOld y hlt] at hl
      exact .inl ⟨y, k, l, hf, hl, rfl, id⟩

theorem quietA_sound {C : Oracle} (hC : Snd P C) {F : Cfg} {g : FuncId} {fn : Func} (hfn : P.funcs[g]? = some fn) (hF : FOK P fn F) (hname : (fn.name == "runtime.NumGoroutine") = false) {args : List AV} {H : Heap} {N : Nat} {K : AV → Eff → Nat → Option R}
    (h : quietA P C (drawA P) F fn args H N K = some r) : ∃ v e N', K v e N' = some r ∧ N ≤ N' ∧ Ans P g args H N v e N' := by
  unfold quietA at h
  cases hc : (heapBelow N H && allKept N [] (AV.namesL args)) with
  | false => rw [hc] at h; simp at h
  | true =>
    rw [hc] at h
    simp only [cond_true] at h
    simp only [Bool.and_eq_true] at hc
    have hbody : fn.body.isNone = false := by
      cases hb : fn.body with
      | none => simp [bodyA, hb] at h
      | some c => rfl
    obtain ⟨v, H', N', hk, hN, hcall⟩ := bodyA_sound hC hfn hF h
    try dsimp only at hk
    generalize liveGo N H' 400 v.names [] = live at hk
    cases hc2 : (nodupB live && aboveB N live && allIn live v.names) with
    | false => rw [hc2] at hk; simp at hk
    | true =>
      rw [hc2] at hk
      simp only [cond_true] at hk
      simp only [Bool.and_eq_true] at hc2
      refine ⟨_, _, _, hk, by omega, fun ρ w vs hvs hi hf => ?_⟩
      unfold Does
      rw [callFunc_enter hfn hname hbody]
      simp only
      have hargs : VRs (roEnv ρ N) args vs := VRs_ro args vs (fun n hn l hl => by
        have := allKept_iff hc.2 n hn
        simp at this
        exact roEnv_some this hl) hvs
      have hfr : FreshI (roEnv ρ N) N := by intro x hx; simp [roEnv]; intro h; omega
      refine (hcall (roEnv ρ N) w vs hargs (hi.ro hc.1) hfr).mono ?_
      rintro e w' ⟨v', rfl, ρ', hst, hv⟩
      refine ⟨v', rfl, newEnv ρ ρ' N live, step_quiet hi hc.1 hst (aboveB_iff hc2.1.2), VR_ren v v' (fun n hn => newEnv_live (aboveB_iff hc2.1.2) (allIn_iff hc2.2 n hn)) hv⟩
end
end Go.Sx

/- What a call answers: entries of an oracle, laid one upon another. -/
namespace Go.Sx
open Go
section
variable {P : Program} {R : Type} {r : R} {w : World} {ρ : Env}

/-- A function of plain values: what its body answers beside no memory, it answers beside any. -/
theorem pure_sound {C : Oracle} (hC : Snd P C) {F : Cfg} {g : FuncId} {fn : Func} (hfn : P.funcs[g]? = some fn) (hF : FOK P fn F) (hname : (fn.name == "runtime.NumGoroutine") = false)
    {args : List AV} {v : AV} (h : bodyA P C (drawA P) F fn args [] 0 (fun v _ _ => some v) = some v) (ha : AV.namesL args = []) (hv0 : v.names = []) (H : Heap) (N : Nat) : Ans P g args H N v [] N := by
  have hbody : fn.body.isNone = false := by
    cases hb : fn.body with
    | none => simp [bodyA, hb] at h
    | some c => rfl
  obtain ⟨v1, H', N', hk, hN, hcall⟩ := bodyA_sound hC hfn hF h
  cases hk
  intro ρ w vs hvs hi hf
  unfold Does
  rw [callFunc_enter hfn hname hbody]
  simp only
  have hargs : VRs (fun _ => none) args vs := VRs_congr (fun n hn => by rw [ha] at hn; simp at hn) hvs
  have hi0 : Inv (fun _ => none) [] w := ⟨fun x b hx => by simp [Heap.find] at hx, fun x y bx b' lx ly hx => by simp [Heap.find] at hx⟩
  refine (hcall (fun _ => none) w vs hargs hi0 (fun _ _ => rfl)).mono ?_
  rintro e w' ⟨v', rfl, ρ', hst, hv⟩
  have noOwn : ∀ b, ¬ Owned (fun _ => none) [] b := by
    rintro b ⟨x, k, l, hx, _⟩
    simp [Heap.find] at hx
  have hkeep : ∀ b, b < w.heap.size → w'.heap[b]? = w.heap[b]? := fun b hb => hst.block b hb (noOwn b)
  refine ⟨v', rfl, ρ, ⟨fun _ _ => rfl, hst.os, hst.tape, hst.output, hst.size, fun b hb _ => hkeep b hb, ?_, ?_⟩, VR_congr (fun n hn => by rw [hv0] at hn; simp at hn) hv⟩
  · exact ⟨fun x b hx => by
      obtain ⟨l, hl, hb⟩ := hi.blk x b hx
      refine ⟨l, hl, ?_⟩
      exact BlkRel.mono hb (fun _ _ h => h) (hkeep _ (BlkRel.lt hb)), hi.inj⟩
  · intro y k l hk hl
    exact .inl ⟨y, k, l, hk, hl, rfl, id⟩
end

def nothing : Oracle := fun _ _ _ _ _ _ => none
theorem nothing_snd {P : Program} : Snd P nothing := by
  intro R g args H N K r h; simp [nothing] at h

/-- One function's answers by a law of values alone. -/
def pureE (g : Nat) (s : List AV → Option AV) (C : Oracle) : Oracle := fun R g' args H N K =>
  bif Nat.beq g' g then (match s args with
    | some v => K v [] N
    | none => C R g' args H N K) else C R g' args H N K
/-- One function's answers by its body. -/
def inlE (P : Program) (g : Nat) (fn : Func) (F : Cfg) (D C : Oracle) : Oracle := fun R g' args H N K =>
  bif Nat.beq g' g then inlineA P D (drawA P) F fn args H N K else C R g' args H N K
def quietE (P : Program) (g : Nat) (fn : Func) (F : Cfg) (D C : Oracle) : Oracle := fun R g' args H N K =>
  bif Nat.beq g' g then quietA P D (drawA P) F fn args H N K else C R g' args H N K

def PureOK (P : Program) (g : FuncId) (s : List AV → Option AV) : Prop := ∀ args v, s args = some v → ∀ H N, Ans P g args H N v [] N

theorem pureE_snd {P : Program} {g : FuncId} {s : List AV → Option AV} {C : Oracle} (hs : PureOK P g s) (hC : Snd P C) : Snd P (pureE g s C) := by
  intro R g' args H N K r h
  unfold pureE at h
  cases hg : Nat.beq g' g with
  | false => rw [hg] at h; exact hC R g' args H N K r h
  | true =>
    rw [hg] at h
    have hg' : g' = g := Nat.eq_of_beq_eq_true hg
    subst hg'
    simp only [cond_true] at h
    cases hv : s args with
    | none => rw [hv] at h; exact hC R g' args H N K r h
    | some v => rw [hv] at h; exact ⟨v, [], N, h, Nat.le_refl _, hs args v hv H N⟩
theorem inlE_snd {P : Program} {g : FuncId} {fn : Func} {F : Cfg} {C D : Oracle} (hfn : P.funcs[g]? = some fn) (hname : (fn.name == "runtime.NumGoroutine") = false) (hD : Snd P D) (hC : Snd P C) (hF : FOK P fn F := by first | exact fok_nil rfl | assumption) : Snd P (inlE P g fn F D C) := by
  intro R g' args H N K r h
  unfold inlE at h
  cases hg : Nat.beq g' g with
  | false => rw [hg] at h; exact hC R g' args H N K r h
  | true =>
    rw [hg] at h
    have hg' : g' = g := Nat.eq_of_beq_eq_true hg
    subst hg'
    exact inlineA_sound hD hfn hF hname h
theorem quietE_snd {P : Program} {g : FuncId} {fn : Func} {F : Cfg} {C D : Oracle} (hfn : P.funcs[g]? = some fn) (hname : (fn.name == "runtime.NumGoroutine") = false) (hD : Snd P D) (hC : Snd P C) (hF : FOK P fn F := by first | exact fok_nil rfl | assumption) : Snd P (quietE P g fn F D C) := by
  intro R g' args H N K r h
  unfold quietE at h
  cases hg : Nat.beq g' g with
  | false => rw [hg] at h; exact hC R g' args H N K r h
  | true =>
    rw [hg] at h
    have hg' : g' = g := Nat.eq_of_beq_eq_true hg
    subst hg'
    exact quietA_sound hD hfn hF hname h

/-- A function of plain values, beside no memory. -/
def pureRun (P : Program) (C : Oracle) (F : Cfg) (fn : Func) (args : List AV) : Option AV := bodyA P C (drawA P) F fn args [] 0 (fun v _ _ => some v)

theorem pureOK_of {P : Program} {C : Oracle} (hC : Snd P C) {F : Cfg} {g : FuncId} {fn : Func} (hfn : P.funcs[g]? = some fn) (hname : (fn.name == "runtime.NumGoroutine") = false) {s : List AV → Option AV}
    (h : ∀ args v, s args = some v → pureRun P C F fn args = some v ∧ AV.namesL args = [] ∧ v.names = []) (hF : FOK P fn F := by first | exact fok_nil rfl | assumption) : PureOK P g s := by
  intro args v hv H N
  obtain ⟨h1, h2, h3⟩ := h args v hv
  exact pure_sound hC hfn hF hname h1 h2 h3 H N

/-- A law of plain values: what it answers, the program answers, and what was there stays. -/
theorem law_sound {P : Program} {C : Oracle} (hC : Snd P C) {F : Cfg} {g : FuncId} {fn : Func} (hfn : P.funcs[g]? = some fn) {args : List AV} {v : AV} (h : pureRun P C F fn args = some v)
    (ha : AV.namesL args = []) (hv0 : v.names = []) (w : World) {vs : List Value} (hvs : VRs (fun _ => none) args vs) (hF : FOK P fn F := by first | exact fok_nil rfl | assumption) :
    Calls P g vs.toArray w (fun e w' => (∃ v', e = .returned v' ∧ VR (fun _ => none) v v') ∧ w'.os = w.os ∧ w'.tape = w.tape ∧ w'.output = w.output ∧ w.heap.size ≤ w'.heap.size ∧ ∀ b, b < w.heap.size → w'.heap[b]? = w.heap[b]?) := by
  obtain ⟨v1, H', N', hk, hN, hcall⟩ := bodyA_sound hC hfn hF h
  cases hk
  have hi0 : Inv (fun _ => none) [] w := ⟨fun x b hx => by simp [Heap.find] at hx, fun x y bx b' lx ly hx => by simp [Heap.find] at hx⟩
  refine (hcall (fun _ => none) w vs hvs hi0 (fun _ _ => rfl)).mono ?_
  rintro e w' ⟨v', rfl, ρ', hst, hv⟩
  exact ⟨⟨v', rfl, VR_congr (fun n hn => by rw [hv0] at hn; simp at hn) hv⟩, hst.os, hst.tape, hst.output, hst.size, fun b hb => hst.block b hb (by rintro ⟨x, k, l, hx, _⟩; simp [Heap.find] at hx)⟩
end Go.Sx


/- Regions that draw their order: whatever order is drawn, the machine comes to what the executor tells. -/
import Derived.Test.YtaieimjeffedhaaSxN
set_option linter.unusedSimpArgs false
set_option linter.unusedVariables false
set_option linter.unnecessarySimpa false
namespace Go.Sx
open Go

section
variable {P : Program} {w : World} {ρ : Env} {R : Type} {r : R}

/-- What one operation comes to, whether it is wanted or not. -/
def OpDo (P : Program) (ops : Array Oper) (o : Oper) (ρ : Env) (H : Heap) (N : Nat) (w : World) (v : AV) (e : Eff) (N' : Nat) (a : Act) : Prop :=
  (Region.wanted o (yielded ops a.tmps) = true → Does P (execOp a.eval o) w (fun v' w' => Post ρ H N w e N' v v' w')) ∧
  (Region.wanted o (yielded ops a.tmps) = false → v = .tup [] ∧ e = [] ∧ N' = N)

theorem opE_sound {C : Oracle} (hC : Snd P C) {fl : Fl} {nt : Nat} {ops : Array Oper} {o : Oper} {tm : TM} {H : Heap} {N : Nat} {K : Option (Nat × Bool) → AV → Eff → Nat → Option R} (h : opE P C fl nt ops o tm H N K = some r) :
    ∃ g v e N', K g v e N' = some r ∧ N ≤ N' ∧ (∀ d b, g = some (d, b) → d < nt ∧ tm.get d = .bool b) ∧
      ∀ (ρ : Env) (a : Act) (w : World), Tms ρ nt tm a → Inv ρ H w → Fresh ρ N N' → OpDo P ops o ρ H N w v e N' a := by
  unfold opE at h
  simp only [opF_eq] at h
  split at h
  · rename_i hg
    obtain ⟨v, e, N', hk, hN, hall⟩ := opA_sound hC h
    exact ⟨none, v, e, N', hk, hN, by simp, fun ρ a w ht hi hf => ⟨fun _ => hall ρ w a.eval o rfl (fun x => ht.ev x) hi hf, fun hw => by simp [Region.wanted, hg] at hw⟩⟩
  · rename_i j want hg
    split at h
    · simp at h
    · rename_i d hd
      cases hdn : Nat.blt d nt with
      | false => rw [hdn] at h; simp at h
      | true =>
        rw [hdn] at h
        simp only [cond_true] at h
        rw [blt_true] at hdn
        split at h
        · rename_i b hb
          have known : ∀ (ρ : Env) (a : Act), Tms ρ nt tm a → a.tmps.getD d undef = .bool b := by
            intro ρ a ht
            have := ht.2 d
            rw [hb] at this
            simpa only [VR] using this
          have tmk : ∀ (ρ : Env) (a : Act), Tms ρ nt tm a → Tms ρ nt (tm.set 12 d (.bool b)) a := fun ρ a ht => ht.know (by rw [known ρ a ht]; simp only [VR])
          have wt : ∀ (ρ : Env) (a : Act), Tms ρ nt tm a → Region.wanted o (yielded ops a.tmps) = (b == want) := by
            intro ρ a ht
            simp only [Region.wanted, hg, yielded_some hd (known ρ a ht)]
            cases b <;> cases want <;> rfl
          have run : ∀ b', b' = b → (b == want) = true → opA P C o.op (tm.set 12 d (.bool b')) H N (K (some (d, b'))) = some r → ∃ g v e N', K g v e N' = some r ∧ N ≤ N' ∧ (∀ d b, g = some (d, b) → d < nt ∧ tm.get d = .bool b) ∧
              ∀ (ρ : Env) (a : Act) (w : World), Tms ρ nt tm a → Inv ρ H w → Fresh ρ N N' → OpDo P ops o ρ H N w v e N' a := by
            rintro b' rfl hw h
            obtain ⟨v, e, N', hk, hN, hall⟩ := opA_sound hC h
            refine ⟨_, v, e, N', hk, hN, fun d' b'' hg' => ?_, fun ρ a w ht hi hf => ⟨fun _ => hall ρ w a.eval o rfl (fun x => (tmk ρ a ht).ev x) hi hf, fun hw' => ?_⟩⟩
            · simp at hg'; obtain ⟨rfl, rfl⟩ := hg'; exact ⟨hdn, hb⟩
            · rw [wt ρ a ht, hw] at hw'; simp at hw'
          have skip : ∀ b', b' = b → (b == want) = false → K (some (d, b')) (.tup []) [] N = some r → ∃ g v e N', K g v e N' = some r ∧ N ≤ N' ∧ (∀ d b, g = some (d, b) → d < nt ∧ tm.get d = .bool b) ∧
              ∀ (ρ : Env) (a : Act) (w : World), Tms ρ nt tm a → Inv ρ H w → Fresh ρ N N' → OpDo P ops o ρ H N w v e N' a := by
            rintro b' rfl hw h
            refine ⟨_, _, _, _, h, Nat.le_refl _, fun d' b'' hg' => ?_, fun ρ a w ht hi hf => ⟨fun hw' => ?_, fun _ => ⟨rfl, rfl, rfl⟩⟩⟩
            · simp at hg'; obtain ⟨rfl, rfl⟩ := hg'; exact ⟨hdn, hb⟩
            · rw [wt ρ a ht, hw] at hw'; simp at hw'
          cases b <;> cases want <;> simp only [cond_true, cond_false] at h
          · exact run false rfl rfl h
          · exact skip false rfl rfl h
          · exact skip true rfl rfl h
          · exact run true rfl rfl h
        · rename_i hb
          refine ⟨_, _, _, _, h, Nat.le_refl _, by simp, fun ρ a w ht hi hf => ⟨fun hw => ?_, fun _ => ⟨rfl, rfl, rfl⟩⟩⟩
          have : a.tmps.getD d undef = undef := by
            have := ht.2 d
            rw [hb] at this
            simp only [VR] at this
            obtain ⟨x, hx, hl⟩ := this
            simp at hl
            rw [hx, hl]; rfl
          simp [Region.wanted, hg, yielded_none hd this] at hw
        · simp at h

/-- One operation of the executor's way through a region. -/
structure DR where
  o : Oper
  tmF : TM
  F : Heap
  v : AV
  e : Eff
  N : Nat
  N' : Nat
  tm : TM
  H : Heap
  tm' : TM

def Chain : List DR → TM → Heap → Nat → TM → Heap → Nat → Prop
  | [], tm, H, N, tm', H', N' => tm' = tm ∧ H' = H ∧ N' = N
  | d :: L, tm, H, N, tmN, HN, NN => d.tm = tm ∧ d.H = H ∧ d.N = N ∧ Chain L d.tm' (H.upd d.e) d.N' tmN HN NN

structure DR.Ok (P : Program) (nt : Nat) (ops : Array Oper) (an : List Nat) (j : Nat) (d : DR) : Prop where
  ho : ops.toList[j]? = some d.o
  edge : edgesOk j d.o.after.toList = true
  dst : okD nt d.o.dst = true
  dsts : ∀ (k : Nat) (o' : Oper) (t : Tmp), ops.toList[k]? = some o' → unord an k j = true → d.o.dst = some t → o'.dst ≠ some t
  sound : ∀ (ρ : Env) (a : Act) (w : World), Tms ρ nt d.tmF a → Inv ρ d.F w → Fresh ρ d.N d.N' → OpDo P ops d.o ρ d.F d.N w d.v d.e d.N' a
  tmf : ∀ t, d.tmF.get t = .any ∨ ((∀ (k : Nat) (o' : Oper), ops.toList[k]? = some o' → unord an k j = true → o'.dst ≠ some t) ∧ d.tmF.get t = d.tm.get t)
  fH : ∀ x b, d.F.find x = some b → d.H.find x = some b
  nm : ∀ x ∈ namesOf d.e, d.F.find x ≠ none ∨ (d.N ≤ x ∧ x < d.N')
  NN : d.N ≤ d.N'
  tms : ∀ t, d.tm'.get t = .any ∨ (d.o.dst = some t ∧ d.tm'.get t = d.v) ∨ (d.o.dst ≠ some t ∧ d.tm'.get t = d.tm.get t)

theorem learn_get {nt : Nat} {tm tmF : TM} {g : Option (Nat × Bool)} (hg : ∀ d b, g = some (d, b) → d < nt ∧ tmF.get d = .bool b) (hF : ∀ t, tmF.get t = .any ∨ tmF.get t = tm.get t) (t : Nat) : (learn g tm).get t = .any ∨ (learn g tm).get t = tm.get t := by
  cases g with
  | none => exact .inr rfl
  | some p =>
    obtain ⟨d, b⟩ := p
    simp only [learn]
    rcases TM_get_set 12 tm d (.bool b) t with h | ⟨h, h'⟩ | ⟨h, h'⟩
    · exact .inl h
    · subst h
      right
      obtain ⟨_, h2⟩ := hg t b rfl
      rcases hF t with h3 | h3
      · rw [h2] at h3; simp at h3
      · rw [h', ← h3, h2]
    · exact .inr h'
theorem putT_get (d : Option Tmp) (v : AV) (tm : TM) (t : Nat) : (putT d v tm).get t = .any ∨ (d = some t ∧ (putT d v tm).get t = v) ∨ (d ≠ some t ∧ (putT d v tm).get t = tm.get t) := by
  cases d with
  | none => exact .inr (.inr ⟨by simp, rfl⟩)
  | some d =>
    simp only [putT]
    rcases TM_get_set 12 tm d v t with h | ⟨h, h'⟩ | ⟨h, h'⟩
    · exact .inl h
    · exact .inr (.inl ⟨by rw [h], h'⟩)
    · exact .inr (.inr ⟨by simp; exact fun e => h e.symm, h'⟩)

theorem drawGo_trace {C : Oracle} (hC : Snd P C) {fl : Fl} {nt : Nat} {ops : Array Oper} {an : List Nat} : ∀ {rest : List Oper} {j : Nat} {tm : TM} {H : Heap} {N : Nat} {recs : Recs} {K : TM → Heap → Nat → Option R}, ops.toList.drop j = rest → drawGo P C fl nt ops an rest j tm H N recs K = some r →
    ∃ (L : List DR) (tmN : TM) (HN : Heap) (NN : Nat), K tmN HN NN = some r ∧ L.length = rest.length ∧ Chain L tm H N tmN HN NN ∧ (∀ (k : Nat) (d : DR), L[k]? = some d → d.Ok P nt ops an (j + k)) ∧
      (∀ (k : Nat) (d : DR) (i : Nat) (ns dom : List Nat), L[k]? = some d → (i, ns, dom) ∈ recs → unord an i (j + k) = true → (∀ x b, d.F.find x = some b → x ∉ ns) ∧ (∀ x ∈ namesOf d.e, x ∉ dom)) ∧
      (∀ (k k' : Nat) (d d' : DR), L[k]? = some d → L[k']? = some d' → k' < k → unord an (j + k') (j + k) = true → (∀ x b, d.F.find x = some b → x ∉ namesOf d'.e) ∧ (∀ x ∈ namesOf d.e, d'.F.find x = none))
  | [], j, tm, H, N, recs, K, hl, h => ⟨[], tm, H, N, h, rfl, ⟨rfl, rfl, rfl⟩, by simp, by simp, by simp⟩
  | o :: rest, j, tm, H, N, recs, K, hl, h => by
    simp only [drawGo, fT_eq, fH_eq] at h
    cases hc : (edgesOk j o.after.toList && okD nt o.dst && dstsOk an j o.dst ops.toList 0) with
    | false => rw [hc] at h; simp at h
    | true =>
      rw [hc] at h
      simp only [cond_true] at h
      simp only [Bool.and_eq_true] at hc
      obtain ⟨⟨hedge, hdst⟩, hdsts⟩ := hc
      obtain ⟨g, v, e, N', h1, hN, hg, hsound⟩ := opE_sound hC h
      generalize hT : maskT an j ops.toList 0 tm = tmF at *
      generalize hFF : seenH an j (viewA o.op tmF) recs H = F at *
      cases hc2 : (namesOk F N N' (namesOf e) && freeOf an j (namesOf e) recs) with
      | false => rw [hc2] at h1; simp at h1
      | true =>
        rw [hc2] at h1
        simp only [cond_true] at h1
        simp only [Bool.and_eq_true] at hc2
        have hl' : ops.toList.drop (j + 1) = rest := by rw [← List.drop_drop, hl]; rfl
        have hoj : ops.toList[j]? = some o := by
          have : (ops.toList.drop j)[0]? = some o := by rw [hl]; rfl
          rw [List.getElem?_drop] at this
          simpa using this
        obtain ⟨L, tmN, HN, NN, hk, hlen, hch, hok, hrec, hcross⟩ := drawGo_trace hC hl' h1
        have hmask : ∀ t, tmF.get t = .any ∨ ((∀ (k : Nat) (o' : Oper), ops.toList[k]? = some o' → unord an k j = true → o'.dst ≠ some t) ∧ tmF.get t = tm.get t) := by
          intro t
          rw [← hT]
          rcases maskT_get (an := an) (j := j) (l := ops.toList) (i := 0) (tm := tm) t with h | ⟨h, h'⟩
          · exact .inl h
          · exact .inr ⟨fun k o' hk hu => h k o' hk (by simpa using hu), h'⟩
        let d : DR := ⟨o, tmF, F, v, e, N, N', tm, H, putT o.dst v (learn g tm)⟩
        have hd : d.Ok P nt ops an j := by
          refine ⟨hoj, hedge, hdst, ?_, hsound, hmask, fun x b hx => ?_, namesOk_iff hc2.1, hN, fun t => ?_⟩
          · intro k o' t hk hu ht
            have ht' : o.dst = some t := ht
            rw [ht'] at hdsts
            exact dstsOk_iff hdsts k o' hk (by simpa using hu)
          · have hx' : (seenH an j (viewA o.op tmF) recs H).find x = some b := by rw [hFF]; exact hx
            exact (seenH_find hx').1
          · rcases putT_get o.dst v (learn g tm) t with h | h | ⟨h, h'⟩
            · exact .inl h
            · exact .inr (.inl h)
            · rcases learn_get hg (fun t => (hmask t).imp id And.right) t with h2 | h2
              · left; show (putT o.dst v (learn g tm)).get t = .any; rw [h', h2]
              · exact .inr (.inr ⟨h, h'.trans h2⟩)
        refine ⟨d :: L, tmN, HN, NN, hk, by simp [hlen], ⟨rfl, rfl, rfl, hch⟩, ?_, ?_, ?_⟩
        · intro k d' hk'
          cases k with
          | zero => simp at hk'; subst hk'; exact hd
          | succ k => rw [show j + (k + 1) = j + 1 + k by omega]; exact hok k d' (by simpa using hk')
        · intro k d' i ns dom hk' hm hu
          cases k with
          | zero =>
            simp at hk'; subst hk'
            refine ⟨fun x b hx => ?_, fun x hx => freeOf_iff hc2.2 i ns dom hm (by simpa using hu) x hx⟩
            have hx' : (seenH an j (viewA o.op tmF) recs H).find x = some b := by rw [hFF]; exact hx
            exact hidden_false (seenH_find hx').2 i ns dom hm (by simpa using hu)
          | succ k => exact hrec k d' i ns dom (by simpa using hk') (by simp [hm]) (by rw [show j + 1 + k = j + (k + 1) by omega]; exact hu)
        · intro k k' d1 d2 h1 h2 hlt hu
          cases k with
          | zero => omega
          | succ k =>
            cases k' with
            | zero =>
              simp at h2; subst h2
              obtain ⟨q1, q2⟩ := hrec k d1 j (namesOf e) (domH F) (by simpa using h1) (by simp) (by rw [show j + 1 + k = j + (k + 1) by omega]; simpa using hu)
              exact ⟨q1, fun x hx => domH_find (q2 x hx)⟩
            | succ k' => exact hcross k k' d1 d2 (by simpa using h1) (by simpa using h2) (by omega) (by rw [show j + 1 + k' = j + (k' + 1) by omega, show j + 1 + k = j + (k + 1) by omega]; exact hu)

/-! the frame -/
theorem Step.widen {H H' : Heap} {N N' M M' : Nat} {ρ' : Env} {w' : World} (h : Step ρ H N w ρ' H' N' w') (h1 : M ≤ N) (h2 : N' ≤ M') : Step ρ H M w ρ' H' M' w' :=
  { h with ext := fun x hx => h.ext x (by omega) }
theorem Step.trans' {H H1 H2 : Heap} {N N' : Nat} {ρ1 ρ2 : Env} {w1 w2 : World} (h : Step ρ H N w ρ1 H1 N' w1) (k : Step ρ1 H1 N w1 ρ2 H2 N' w2) : Step ρ H N w ρ2 H2 N' w2 where
  ext x hx := by rw [k.ext x hx, h.ext x hx]
  os := k.os.trans h.os
  tape := k.tape.trans h.tape
  output := k.output.trans h.output
  size := Nat.le_trans h.size k.size
  block b hb hn := by
    rw [k.block b (Nat.lt_of_lt_of_le hb h.size) ?_, h.block b hb hn]
    intro ho
    rcases h.own b ho with h' | h'
    · exact hn h'
    · omega
  inv := k.inv
  prov y q l hy hl := by
    rcases k.prov y q l hy hl with ⟨z, kz, lz, hz, hlz, hb, hrw⟩ | h'
    · rcases h.prov z kz lz hz hlz with ⟨u, ku, lu, hu, hlu, hb2, hrw2⟩ | h2
      · exact .inl ⟨u, ku, lu, hu, hlu, hb2.trans hb, fun hh => hrw2 (hrw hh)⟩
      · exact .inr (by rw [← hb]; exact h2)
    · exact .inr (Nat.le_trans h.size h')
theorem Inv.congr {H H' : Heap} (h : Inv ρ H w) (he : ∀ x, H'.find x = H.find x) : Inv ρ H' w :=
  ⟨fun x b hx => h.blk x b (by rw [← he]; exact hx), fun x y bx b' lx ly hx hy => h.inj x y bx b' lx ly (by rw [← he]; exact hx) (by rw [← he]; exact hy)⟩
theorem Step.congr {H H1 H2 : Heap} {N N' : Nat} {ρ' : Env} {w' : World} (h : Step ρ H N w ρ' H1 N' w') (he : ∀ x, H2.find x = H1.find x) : Step ρ H N w ρ' H2 N' w' :=
  { h with
    inv := h.inv.congr he
    prov := fun y k l hy hl => h.prov y k l (by rw [← he]; exact hy) hl }
theorem Inv.sub {F H : Heap} (h : Inv ρ H w) (hs : ∀ x b, F.find x = some b → H.find x = some b) : Inv ρ F w :=
  ⟨fun x b hx => h.blk x b (hs x b hx), fun x y bx b' lx ly hx hy => h.inj x y bx b' lx ly (hs x bx hx) (hs y b' hy)⟩

/-- What holds of a part of memory holds of all of it. -/
theorem Step.frame {F H : Heap} {e : Eff} {N N' : Nat} {ρ' : Env} {w' : World} (h : Step ρ F N w ρ' (F.upd e) N' w') (hf : Fresh ρ N N') (hi : Inv ρ H w) (hs : ∀ x b, F.find x = some b → H.find x = some b)
    (hn : ∀ x ∈ namesOf e, F.find x ≠ none ∨ (N ≤ x ∧ x < N')) : Step ρ H N w ρ' (H.upd e) N' w' := by
  have hle := h.le hf
  have hown : ∀ b, Owned ρ F b → Owned ρ H b := fun b ⟨x, k, l, hx, r⟩ => ⟨x, k, l, hs x k hx, r⟩
  -- a name of H that e does not name stands where it stood
  have old : ∀ x b, x ∉ namesOf e → H.find x = some b → ∃ l, ρ x = some l ∧ ρ' x = some l ∧ BlkRel ρ w l b := by
    intro x b hx hb
    obtain ⟨l, hl, hbr⟩ := hi.blk x b hb
    exact ⟨l, hl, hle _ _ hl, hbr⟩
  -- what F holds of it too, or its block is none that F's step touches
  have keep : ∀ x b, x ∉ namesOf e → H.find x = some b → ∃ l, ρ' x = some l ∧ BlkRel ρ' w' l b := by
    intro x b hx hb
    obtain ⟨l, hl, hl', hbr⟩ := old x b hx hb
    cases hfx : F.find x with
    | some b' =>
      have := hs x b' hfx
      rw [hb] at this; simp at this; subst this
      obtain ⟨l2, hl2, hbr2⟩ := h.inv.blk x b (by rw [upd_find_other hx]; exact hfx)
      exact ⟨l2, hl2, hbr2⟩
    | none =>
      refine ⟨l, hl', hbr.mono hle (h.block l.b hbr.lt ?_)⟩
      rintro ⟨y, k, ly, hy, hly, hrw, hb'⟩
      have := hi.inj y x k b ly l (hs y k hy) hb hly hl hrw hb'
      subst this
      rw [hfx] at hy; simp at hy
  constructor
  · exact h.ext
  · exact h.os
  · exact h.tape
  · exact h.output
  · exact h.size
  · exact fun b hb hno => h.block b hb (fun ho => hno (hown b ho))
  · constructor
    · intro x b hx
      by_cases hxe : x ∈ namesOf e
      · exact h.inv.blk x b (by rw [← hx]; exact upd_find_mem hxe)
      · rw [upd_find_other hxe] at hx
        exact keep x b hxe hx
    · intro x y bx b' lx ly hx hy hlx hly hrw hb
      by_cases hxe : x ∈ namesOf e <;> by_cases hye : y ∈ namesOf e
      · exact h.inv.inj x y bx b' lx ly (by rw [← hx]; exact upd_find_mem hxe) (by rw [← hy]; exact upd_find_mem hye) hlx hly hrw hb
      · -- x is e's, y is not
        rw [upd_find_other hye] at hy
        obtain ⟨l, hl, hl', hbr⟩ := old y b' hye hy
        rw [hly] at hl'; simp at hl'; subst hl'
        have hxF : (F.upd e).find x = some bx := by rw [← hx]; exact upd_find_mem hxe
        cases hfy : F.find y with
        | some b2 => exact h.inv.inj x y bx b2 lx ly hxF (by rw [upd_find_other hye]; exact hfy) hlx hly hrw hb
        | none =>
          exfalso
          rcases h.prov x bx lx hxF hlx with ⟨z, k, lz, hz, hlz, hbz, hrz⟩ | hge
          · have := hi.inj z y k b' lz ly (hs z k hz) hy hlz hl (hrz hrw) (by rw [hbz, hb])
            subst this
            rw [hfy] at hz; simp at hz
          · have := hbr.lt
            rw [← hb] at this; omega
      · rw [upd_find_other hxe] at hx
        obtain ⟨l, hl, hl', hbr⟩ := old x bx hxe hx
        rw [hlx] at hl'; simp at hl'; subst hl'
        have hyF : (F.upd e).find y = some b' := by rw [← hy]; exact upd_find_mem hye
        cases hfx : F.find x with
        | some b2 => exact h.inv.inj x y b2 b' lx ly (by rw [upd_find_other hxe]; exact hfx) hyF hlx hly hrw hb
        | none =>
          exfalso
          rcases h.prov y b' ly hyF hly with ⟨z, k, lz, hz, hlz, hbz, _⟩ | hge
          · have := hi.inj x z bx k lx lz hx (hs z k hz) hl hlz hrw (by rw [hbz, hb])
            subst this
            rw [hfx] at hz; simp at hz
          · have := hbr.lt
            rw [hb] at this; omega
      · rw [upd_find_other hxe] at hx
        rw [upd_find_other hye] at hy
        obtain ⟨l, hl, hl', hbr⟩ := old x bx hxe hx
        obtain ⟨m, hm, hm', hbm⟩ := old y b' hye hy
        rw [hlx] at hl'; simp at hl'; subst hl'
        rw [hly] at hm'; simp at hm'; subst hm'
        exact hi.inj x y bx b' lx ly hx hy hl hm hrw hb
  · intro x k l hx hl
    by_cases hxe : x ∈ namesOf e
    · rcases h.prov x k l (by rw [← hx]; exact upd_find_mem hxe) hl with ⟨z, kz, lz, hz, r⟩ | h1
      · exact .inl ⟨z, kz, lz, hs z kz hz, r⟩
      · exact .inr h1
    · rw [upd_find_other hxe] at hx
      obtain ⟨l', hl1, hl2, _⟩ := old x k hxe hx
      rw [hl] at hl2; simp at hl2; subst hl2
      exact .inl ⟨x, k, l, hx, hl1, rfl, id⟩
end
end Go.Sx
